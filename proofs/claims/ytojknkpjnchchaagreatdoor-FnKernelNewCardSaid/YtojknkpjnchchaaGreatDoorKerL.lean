/- Contracts of the functions that walk from table to table: what can be reached. No conditions but the readings of the arguments. -/
import Derived.Test.YtojknkpjnchchaaGreatDoorKerK
import Derived.Test.YtojknkpjnchchaaGreatDoorTabB
namespace Go.Proofs.YtojknkpjnchchaaGreatDoor
open Go.ChangeShapes Go.WideShapes Go.ChangeAt Go.RowKit
set_option linter.all false
set_option maxRecDepth 100000
attribute [local go_sem ↓] Go.wp_at_zero Go.wp_at_succ

/-- The frames that the words of frames name. -/
def allN (m : List (List Int)) (fs : List Int) : List Int := fs.flatMap fun f => names (rowAt m f)
def namedL (m : List (List Int)) (fs : List Int) : List Int := uniq (allN m fs)
def reachL (m : List (List Int)) (root : Int) : List Int := if root < 0 then [] else uniq (root :: (namedL m [root] ++ namedL m (namedL m [root])))
theorem allN_succ (m : List (List Int)) {fs : List Int} {k : Nat} {f : Int} (h : fs[k]? = some f) : allN m (fs.take (k + 1)) = allN m (fs.take k) ++ names (rowAt m f) := by
  unfold allN; rw [List.take_add_one, h]; simp
theorem allN_mem {m : List (List Int)} {fs : List Int} {x : Int} (h : x ∈ allN m fs) : 0 ≤ x ∧ x ≤ 11 := by
  unfold allN at h
  obtain ⟨f, -, hx⟩ := List.mem_flatMap.1 h
  exact names_mem hx
theorem allN_len {m : List (List Int)} (hm : memOk m = true) {fs : List Int} (hf : ∀ f ∈ fs, 0 ≤ f ∧ f ≤ 11) : (allN m fs).length ≤ 4 * fs.length := by
  unfold allN
  induction fs with
  | nil => exact Nat.le_refl _
  | cons f t ih =>
    have h1 := ih (fun g hg => hf g (by simp [hg]))
    have h2 := hf f (by simp)
    obtain ⟨k, rfl⟩ := Int.eq_ofNat_of_zero_le h2.1
    obtain ⟨ws, hws⟩ : ∃ ws, m[k]? = some ws := ⟨_, List.getElem?_eq_getElem (by have := memOk_len hm; omega)⟩
    have h3 := wordsOk_len (memOk_all hm (List.mem_of_getElem? hws))
    have h4 := names_le ws
    simp only [List.flatMap_cons, List.length_append, rowAt_eq hws, List.length_cons]
    omega
theorem namedL_mem {m : List (List Int)} {fs : List Int} {x : Int} (h : x ∈ namedL m fs) : 0 ≤ x ∧ x ≤ 11 := (uniq_mem.1 h).1
theorem namedL_len (m : List (List Int)) (fs : List Int) : (namedL m fs).length ≤ 12 := uniq_len _

set_option maxHeartbeats 8000000 in
theorem named_c (m : List (List Int)) (fs : List Int) (v v2 : Value) (w : World) (hm : RdII w v m) (hf : RdI w v2 fs) (hmo : memOk m = true) (hfs : ∀ f ∈ fs, 0 ≤ f ∧ f ≤ 11) (hl : fs.length ≤ 12) :
    Calls Tryz.prog 109 #[v, v2] w fun e w' => ∃ u, e = .returned u ∧ OwI w.heap.size w' u (namedL m fs) ∧ Below w.heap.size w w' := by
  have HM := Lib.hid hm
  have HMO := Lib.hid hmo
  have HML := Lib.hid (memOk_len hmo)
  have HFS := Lib.hid hfs
  have HAL := Lib.hid (fun k : Nat => (show (allN m (fs.take k)).length ≤ 48 from Nat.le_trans (allN_len hmo fun f hf => hfs f (List.mem_of_mem_take hf)) (by rw [List.length_take]; omega)))
  have HTT := Lib.hid (compact_sort (zs := allN m fs) fun x hx => allN_mem hx)
  obtain ⟨n, hn⟩ : ∃ n, n = fs.length := ⟨_, rfl⟩
  obtain ⟨a, c, rfl, h1, h2, -, h3⟩ := hf
  rw [← hn] at h1 hl ⊢
  have HN := Lib.hid hn
  have H3 := Lib.hid h3
  unfold maxLen at h2
  obtain ⟨w0', hw0⟩ : ∃ ws, m[0]? = some ws := ⟨_, List.getElem?_eq_getElem (by rw [memOk_len hmo]; omega)⟩
  obtain ⟨ad, cm, s0, rfl, s1, s2, s3, -, -, -, -⟩ := RdN.rowOf hm hw0
  rw [HML.out] at s1 s3 HM ⊢
  unfold maxLen at s2
  clear hn h3 hm hmo hfs hw0 s3
  go_enter Tryz.func109, Tryz.ntmps109
  go_wp2
  go_loopw [5, 15] (fun ov i wr => ∃ k : Nat, k ≤ n ∧ i = .int .i64 k ∧ Bun w none wr [Res.row encI 1 3 ov (allN m (fs.take k))]) (fun _ i _ => n - (intOf i).toNat)
  case atStart => exact ⟨0, Nat.zero_le _, rfl, (Bun.refl w none).free (Res.row encI 1 3 (.slice none 0 0) []) (World.ownsRow_nil _ _ _ _) (by intro k h; have h2 : (Value.slice none 0 0).ownBlock = some k := h; simp [Value.ownBlock] at h2)⟩
  case round =>
    obtain ⟨k, hk, rfl, hb⟩ := hrel
    have HB := Lib.hid hb
    clear hb
    by_cases hlt : k < n
    rotate_left
    · have hkn : k = n := by omega
      subst hkn
      have hE := HB.out
      rw [List.take_of_length_le (by have := HN.out; omega)] at hE
      have HE := Lib.hid hE
      have HLL := Lib.hid (show (allN m fs).length ≤ 1000000 by have h5 := HAL.out k; rw [List.take_of_length_le (by have := HN.out; omega)] at h5; omega)
      clear hE HB
      go_wp2_with fail
      refine (sortI_b (allN m fs) _ HE.out HLL.out).mono ?_
      rintro e w1 ⟨rfl, hb1⟩
      have HS := Lib.hid hb1
      clear hb1 HE
      go_wp2_with fail
      refine (compactI_b (sortI (allN m fs)) _ HS.out (by rw [sortI_len]; exact HLL.out)).mono ?_
      rintro e w2 ⟨u, rfl, hb2⟩
      rw [HTT.out] at hb2
      have HC := Lib.hid hb2
      clear hb2 HS
      go_wp2
      go_ret
      exact ⟨_, rfl, HC.out.ow 0 rfl, HC.out.below⟩
    obtain ⟨f, hf⟩ : ∃ f, fs[k]? = some f := ⟨_, List.getElem?_eq_getElem (by have := HN.out; omega)⟩
    obtain ⟨b, o, rfl, hbl, hc⟩ := H3.out k f hf
    have d0 := (HB.out.below.cell (p := ⟨b, o + k * 1 + 0, none⟩) hbl).trans (hc 0 _ rfl)
    simp only [Nat.mul_one, Nat.add_zero] at d0
    have hfr := HFS.out f (List.mem_of_getElem? hf)
    obtain ⟨t, rfl⟩ := Int.eq_ofNat_of_zero_le hfr.1
    have ht : t < 12 := by omega
    have ht0 : (0 : Int) ≤ (t : Int) := by omega
    have ht1 : (t : Int) < 12 := by omega
    obtain ⟨ws, hws⟩ : ∃ ws, m[t]? = some ws := ⟨_, List.getElem?_eq_getElem (by have := HML.out; omega)⟩
    obtain ⟨ad2, cm2, s, e1, -, -, -, hbl2, hsp, hcell, hrd⟩ := RdN.rowOf HM.out hws
    simp only [Value.slice.injEq, Option.some.injEq] at e1
    obtain ⟨rfl, -, rfl⟩ := e1
    obtain ⟨mb, mo, sp⟩ := ad
    simp only at hsp hbl2 hcell
    subst hsp
    have hwl := wordsOk_len (memOk_all HMO.out (List.mem_of_getElem? hws))
    have HW := Lib.hid (fun x hx => words_in (memOk_all HMO.out (List.mem_of_getElem? hws)) (x := x) hx)
    have c0 := (HB.out.below.cell (p := ⟨mb, mo + t, none⟩) hbl2).trans hcell
    have HWL := Lib.hid hwl
    have HSUC := Lib.hid (show allN m (fs.take (k + 1)) = allN m (fs.take k) ++ names ws by rw [allN_succ m hf, rowAt_eq hws])
    obtain ⟨sa, sc, hse, q1, q2, -, q3⟩ := hrd
    obtain ⟨s1', s2', s3'⟩ := s
    simp only [slv, Value.slice.injEq] at hse
    obtain ⟨rfl, rfl, rfl⟩ := hse
    have Q3 := Lib.hid q3
    rw [hwl] at c0 q1
    simp only [slv] at c0
    unfold maxLen at q2
    clear hc hf hws hwl hcell q3
    go_wp2
    go_loopw [5, 24] (fun ov i wr2 => ∃ j : Nat, j ≤ 4 ∧ i = .int .i64 j ∧ Bun w none wr2 [Res.row encI 1 3 ov (allN m (fs.take k) ++ names (ws.take j))]) (fun _ i _ => 4 - (intOf i).toNat)
    case atStart => exact ⟨0, Nat.zero_le _, rfl, by simpa [names] using HB.out⟩
    case round =>
      obtain ⟨j, hj, rfl, hb⟩ := hrel
      have HB2 := Lib.hid hb
      clear hb HB
      by_cases hlt2 : j < 4
      · obtain ⟨x, hx⟩ : ∃ x, ws[j]? = some x := ⟨_, List.getElem?_eq_getElem (by have := HWL.out; omega)⟩
        obtain ⟨b2, o2, rfl, hbl3, hc2⟩ := Q3.out j x hx
        have e0 := (HB2.out.below.cell (p := ⟨b2, o2 + j * 1 + 0, none⟩) hbl3).trans (hc2 0 _ rfl)
        simp only [Nat.mul_one, Nat.add_zero] at e0
        have hxr := HW.out x (List.mem_of_getElem? hx)
        have HX := Lib.hid hx
        clear hx hc2
        go_wp2_with fail
        refine (implEntryGet_c x _ hxr).mono ?_
        rintro e w1 ⟨rfl, rfl⟩
        cases he : entB x
        · have HS := Lib.hid (names_skip HX.out he)
          clear he
          go_wp2
          go_roundw
          case rel => exact ⟨j + 1, by omega, by go_num, by rw [HS.out]; exact HB2.out⟩
          case measure => simp [intOf]; omega
        · have HS := Lib.hid (names_succ HX.out he)
          have hI : entI x = x / 4 := by simp [entI, he]
          have HLE := Lib.hid (show (allN m (fs.take k) ++ names (ws.take j)).length ≤ 1000 by have h5 := HAL.out k; have h6 := names_le (ws.take j); rw [List.length_take] at h6; rw [List.length_append]; omega)
          clear he
          rw [hI]
          clear hI
          generalize x / 4 = y at *
          have H1 := Lib.hid ((HB2.out.lits eltInt #[.int .i64 y] [y] 1 rfl rfl (by omega)).front 1 rfl)
          go_wp2_with (at_builtin; refine append_b eltInt rfl _ _ rfl _ _ [y] rfl rfl H1.out (H1.out.rd 1 rfl encI_len) (by have := HLE.out; simp only [List.length_cons, List.length_nil]; omega) ?_; intro v2 w2 H2 hnil2; have H4 := Lib.hid ((H2.front 1 rfl).drop); clear H2 hnil2 H1)
          go_roundw
          case rel => exact ⟨j + 1, by omega, by go_num, by rw [HS.out, ← List.append_assoc]; exact H4.out⟩
          case measure => simp [intOf]; omega
      · have hE := HB2.out
        rw [show ws.take j = ws from List.take_of_length_le (by have := HWL.out; omega), ← HSUC.out] at hE
        have HE := Lib.hid hE
        clear hE
        go_wp2
        go_roundw
        case rel => exact ⟨k + 1, by omega, by go_num, HE.out⟩
        case measure => simp [intOf]; omega

theorem reach_all {m : List (List Int)} {root : Int} (h : 0 ≤ root ∧ root ≤ 11) : ∀ x ∈ root :: (namedL m [root] ++ namedL m (namedL m [root])), 0 ≤ x ∧ x ≤ 11 := by
  intro x hx
  rcases List.mem_cons.1 hx with rfl | hx
  · exact h
  · rcases List.mem_append.1 hx with hx | hx <;> exact namedL_mem hx

set_option maxHeartbeats 4000000 in
theorem reached_c (m : List (List Int)) (root : Int) (v : Value) (w : World) (hm : RdII w v m) (hmo : memOk m = true) (hr : -1 ≤ root ∧ root ≤ 11) :
    Calls Tryz.prog 48 #[v, .int .i64 root] w fun e w' => ∃ u, e = .returned u ∧ OwI w.heap.size w' u (reachL m root) ∧ Below w.heap.size w w' := by
  have HM := Lib.hid hm
  obtain ⟨hr0, hr1⟩ := hr
  by_cases hneg : root < 0
  · have HL := Lib.hid (show reachL m root = [] by simp [reachL, hneg])
    clear hm
    go_enter Tryz.func48, Tryz.ntmps48
    go_wp2
    go_ret
    rw [HL.out]
    exact ⟨_, rfl, World.ownsRow_nil _ _ _ _, bref _⟩
  have HL := Lib.hid (show reachL m root = uniq (root :: (namedL m [root] ++ namedL m (namedL m [root]))) by simp [reachL, hneg])
  have HC := Lib.hid (compact_sort (zs := root :: (namedL m [root] ++ namedL m (namedL m [root]))) (reach_all ⟨by omega, hr1⟩))
  have H1R := Lib.hid (fun f (hf : f ∈ [root]) => (show 0 ≤ f ∧ f ≤ 11 by simp at hf; omega))
  have HLA := Lib.hid (namedL_len m [root])
  have HLB := Lib.hid (namedL_len m (namedL m [root]))
  have H0 := Lib.hid ((Bun.refl w none).lits eltInt #[.int .i64 root] [root] 1 rfl rfl (by omega))
  have H1 := Lib.hid (H0.out.litsK (w.heap.size + 1) eltInt #[.int .i64 root] [root] 1 rfl rfl (by omega) (by simp))
  clear hm
  go_enter Tryz.func48, Tryz.ntmps48
  go_wp2_with fail
  refine (named_c m [root] v _ _ (HM.out.below H1.out.below) (H1.out.rd 0 rfl encI_len) hmo H1R.out (by simp)).mono ?_
  rintro e w1 ⟨ua, rfl, ho, hb⟩
  have H2 := Lib.hid ((H1.out.addT ho hb).front 2 rfl)
  clear ho hb H0 H1
  go_wp2_with (at_builtin; refine append_b eltInt rfl _ _ rfl _ _ (namedL m [root]) rfl rfl H2.out (H2.out.rd 1 rfl encI_len) (by have := HLA.out; simp only [List.length_cons, List.length_nil]; omega) ?_; intro v2 w2 H3 hnil2; have H4 := Lib.hid (((H3.rm 1).rm 1).lits eltInt #[.int .i64 root] [root] 1 rfl rfl (by omega)); clear H3 hnil2 H2)
  refine (named_c m [root] v _ _ (HM.out.below H4.out.below) (H4.out.rd 0 rfl encI_len) hmo H1R.out (by simp)).mono ?_
  rintro e w3 ⟨ub, rfl, ho, hb⟩
  have H5 := Lib.hid (H4.out.addT ho hb)
  clear ho hb H4
  go_wp2_with fail
  refine (named_c m (namedL m [root]) v ub _ (HM.out.below H5.out.below) (H5.out.rd 0 rfl encI_len) hmo (fun f hf => namedL_mem hf) HLA.out).mono ?_
  rintro e w4 ⟨uc, rfl, ho, hb⟩
  have H6 := Lib.hid ((H5.out.addT ho hb).front 3 rfl)
  clear ho hb H5
  go_wp2_with (at_builtin; refine append_b eltInt rfl _ _ rfl _ _ (namedL m (namedL m [root])) rfl rfl H6.out (H6.out.rd 1 rfl encI_len) (by have := HLA.out; have := HLB.out; simp only [List.length_append, List.length_cons, List.length_nil]; omega) ?_; intro v5 w5 H7 hnil5; have H8 := Lib.hid (((H7.rm 1).rm 1).rm 1); clear H7 hnil5 H6)
  have HLL := Lib.hid (show ([root] ++ namedL m [root] ++ namedL m (namedL m [root])).length ≤ 1000000 by have := HLA.out; have := HLB.out; simp only [List.length_append, List.length_cons, List.length_nil]; omega)
  refine (sortI_b _ _ H8.out HLL.out).mono ?_
  rintro e w6 ⟨rfl, hb1⟩
  have HS := Lib.hid hb1
  clear hb1 H8
  go_wp2_with fail
  refine (compactI_b _ _ HS.out (by rw [sortI_len]; exact HLL.out)).mono ?_
  rintro e w7 ⟨u, rfl, hb2⟩
  rw [show [root] ++ namedL m [root] ++ namedL m (namedL m [root]) = root :: (namedL m [root] ++ namedL m (namedL m [root])) by simp, HC.out, ← HL.out] at hb2
  have HZ := Lib.hid hb2
  clear hb2 HS
  go_wp2
  go_ret
  exact ⟨_, rfl, HZ.out.ow 0 rfl, HZ.out.below⟩

set_option maxHeartbeats 2000000 in
theorem l3Has_c (xs : List Int) (v : Value) (y : Int) (w : World) (h : RdI w v xs) (hl : xs.length ≤ 1000) : Calls Tryz.prog 151 #[v, .int .i64 y] w fun e w' => e = .returned (.bool (decide (y ∈ xs))) ∧ w = w' := by
  obtain ⟨n, hn⟩ : ∃ n, n = xs.length := ⟨_, rfl⟩
  obtain ⟨a, c, rfl, h1, h2, h0, h3⟩ := h
  rw [← hn] at h1 hl ⊢
  have HN := Lib.hid hn
  have H3 := Lib.hid h3
  unfold maxLen at h2
  clear hn h3 h0
  go_enter Tryz.func151, Tryz.ntmps151
  go_wp2
  go_loop [5] (fun i => ∃ k : Nat, k ≤ n ∧ i = .int .i64 k ∧ Hid (¬ y ∈ xs.take k)) (fun i => n - (intOf i).toNat)
  case atStart => exact ⟨0, Nat.zero_le _, rfl, by simp [Hid]⟩
  case round =>
    obtain ⟨k, hk, rfl, hno⟩ := hrel
    by_cases hlt : k < n
    · obtain ⟨x, hx⟩ : ∃ x, xs[k]? = some x := ⟨_, List.getElem?_eq_getElem (by have := HN.out; omega)⟩
      obtain ⟨b, o, rfl, hbl, hc⟩ := H3.out k x hx
      have d0 := hc 0 _ rfl
      simp only [Nat.mul_one, Nat.add_zero] at d0
      have HX := Lib.hid hx
      clear hx hc
      by_cases he : x = y
      · have heb : (x == y) = true := beq_iff_eq.2 he
        have HE := Lib.hid he
        clear he
        go_wp2
        go_ret
        exact ⟨ret_bool (by rw [eq_comm, decide_eq_true_eq, ← HE.out]; exact List.mem_of_getElem? HX.out), rfl⟩
      · have heb : (x == y) = false := beq_eq_false_iff_ne.2 he
        have HE := Lib.hid he
        clear he
        go_wp2
        go_round
        case rel => exact ⟨k + 1, by omega, by go_num, by unfold Hid; rw [List.take_add_one, HX.out, List.mem_append]; rintro (h1 | h1); exact hno.out h1; simp at h1; exact HE.out h1.symm⟩
        case measure => simp [intOf]; omega
    · go_wp2
      go_ret
      exact ⟨ret_bool (by rw [eq_comm, decide_eq_false_iff_not]; have h1 := hno.out; rwa [List.take_of_length_le (by have := HN.out; omega)] at h1), rfl⟩

theorem uniq_upto (zs : List Int) (k : Nat) : (((List.range (k + 1)).map (fun n : Nat => (n : Int))).filter (fun x => decide (x ∈ zs))) = (((List.range k).map (fun n : Nat => (n : Int))).filter (fun x => decide (x ∈ zs))) ++ (if (k : Int) ∈ zs then [(k : Int)] else []) := by
  rw [List.range_succ, List.map_append, List.filter_append]
  congr 1
  by_cases h : (k : Int) ∈ zs <;> simp [h]

set_option maxHeartbeats 2000000 in
theorem l3Sorted_c (xs : List Int) (v : Value) (w : World) (h : RdI w v xs) (hl : xs.length ≤ 1000) : Calls Tryz.prog 120 #[v] w fun e w' =>
    ∃ u, e = .returned u ∧ OwI w.heap.size w' u (uniq xs) ∧ Below w.heap.size w w' := by
  have HX := Lib.hid h
  obtain ⟨a, c, rfl, h1, h2, h0, h3⟩ := h
  clear h1 h2 h0 h3
  go_enter Tryz.func120, Tryz.ntmps120
  go_wp2
  go_loopw [3, 4] (fun u i wr => ∃ k : Nat, k ≤ 12 ∧ i = .int .i64 k ∧ Bun w none wr [Res.row encI 1 3 u (((List.range k).map (fun n : Nat => (n : Int))).filter (fun x => decide (x ∈ xs)))]) (fun _ i _ => 12 - (intOf i).toNat)
  case atStart => exact ⟨0, Nat.zero_le _, rfl, by simpa using (Bun.refl w none).lit eltInt #[] [] rfl (by simp)⟩
  case round =>
    obtain ⟨k, hk, rfl, hb⟩ := hrel
    have HB := Lib.hid hb
    clear hb
    by_cases hlt : k < 12
    · have HU := Lib.hid (uniq_upto xs k)
      go_wp2_with fail
      refine (l3Has_c xs _ (k : Int) _ (HX.out.below HB.out.below) hl).mono ?_
      rintro e w1 ⟨rfl, rfl⟩
      by_cases hm : (k : Int) ∈ xs
      · have HS := Lib.hid (HU.out.trans (by rw [if_pos hm]))
        rw [decide_eq_true hm]
        have HLE := Lib.hid (show ((((List.range k).map (fun n : Nat => (n : Int))).filter (fun x => decide (x ∈ xs)))).length ≤ 12 from Nat.le_trans (List.length_filter_le _ _) (by simp; omega))
        clear hm
        have H1 := Lib.hid ((HB.out.lits eltInt #[.int .i64 k] [(k : Int)] 1 rfl rfl (by omega)).front 1 rfl)
        go_wp2_with (at_builtin; refine append_b eltInt rfl _ _ rfl _ _ [(k : Int)] rfl rfl H1.out (H1.out.rd 1 rfl encI_len) (by have := HLE.out; simp only [List.length_cons, List.length_nil]; omega) ?_; intro v2 w2 H2 hnil2; have H4 := Lib.hid ((H2.front 1 rfl).drop); clear H2 hnil2 H1)
        go_roundw
        case rel => exact ⟨k + 1, by omega, by go_num, by rw [HS.out]; exact H4.out⟩
        case measure => simp [intOf]; omega
      · have HS := Lib.hid (HU.out.trans (by rw [if_neg hm, List.append_nil]))
        rw [decide_eq_false hm]
        clear hm
        go_wp2
        go_roundw
        case rel => exact ⟨k + 1, by omega, by go_num, by rw [HS.out]; exact HB.out⟩
        case measure => simp [intOf]; omega
    · obtain rfl : k = 12 := by omega
      go_wp2
      go_ret
      exact ⟨_, rfl, HB.out.ow 0 rfl, HB.out.below⟩
end Go.Proofs.YtojknkpjnchchaaGreatDoor
