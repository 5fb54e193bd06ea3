/- Contracts of the helpers' loops over slices of string slices. No conditions but the readings of the arguments and the sizes of the texts. -/
import Derived.Test.YtojknkpjnchchaaDoorStrB
import Derived.Test.YtojknkpjnchchaaDoorWords
namespace Go.Proofs.YtojknkpjnchchaaDoor
open Go.ChangeShapes Go.WideShapes Go.RowKit
set_option linter.all false
set_option maxRecDepth 100000
attribute [local go_sem ↓] Go.wp_at_zero Go.wp_at_succ

/-- A sum over a list. -/
def sumBy {α : Type} (f : α → Nat) (xs : List α) : Nat := (xs.map f).sum
theorem sumBy_take {α : Type} (f : α → Nat) {xs : List α} {k : Nat} {x : α} (h : xs[k]? = some x) : sumBy f (xs.take (k + 1)) = sumBy f (xs.take k) + f x := by
  unfold sumBy
  rw [List.take_add_one, h]
  simp
theorem sumBy_take_le {α : Type} (f : α → Nat) (xs : List α) (k : Nat) : sumBy f (xs.take k) ≤ sumBy f xs := by
  have h := congrArg (sumBy f) (List.take_append_drop k xs)
  unfold sumBy at h ⊢
  rw [List.map_append, List.sum_append] at h
  omega
theorem sumBy_all {α : Type} (f : α → Nat) {xs : List α} {k : Nat} (h : xs.length ≤ k) : sumBy f (xs.take k) = sumBy f xs := by rw [List.take_of_length_le h]
theorem le_sumBy {α : Type} (f : α → Nat) {xs : List α} {k : Nat} {x : α} (h : xs[k]? = some x) : f x ≤ sumBy f xs := by
  have h1 := sumBy_take f h
  have h2 := sumBy_take_le f xs (k + 1)
  omega

abbrev RdSS := RdN encS 1
abbrev OwSS := OwN encS 1 9 38
theorem infoSs : (Tryd.prog.info? 38).map (fun i => (i.zero, i.size, i.bytes)) = some (some (.slice none 0 0), 1, 24) := by kernel_rfl
theorem eltSs : Elt Tryd.prog encL 1 38 22 slN := by
  obtain ⟨i0, hi, hz0, hz1, hz2⟩ := info_parts infoSs
  refine ⟨encL_len, by decide, ?_, Tryd.underlying22, i0, _, hi, hz0, hz1, by omega, rfl⟩
  intro x u hu
  simp [encL] at hu
  subst hu; rfl
theorem neSs : 9 ≠ 38 := by decide

/-- What a slice of strings takes of a bound. -/
def szl (xs : List Txt) : Nat := xs.length + strSum xs
theorem szString2_c (xs : List Txt) (v : Value) (left : Int) (w : World) (h : RdS w v xs) (hf : fitS xs) (hl : 0 ≤ left ∧ left ≤ 1048576) : Calls Tryd.prog 13 #[v, .int .i64 left] w fun e w' =>
    e = .returned (.int .i64 (szv left (szl xs))) ∧ w = w' := by
  have h1 := szStringS_c xs v left w h hf hl
  rw [show ((xs.length : Int) + strSum xs) = (szl xs : Int) by unfold szl; push_cast; rfl] at h1
  exact h1

theorem szStringSS_c (xss : List (List Txt)) (v : Value) (left : Int) (w : World) (h : RdSS w v xss) (hf : ∀ xs ∈ xss, fitS xs) (hl : 0 ≤ left ∧ left ≤ 1048576) : Calls Tryd.prog 4 #[v, .int .i64 left] w fun e w' =>
    e = .returned (.int .i64 (szv left ((xss.length : Int) + sumBy szl xss))) ∧ w = w' := by
  obtain ⟨rows, ⟨a, c, rfl, h1, h2, -, h3⟩, hin⟩ := h
  have H3 := Lib.hid h3
  have HIN := Lib.hid hin
  have HF := Lib.hid hf
  obtain ⟨n, hn⟩ : ∃ n, n = rows.length := ⟨_, rfl⟩
  have hn2 : n = xss.length := hn.trans hin.1
  rw [← hn] at h1 ⊢
  have HN := Lib.hid hn
  have HN2 := Lib.hid hn2
  unfold maxLen at h2
  clear h3 hin hn hn2 hf
  by_cases hlt : left < n
  · go_enter Tryd.func4, Tryd.ntmps4
    go_wp2
    go_ret
    exact ⟨ret_int (szv_neg (by have := HN2.out; omega)).symm, rfl⟩
  · go_enter Tryd.func4, Tryd.ntmps4
    go_wp2
    go_loop [1, 5] (fun t i => ∃ k : Nat, k ≤ n ∧ i = .int .i64 k ∧ t = .int .i64 (left - n - sumBy szl (xss.take k)) ∧ (sumBy szl (xss.take k) : Int) ≤ left - n) (fun _ i => n - (intOf i).toNat)
    case atStart => exact ⟨0, Nat.zero_le _, rfl, by simp [sumBy], by simp [sumBy]; omega⟩
    case round =>
      obtain ⟨k, hk, rfl, rfl, hs⟩ := hrel
      by_cases hlt2 : k < n
      · obtain ⟨xs, hxs⟩ : ∃ xs, xss[k]? = some xs := ⟨_, List.getElem?_eq_getElem (by have := HN2.out; omega)⟩
        obtain ⟨s, hrow, hrd⟩ := HIN.out.get hxs
        obtain ⟨b, o, rfl, hbl, hc⟩ := H3.out k s hrow
        have c0 := hc 0 _ rfl
        simp only [Nat.add_zero, Nat.mul_one] at c0
        have HS1 := Lib.hid (sumBy_take szl hxs)
        have HRD := Lib.hid hrd
        have HXM := Lib.hid (List.mem_of_getElem? hxs)
        clear hc hxs hrow hrd
        by_cases hfit : (szl xs : Int) ≤ left - n - sumBy szl (xss.take k)
        · have hz := szv_pos hfit
          have HZ := Lib.hid hz
          clear hz
          go_wp2_with fail
          refine (szString2_c xs _ _ _ HRD.out (HF.out xs HXM.out) (by omega)).mono ?_
          rintro e w' ⟨rfl, rfl⟩
          rw [HZ.out]
          go_wp2
          go_round
          case rel => exact ⟨k + 1, by omega, by go_num, by have := HS1.out; first | (congr 1; omega) | (simp; omega), by have := HS1.out; omega⟩
          case measure => simp [intOf]; omega
        · have hz : szv (left - n - sumBy szl (xss.take k)) (szl xs : Int) = -1 := szv_neg (by omega)
          have HZ := Lib.hid hz
          clear hz
          go_wp2_with fail
          refine (szString2_c xs _ _ _ HRD.out (HF.out xs HXM.out) (by omega)).mono ?_
          rintro e w' ⟨rfl, rfl⟩
          rw [HZ.out]
          go_wp2
          go_ret
          exact ⟨ret_int (szv_neg (by have := HS1.out; have := HN2.out; have := sumBy_take_le szl xss (k + 1); omega)).symm, rfl⟩
      · go_wp2
        go_ret
        have hall : sumBy szl (xss.take k) = sumBy szl xss := sumBy_all szl (by have := HN2.out; omega)
        rw [hall] at hs ⊢
        exact ⟨ret_int (by rw [szv_pos (by have := HN2.out; omega)]; have := HN2.out; omega), rfl⟩

theorem toStringSS_c (xss : List (List Txt)) (v : Value) (w : World) (hx : RdSS w v xss) (hl : (xss.length : Int) + sumBy szl xss ≤ 1048576) : Calls Tryd.prog 6 #[v] w fun e w' =>
    ∃ u, e = .returned u ∧ OwSS w.heap.size w'.heap.size w' u xss ∧ Below w.heap.size w w' := by
  obtain ⟨rows, ⟨a, c, rfl, h1, h2, -, h3⟩, hin⟩ := hx
  unfold maxLen at h2
  have HIN := Lib.hid hin
  have H3 := Lib.hid h3
  obtain ⟨n, hn⟩ : ∃ n, n = rows.length := ⟨_, rfl⟩
  have hn2 : n = xss.length := hn.trans hin.1
  rw [← hn] at h1 ⊢
  have HN := Lib.hid hn
  have HN2 := Lib.hid hn2
  have hl1 : n ≤ 1048576 := by omega
  have HL := Lib.hid hl
  clear h3 hin hn hn2 hl
  go_enter Tryd.func6, Tryd.ntmps6
  go_wp2_with (refine make_T eltSs rfl _ _ rfl n rfl rfl (by omega) ?_; intro w1 ho hb1)
  have hs1 := hb1.size
  have ho : OwSS w.heap.size w1.heap.size w1 (.slice (some ⟨w.heap.size, 0, none⟩) n n) (filled [] xss 0) := by
    rw [filled_zero, ← HN2.out]
    exact ⟨_, OwF.of ho (Nat.le_refl _), InO.nils _ _ _ _⟩
  go_wp2
  go_loopw [4] (fun i wr => ∃ k : Nat, k ≤ n ∧ i = .int .i64 k ∧ Below w.heap.size w wr ∧ OwSS w.heap.size wr.heap.size wr (.slice (some ⟨w.heap.size, 0, none⟩) n n) (filled [] xss k)) (fun i _ => n - (intOf i).toNat)
  case atStart => exact ⟨0, Nat.zero_le _, rfl, hb1, ho⟩
  case round =>
    obtain ⟨k, hk, rfl, hb, hok⟩ := hrel
    by_cases hlt : k < n
    · obtain ⟨xs, hxs⟩ : ∃ xs, xss[k]? = some xs := ⟨_, List.getElem?_eq_getElem (by have := HN2.out; omega)⟩
      obtain ⟨s, hrow, hrd⟩ := HIN.out.get hxs
      obtain ⟨b, o, rfl, hbl, hc⟩ := H3.out k s hrow
      have c0 := (hb.cell (p := ⟨b, o + k * 1 + 0, none⟩) hbl).trans (hc 0 _ rfl)
      simp only [Nat.add_zero, Nat.mul_one] at c0
      have HRD := Lib.hid (hrd.below hb)
      have HXS := Lib.hid hxs
      have hll := le_sumBy szl hxs
      have HLL := Lib.hid (show xs.length ≤ 1048576 by have := HL.out; have hz : szl xs = xs.length + strSum xs := rfl; omega)
      have HOK := Lib.hid hok
      clear hc hxs hrow hrd hll hok
      go_wp2_with fail
      refine (toStringS_c xs _ _ HRD.out HLL.out).mono ?_
      rintro e w2 ⟨u, rfl, ho2, hb2⟩
      obtain ⟨⟨sa, sn, sc⟩, rfl⟩ := (ho2.rd encS_len).sl
      have hok2 := HOK.out.below hb2
      have hof := OwF.of ho2 (Nat.le_refl _)
      have hfin := hok2.stored neSs hof (.inl (Nat.le_refl _)) hb.size hb2.size k (by rw [filled_len _ _ _ (by have := HN2.out; omega)]; have := HN2.out; omega)
      rw [filled_step _ _ _ _ HXS.out] at hfin
      obtain ⟨rows2, hr2, hi2⟩ := hok2
      obtain ⟨e0, e1, e2, e3, e4, hfz, hcs⟩ := hr2.1.open encL_len
      obtain ⟨z, hz⟩ : ∃ z, rows2[k]? = some z := ⟨_, List.getElem?_eq_getElem (by omega)⟩
      have d0 := hcs k z 0 _ hz rfl
      have f0 := hfz k
      simp only [Nat.add_zero, Nat.mul_one] at d0
      have HFIN := Lib.hid hfin
      have hb3 : Below w.heap.size w w2 := bnext hb hb2
      clear hcs hfz hz hr2 hi2 e0 hfin hof ho2 rows2
      simp only [slv]
      simp only [slv] at HFIN d0
      go_wp2
      go_roundw
      case rel => exact ⟨k + 1, by omega, by go_num, hb3.setCell (Nat.le_refl _) _, by have := HFIN.out; simpa using this⟩
      case measure => simp [intOf]; omega
    · go_wp2
      go_ret
      refine ⟨_, rfl, ?_, hb⟩
      have h1 := HN2.out
      have h3 : k = xss.length := by omega
      rw [h3, filled_all] at hok
      exact hok

set_option maxHeartbeats 1000000 in
theorem eqStringSS_c (xs ys : List (List Txt)) (v u : Value) (w : World) (hx : RdSS w v xs) (hy : RdSS w u ys) : Calls Tryd.prog 9 #[v, u] w fun e w' =>
    e = .returned (.bool (decide (xs = ys))) ∧ Below w.heap.size w w' := by
  obtain ⟨rx, ⟨a, c, rfl, h1, h2, -, h3⟩, hin⟩ := hx
  obtain ⟨ry, ⟨a', c', rfl, h1', h2', -, h3'⟩, hin'⟩ := hy
  unfold maxLen at h2 h2'
  rw [hin.1] at h1 ⊢
  rw [hin'.1] at h1' ⊢
  have HIN := Lib.hid hin
  have HIN' := Lib.hid hin'
  have H3 := Lib.hid h3
  have H3' := Lib.hid h3'
  clear h3 h3' hin hin'
  by_cases hn : xs.length = ys.length
  · obtain ⟨n, hn1⟩ : ∃ n, n = xs.length := ⟨_, rfl⟩
    have hn2 : ys.length = n := by omega
    rw [← hn1, hn2]
    have HN1 := Lib.hid hn1
    have HN2 := Lib.hid hn2
    have hnc : n ≤ c := by omega
    have hnc' : n ≤ c' := by omega
    clear hn hn1 hn2 h1 h1'
    go_enter Tryd.func9, Tryd.ntmps9
    go_wp2
    go_loopw [5] (fun i wr => ∃ k : Nat, k ≤ n ∧ i = .int .i64 k ∧ Below w.heap.size w wr ∧ Hid (xs.take k = ys.take k)) (fun i _ => n - (intOf i).toNat)
    case atStart => exact ⟨0, Nat.zero_le _, rfl, Below.refl _ _, rfl⟩
    case round =>
      obtain ⟨k, hk, rfl, hb, heq⟩ := hrel
      by_cases hlt : k < n
      · obtain ⟨m, hm⟩ : ∃ m, xs[k]? = some m := ⟨_, List.getElem?_eq_getElem (by have := HN1.out; omega)⟩
        obtain ⟨p, hp⟩ : ∃ m, ys[k]? = some m := ⟨_, List.getElem?_eq_getElem (by have := HN2.out; omega)⟩
        obtain ⟨s, hrow, hrd⟩ := HIN.out.get hm
        obtain ⟨t, hrow', hrd'⟩ := HIN'.out.get hp
        obtain ⟨b, o, rfl, hbl, hc⟩ := H3.out k s hrow
        obtain ⟨b', o', rfl, hbl', hc'⟩ := H3'.out k t hrow'
        have hk0 : (0 : Int) ≤ (k : Int) := by omega
        have hkn : (k : Int) < (n : Int) := by omega
        have c0 := (hb.cell (p := ⟨b, o + k * 1 + 0, none⟩) hbl).trans (hc 0 _ rfl)
        have d0 := (hb.cell (p := ⟨b', o' + k * 1 + 0, none⟩) hbl').trans (hc' 0 _ rfl)
        simp only [Nat.add_zero, Nat.mul_one] at c0 d0
        have HM := Lib.hid hm
        have HP := Lib.hid hp
        have HRD := Lib.hid ((hrd.below hb).below (bref wr).drew)
        have HRD' := Lib.hid ((hrd'.below hb).below (bref wr).drew)
        clear hc hc' hm hp hrow hrow' hrd hrd'
        by_cases hmp : m = p
        all_goals
          have HE := Lib.hid hmp
          first | have he := Lib.hid (decide_eq_false hmp) | have he := Lib.hid (decide_eq_true hmp)
          clear hmp
          go_wp2
          go_still_tail 8, (by kernel_rfl)
          change wpList _ _ _ _ _ wr.drew
          go_wp2_with (go_at_call 25; refine (eqStringS_c m p (slv s) (slv t) _ HRD.out HRD'.out).mono ?_; rintro e w' ⟨rfl, hb2⟩; rw [he.out]; have hb3 := hb.drew.trans (hb2.mono hb.size))
        · go_roundw
          case rel => exact ⟨k + 1, by omega, by go_num, hb3, take_eq_succ HM.out HP.out heq HE.out⟩
          case measure => simp [intOf]; omega
        · go_ret
          exact ⟨ret_bool (by rw [eq_comm, decide_eq_false_iff_not]; exact ne_of_get HM.out HP.out HE.out), hb3⟩
      · go_wp2
        go_ret
        refine ⟨ret_bool ?_, hb⟩
        have h1 := HN1.out
        have h2 := HN2.out
        have h3 : k = n := by omega
        have h4 := heq.out
        rw [List.take_of_length_le (by omega), List.take_of_length_le (by omega)] at h4
        simp [h4]
  · go_enter Tryd.func9, Tryd.ntmps9
    go_wp2
    go_ret
    exact ⟨ret_bool (by rw [eq_comm, decide_eq_false_iff_not]; rintro rfl; exact hn rfl), Below.refl _ _⟩

/-- The marks that a loop lays over slices of integers: from q on. -/
def marksSS : Int → List (List Txt) → List (List Txt)
  | _, [] => []
  | q, xs :: t => marksS q xs.length :: marksSS (q + xs.length) t
theorem marksSS_len : ∀ (xss : List (List Txt)) (q : Int), (marksSS q xss).length = xss.length := by
  intro xss
  induction xss with
  | nil => intro q; rfl
  | cons x t ih => intro q; simp [marksSS, ih]
theorem marksSS_get : ∀ (xss : List (List Txt)) (q : Int) (k : Nat) (xs : List Txt), xss[k]? = some xs → (marksSS q xss)[k]? = some (marksS (q + sumBy List.length (xss.take k)) xs.length) := by
  intro xss
  induction xss with
  | nil => intro q k xs h; simp at h
  | cons x t ih =>
    intro q k xs h
    cases k with
    | zero => simp at h; subst h; simp [marksSS, sumBy]
    | succ k =>
      simp at h
      have := ih (q + x.length) k xs h
      simp only [marksSS, List.getElem?_cons_succ, this, List.take_succ_cons, sumBy, List.map_cons, List.sum_cons]
      congr 2
      push_cast
      omega
theorem markStringSS_c (xss : List (List Txt)) (v : Value) (q : Int) (lo hi : Nat) (w : World) (hx : OwSS lo hi w v xss) (hq : 1 ≤ q ∧ q ≤ 40000000) (hl : (xss.length : Int) + sumBy List.length xss ≤ 2000000) : Calls Tryd.prog 10 #[v, .int .i64 q] w fun e w' =>
    e = .returned (.int .i64 (q + sumBy List.length xss)) ∧ OwSS lo hi w' v (marksSS q xss) ∧ Chg lo hi w w' := by
  obtain ⟨rows, h0, hin⟩ := hx
  have hml := marksSS_len xss q
  obtain ⟨s0, rfl⟩ := (h0.rd encL_len).sl
  obtain ⟨a, n0, c⟩ := s0
  obtain ⟨a', c', hv, h1, h2, -, -⟩ := h0.rd encL_len
  simp only [slv, Value.slice.injEq] at hv
  obtain ⟨rfl, rfl, rfl⟩ := hv
  unfold maxLen at h2
  simp only [slv] at h0 ⊢
  have hrl := hin.len
  have HML := Lib.hid hml
  have HRL := Lib.hid hrl
  obtain ⟨n, hn⟩ : ∃ n, n = rows.length := ⟨_, rfl⟩
  rw [← hn] at h0 h1 ⊢
  have HN := Lib.hid hn
  have HL := Lib.hid hl
  have hin0 : InO encS 1 9 lo hi w rows (markedBy (marksSS q xss) xss 0) := by rw [markedBy_zero]; exact hin
  clear hn hml hrl hl hin
  go_enter Tryd.func10, Tryd.ntmps10
  go_wp2
  go_loopw [1, 5] (fun t i wr => ∃ k : Nat, k ≤ n ∧ i = .int .i64 k ∧ t = .int .i64 (q + sumBy List.length (xss.take k)) ∧ OwF encL 1 38 lo hi wr (.slice a n c) rows ∧ InO encS 1 9 lo hi wr rows (markedBy (marksSS q xss) xss k) ∧ Chg lo hi w wr) (fun _ i _ => n - (intOf i).toNat)
  case atStart => exact ⟨0, Nat.zero_le _, rfl, by simp [sumBy], h0, hin0, Chg.refl _ _ _⟩
  case round =>
    obtain ⟨k, hk, rfl, rfl, ho, hi, hc⟩ := hrel
    by_cases hlt : k < n
    · obtain ⟨xs, hxs⟩ : ∃ xs, xss[k]? = some xs := ⟨_, List.getElem?_eq_getElem (by have := HN.out; have := HRL.out; omega)⟩
      have hold : (markedBy (marksSS q xss) xss k)[k]? = some xs := by
        unfold markedBy
        have hlen : ((marksSS q xss).take k).length = k := by
          have h1 := HML.out
          have h2 := HN.out
          have h3 := HRL.out
          simp; omega
        rw [List.getElem?_append_right (by omega), hlen, Nat.sub_self, List.getElem?_drop]
        simpa using hxs
      obtain ⟨s, hrow, hos⟩ := hi.get hold
      obtain ⟨a2, c2, hv2, h12, h22, -, h3⟩ := ho.rd encL_len
      simp only [Value.slice.injEq] at hv2
      obtain ⟨rfl, -, rfl⟩ := hv2
      obtain ⟨b, o, rfl, hbl, hcc⟩ := h3 k s hrow
      have c0 := hcc 0 _ rfl
      simp only [Nat.add_zero, Nat.mul_one] at c0
      have hsl := sumBy_take_le List.length xss k
      have hll := le_sumBy List.length hxs
      have HST := Lib.hid (sumBy_take List.length hxs)
      have HG := Lib.hid (marksSS_get xss q k xs hxs)
      have HB := Lib.hid (show (1 ≤ q + (sumBy List.length (xss.take k) : Int) ∧ q + (sumBy List.length (xss.take k) : Int) ≤ 50000000) ∧ xs.length ≤ 2000000 by have := HL.out; omega)
      have HOS := Lib.hid hos
      have HROW := Lib.hid hrow
      have HI := Lib.hid hi
      clear hcc h3 hxs hold hrow hos hi hsl hll
      go_wp2_with fail
      refine (markStringS_c xs (slv s) _ lo _ HOS.out.1 HB.out.1 HB.out.2).mono ?_
      rintro e w2 ⟨rfl, ho1, hg1, hn1⟩
      obtain ⟨m1, m2, m3⟩ := OwN.mod neSs ho HI.out HROW.out ho1 hg1 hn1
      rw [markedBy_step _ _ _ _ HML.out HG.out] at m2
      have M1 := Lib.hid m1
      have M2 := Lib.hid m2
      have M3 := Lib.hid (hc.trans m3)
      clear m1 m2 m3 ho1 hg1 hn1 ho hc
      go_wp2
      go_roundw
      case rel => exact ⟨k + 1, by omega, by go_num, by have := HST.out; first | (congr 1; omega) | (simp; omega), M1.out, M2.out, M3.out⟩
      case measure => simp [intOf]; omega
    · go_wp2
      go_ret
      have h3 : k = xss.length := by have := HN.out; have := HRL.out; omega
      subst h3
      rw [sumBy_all List.length (Nat.le_refl _)]
      rw [markedBy_all _ _ HML.out] at hi
      exact ⟨rfl, ⟨rows, ho, hi⟩, hc⟩
end Go.Proofs.YtojknkpjnchchaaDoor
