/- Contracts of the checks of a memory, and of the functions on entries. No conditions but the readings of the arguments. -/
import Derived.Test.YtojknkpjnchchaaGreatDoorTabP
import Derived.Test.YtojknkpjnchchaaGreatDoorGSwap
import Derived.Test.YtojknkpjnchchaaGreatDoorInfoG
namespace Go.Proofs.YtojknkpjnchchaaGreatDoor
open Go.ChangeShapes Go.WideShapes Go.RowKit
set_option linter.all false
set_option maxRecDepth 100000
attribute [local go_sem ↓] Go.wp_at_zero Go.wp_at_succ

theorem badWords_c (xs : List Int) (v : Value) (w : World) (hx : RdI w v xs) :
    Calls Tryz.prog 96 #[v] w fun e w' => e = .returned (.bool (!wordsOk xs)) ∧ Below w.heap.size w w' := by
  have HX := Lib.hid hx
  clear hx
  go_enter Tryz.func96, Tryz.ntmps96
  go_wp2_with fail
  refine (isWords_c xs _ _ HX.out).mono ?_
  rintro e w' ⟨rfl, hb⟩
  go_wp2
  go_ret
  exact ⟨rfl, hb⟩

theorem implMemoryValid_c (xss : List (List Int)) (v : Value) (w : World) (hx : RdII w v xss) :
    Calls Tryz.prog 41 #[v] w fun e w' => e = .returned (.bool (memOk xss)) ∧ Below w.heap.size w w' := by
  obtain ⟨rows, hr, hin⟩ := hx
  have hr' := hr
  obtain ⟨a, c, rfl, h1, h2, -, h3⟩ := hr
  unfold maxLen at h2
  clear h3
  have hl := hin.1
  by_cases h8 : rows.length = 12
  · have h8g : ((rows.length : Int) == 12) = true := by rw [beq_iff_eq]; omega
    have hp : ∀ (k : Nat) (m : Sl) (p : Bool) W, rows[k]? = some m → (xss.map fun ws => !wordsOk ws)[k]? = some p → Below w.heap.size w W → Calls Tryz.prog 96 (#[slv m] ++ #[]) W fun e W' => e = .returned (.bool p) ∧ Below W.heap.size W W' := by
      intro k m p W hm hp hb
      obtain ⟨xs, hxs⟩ : ∃ xs, xss[k]? = some xs := ⟨_, List.getElem?_eq_getElem (by rw [← hl]; exact (List.getElem?_eq_some_iff.1 hm).1)⟩
      have := get_map hxs hp
      subst this
      exact badWords_c xs (slv m) W ((hin.2 k m xs hm hxs).below hb)
    have HE := enters_of (P := Tryz.prog) (f := 96) Tryz.func96 (by kernel_rfl) rfl
    have HC := Lib.hid (hasRow_c 96 #[] (xss.map fun ws => !wordsOk ws) rows (.slice a rows.length c) w (by rw [List.length_map]; exact hl.symm) hr' HE hp)
    have H8 := Lib.hid (show xss.length = 12 by omega)
    have HM := Lib.hid (show memOk xss = (decide (xss.length = 12) && !(xss.any fun ws => !wordsOk ws)) from rfl)
    generalize hq : (xss.any fun ws => !wordsOk ws) = q at HM
    have HQ := Lib.hid hq
    clear HE hp h8 hl hin hr' hq
    go_enter Tryz.func41, Tryz.ntmps41
    go_wp2_with fail
    refine HC.out.mono ?_
    rintro e w' ⟨rfl, hb⟩
    rw [any_map_id, HQ.out]
    go_wp2
    go_ret
    exact ⟨ret_bool (by rw [HM.out]; simp [H8.out]), hb⟩
  · have h8g : ((rows.length : Int) == 12) = false := by rw [beq_eq_false_iff_ne]; omega
    have H8 := Lib.hid (show ¬ xss.length = 12 by omega)
    clear h8 hl hin hr'
    go_enter Tryz.func41, Tryz.ntmps41
    go_wp2
    go_ret
    exact ⟨ret_bool (by simp [memOk, H8.out]), bref _⟩

theorem specMemoryValid_c (xss : List (List Int)) (v : Value) (w : World) (hx : RdII w v xss) :
    Calls Tryz.prog 30 #[v] w fun e w' => e = .returned (.bool (memOk xss)) ∧ Below w.heap.size w w' := by
  obtain ⟨rows, ⟨a, c, rfl, h1, h2, -, h3⟩, hin⟩ := hx
  have HIN := Lib.hid hin
  have H3 := Lib.hid h3
  obtain ⟨n, hn⟩ : ∃ n, n = rows.length := ⟨_, rfl⟩
  have hn2 : n = xss.length := hn.trans hin.1
  rw [← hn] at h1 ⊢
  have HN2 := Lib.hid hn2
  unfold maxLen at h2
  clear h3 hin hn hn2
  go_enter Tryz.func30, Tryz.ntmps30
  go_wp2
  go_loopw [3] (fun i wr => ∃ k : Nat, k ≤ n ∧ i = .int .i64 k ∧ Below w.heap.size w wr ∧ Hid ((xss.take k).any (fun ws => !wordsOk ws) = false)) (fun i _ => n - (intOf i).toNat)
  case atStart => exact ⟨0, Nat.zero_le _, rfl, Below.refl _ _, by simp [Hid]⟩
  case round =>
    obtain ⟨k, hk, rfl, hb, heq⟩ := hrel
    by_cases hlt : k < n
    · obtain ⟨xs, hxs⟩ : ∃ xs, xss[k]? = some xs := ⟨_, List.getElem?_eq_getElem (by have := HN2.out; omega)⟩
      obtain ⟨s, hrow, hrd⟩ := HIN.out.get hxs
      obtain ⟨b, o, rfl, hbl, hc⟩ := H3.out k s hrow
      have c0 := (hb.cell (p := ⟨b, o + k * 1 + 0, none⟩) hbl).trans (hc 0 _ rfl)
      simp only [Nat.add_zero, Nat.mul_one] at c0
      have HRD := Lib.hid (hrd.below hb)
      have HX := Lib.hid hxs
      clear hc hxs hrow hrd
      cases hpm : wordsOk xs
      all_goals
        have HE := Lib.hid hpm
        clear hpm
        go_wp2_with fail
        refine (l2Words_c xs _ _ HRD.out).mono ?_
        rintro e w' ⟨rfl, hb2⟩
        rw [HE.out]
        have hb3 := bnext hb hb2
        go_wp2
      · go_ret
        refine ⟨ret_bool ?_, hb3⟩
        have : (xss.any fun ws => !wordsOk ws) = true := List.any_eq_true.2 ⟨xs, List.mem_of_getElem? HX.out, by simp [HE.out]⟩
        simp [memOk, this]
      · go_roundw
        case rel => exact ⟨k + 1, by omega, by go_num, hb3, any_take_succ HX.out heq.out (by simp [HE.out])⟩
        case measure => simp [intOf]; omega
    · have hn : (xss.any fun ws => !wordsOk ws) = false := by have := heq.out; rwa [List.take_of_length_le (by have := HN2.out; omega)] at this
      have HN := Lib.hid hn
      clear hn
      go_wp2
      go_ret
      exact ⟨ret_bool (by simp only [memOk, HN.out]; have := HN2.out; by_cases h4 : xss.length = 12 <;> simp [h4] <;> omega), hb⟩

theorem implEntryGet_c (x : Int) (w : World) (hx : 0 ≤ x ∧ x ≤ 9999) : Calls Tryz.prog 103 #[.int .i64 x] w fun e w' =>
    e = .returned (.tuple #[.int .i64 (entI x), .bool (entW x), .bool (entB x)]) ∧ w = w' := by
  obtain ⟨h0, h1⟩ := hx
  cases he : entB x
  · have HI := Lib.hid (show entI x = 0 by simp [entI, he])
    have HW := Lib.hid (show entW x = false by simp [entW, he])
    have hnot : ¬ (0 < x ∧ x % 2 = 1 ∧ x < 48) := fun h => by rw [entB_iff.2 h] at he; cases he
    clear he
    by_cases h2 : x % 2 = 0
    · have h2b : (x % 2 == 0) = true := beq_iff_eq.2 h2
      clear h2 hnot
      go_enter Tryz.func103, Tryz.ntmps103
      go_wp2
      go_ret3
      rw [HI.out, HW.out]
      exact ⟨rfl, rfl⟩
    · have h2b : (x % 2 == 0) = false := beq_eq_false_iff_ne.2 h2
      have HB := Lib.hid (show btw 0 (x / 4) 11 = false by simp only [btw, decide_eq_false_iff_not]; omega)
      clear h2 hnot
      go_enter Tryz.func103, Tryz.ntmps103
      go_wp2_with fail
      refine (isFrame_c _ _).mono ?_
      rintro e w1 ⟨rfl, rfl⟩
      rw [HB.out]
      go_wp2
      go_ret3
      rw [HI.out, HW.out]
      exact ⟨rfl, rfl⟩
  · have HI := Lib.hid (show entI x = x / 4 by simp [entI, he])
    have HW := Lib.hid (show entW x = (x % 4 == 3) by simp only [entW, he, Bool.true_and]; by_cases h : x % 4 = 3 <;> simp [h])
    rw [entB_iff] at he
    have h2b : (x % 2 == 0) = false := by rw [beq_eq_false_iff_ne]; omega
    have HB := Lib.hid (show btw 0 (x / 4) 11 = true by simp only [btw, decide_eq_true_eq]; omega)
    obtain ⟨g1, -, g3⟩ := he
    go_enter Tryz.func103, Tryz.ntmps103
    go_wp2_with fail
    refine (isFrame_c _ _).mono ?_
    rintro e w1 ⟨rfl, rfl⟩
    rw [HB.out]
    go_wp2
    go_ret3
    rw [HI.out, HW.out]
    exact ⟨rfl, rfl⟩

theorem specEntryKind_c (x : Int) (w : World) (hx : 0 ≤ x ∧ x ≤ 9999) : Calls Tryz.prog 150 #[.int .i64 x] w fun e w' =>
    ∃ q : Int, e = .returned (.int .i64 q) ∧ Hid ((q == 1) = entB x) ∧ w = w' := by
  obtain ⟨h0, h1⟩ := hx
  by_cases hz : x = 0
  · have hzb : (x == 0) = true := beq_iff_eq.2 hz
    have HE := Lib.hid (show entB x = false by rw [hz]; decide)
    clear hz
    go_enter Tryz.func150, Tryz.ntmps150
    go_wp2
    go_ret
    exact ⟨_, rfl, by show _ = _; rw [HE.out]; rfl, rfl⟩
  have hzb : (x == 0) = false := beq_eq_false_iff_ne.2 hz
  have hpos : 0 < x := by omega
  clear hz
  by_cases h2 : x % 2 = 1
  · have h2b : (x % 2 == 1) = true := beq_iff_eq.2 h2
    by_cases h3 : x < 48
    all_goals
      have HE := Lib.hid (show entB x = decide (x < 48) by by_cases h : x < 48 <;> simp [entB, h, hpos, h2])
      have H3 := Lib.hid h3
      clear h2
      go_enter Tryz.func150, Tryz.ntmps150
      go_wp2
      go_ret
      exact ⟨_, rfl, by show _ = _; rw [HE.out]; have := H3.out; simp [this], rfl⟩
  · have h2b : (x % 2 == 1) = false := beq_eq_false_iff_ne.2 h2
    have HE := Lib.hid (show entB x = false by simp [entB, h2])
    clear h2
    go_enter Tryz.func150, Tryz.ntmps150
    go_wp2
    go_ret
    exact ⟨_, rfl, by show _ = _; rw [HE.out]; rfl, rfl⟩

theorem specEntryGet_c (x : Int) (w : World) (hx : 0 ≤ x ∧ x ≤ 9999) : Calls Tryz.prog 118 #[.int .i64 x] w fun e w' =>
    e = .returned (.tuple #[.int .i64 (entI x), .bool (entW x), .bool (entB x)]) ∧ w = w' := by
  have h0 := hx.1
  have h1 := hx.2
  cases he : entB x
  · have HI := Lib.hid (show entI x = 0 by simp [entI, he])
    have HW := Lib.hid (show entW x = false by simp [entW, he])
    have HE := Lib.hid he
    clear he
    go_enter Tryz.func118, Tryz.ntmps118
    go_wp2_with fail
    refine (specEntryKind_c x _ hx).mono ?_
    rintro e w1 ⟨q, rfl, hq, rfl⟩
    have hqb : (q == 1) = false := hq.out.trans HE.out
    have hqn : (q != 1) = true := by simp only [bne, hqb]; rfl
    clear hq
    go_wp2
    go_ret3
    rw [HI.out, HW.out]
    exact ⟨rfl, rfl⟩
  · have HI := Lib.hid (show entI x = x / 4 by simp [entI, he])
    have HW := Lib.hid (show entW x = (x % 4 == 3) by simp only [entW, he, Bool.true_and]; by_cases h : x % 4 = 3 <;> simp [h])
    have HE := Lib.hid he
    clear he
    go_enter Tryz.func118, Tryz.ntmps118
    go_wp2_with fail
    refine (specEntryKind_c x _ hx).mono ?_
    rintro e w1 ⟨q, rfl, hq, rfl⟩
    have hqb : (q == 1) = true := hq.out.trans HE.out
    have hqn : (q != 1) = false := by simp only [bne, hqb]; rfl
    clear hq
    go_wp2
    go_ret3
    rw [HI.out, HW.out]
    exact ⟨rfl, rfl⟩

theorem isTable_c (n : Int) (w : World) : Calls Tryz.prog 49 #[.int .i64 n] w fun e w' => e = .returned (.bool (tabK n)) ∧ w = w' := by
  have HT := Lib.hid (show tabK n = (n == 2 || n == 3) by by_cases h : n = 2 <;> by_cases h' : n = 3 <;> simp [tabK, h, h'])
  by_cases h2 : n = 2
  · have h2b : (n == 2) = true := beq_iff_eq.2 h2
    clear h2
    go_enter Tryz.func49, Tryz.ntmps49
    go_wp2
    go_ret
    exact ⟨ret_bool (by rw [HT.out, h2b]; rfl), rfl⟩
  · have h2b : (n == 2) = false := beq_eq_false_iff_ne.2 h2
    clear h2
    go_enter Tryz.func49, Tryz.ntmps49
    go_wp2
    go_ret
    exact ⟨ret_bool (by rw [HT.out, h2b]; simp), rfl⟩
theorem l13Table_c (n : Int) (w : World) : Calls Tryz.prog 88 #[.int .i64 n] w fun e w' => e = .returned (.bool (tabK n)) ∧ w = w' := by
  have HT := Lib.hid (show tabK n = (n == 2 || n == 3) by by_cases h : n = 2 <;> by_cases h' : n = 3 <;> simp [tabK, h, h'])
  by_cases h2 : n = 2
  · have h2b : (n == 2) = true := beq_iff_eq.2 h2
    clear h2
    go_enter Tryz.func88, Tryz.ntmps88
    go_wp2
    go_ret
    exact ⟨ret_bool (by rw [HT.out, h2b]; rfl), rfl⟩
  · have h2b : (n == 2) = false := beq_eq_false_iff_ne.2 h2
    clear h2
    go_enter Tryz.func88, Tryz.ntmps88
    go_wp2
    go_ret
    exact ⟨ret_bool (by rw [HT.out, h2b]; simp), rfl⟩
theorem implTableNeeds_c (n : Int) (w : World) : Calls Tryz.prog 113 #[.int .i64 n] w fun e w' => e = .returned (.int .i64 (needK n)) ∧ w = w' := by
  by_cases h3 : n = 3
  · have h3b : (n == 3) = true := beq_iff_eq.2 h3
    have HN := Lib.hid (show needK n = 2 by rw [h3]; rfl)
    clear h3
    go_enter Tryz.func113, Tryz.ntmps113
    go_wp2
    go_ret
    exact ⟨ret_int HN.out.symm, rfl⟩
  have h3b : (n == 3) = false := beq_eq_false_iff_ne.2 h3
  by_cases h2 : n = 2
  · have h2b : (n == 2) = true := beq_iff_eq.2 h2
    have HN := Lib.hid (show needK n = 1 by rw [h2]; rfl)
    clear h2 h3
    go_enter Tryz.func113, Tryz.ntmps113
    go_wp2
    go_ret
    exact ⟨ret_int HN.out.symm, rfl⟩
  · have h2b : (n == 2) = false := beq_eq_false_iff_ne.2 h2
    have HN := Lib.hid (show needK n = 0 by simp [needK, tabK, h2, h3])
    clear h2 h3
    go_enter Tryz.func113, Tryz.ntmps113
    go_wp2
    go_ret
    exact ⟨ret_int HN.out.symm, rfl⟩

set_option maxHeartbeats 2000000 in
theorem l3Named_c (ws : List Int) (v : Value) (w : World) (h : RdI w v ws) (hr : ∀ x ∈ ws, 0 ≤ x ∧ x ≤ 9999) (hl : ws.length ≤ 1000) : Calls Tryz.prog 133 #[v] w fun e w' =>
    ∃ u, e = .returned u ∧ OwI w.heap.size w' u (names ws) ∧ Below w.heap.size w w' := by
  obtain ⟨n, hn⟩ : ∃ n, n = ws.length := ⟨_, rfl⟩
  obtain ⟨a, c, rfl, h1, h2, h0, h3⟩ := h
  rw [← hn] at h1 hl ⊢
  have HN := Lib.hid hn
  have H3 := Lib.hid h3
  have HR := Lib.hid hr
  unfold maxLen at h2
  clear hn h3 hr h0
  go_enter Tryz.func133, Tryz.ntmps133
  go_wp2
  go_loopw [3, 4] (fun u i wr => ∃ k : Nat, k ≤ n ∧ i = .int .i64 k ∧ Bun w none wr [Res.row encI 1 3 u (names (ws.take k))]) (fun _ i _ => n - (intOf i).toNat)
  case atStart => exact ⟨0, Nat.zero_le _, rfl, by simpa [names] using (Bun.refl w none).lit eltInt #[] [] rfl (by simp)⟩
  case round =>
    obtain ⟨k, hk, rfl, hb⟩ := hrel
    have HB := Lib.hid hb
    clear hb
    by_cases hlt : k < n
    · obtain ⟨x, hx⟩ : ∃ x, ws[k]? = some x := ⟨_, List.getElem?_eq_getElem (by have := HN.out; omega)⟩
      obtain ⟨b, o, rfl, hbl, hc⟩ := H3.out k x hx
      have d0 := (HB.out.below.cell (p := ⟨b, o + k * 1 + 0, none⟩) hbl).trans (hc 0 _ rfl)
      simp only [Nat.mul_one, Nat.add_zero] at d0
      have hxr := HR.out x (List.mem_of_getElem? hx)
      have HX := Lib.hid hx
      clear hx hc
      go_wp2_with fail
      refine (specEntryGet_c x _ hxr).mono ?_
      rintro e w1 ⟨rfl, rfl⟩
      cases he : entB x
      · have HS := Lib.hid (names_skip HX.out he)
        clear he
        go_wp2
        go_roundw
        case rel => exact ⟨k + 1, by omega, by go_num, by rw [HS.out]; exact HB.out⟩
        case measure => simp [intOf]; omega
      · have HS := Lib.hid (names_succ HX.out he)
        have hI : entI x = x / 4 := by simp [entI, he]
        have HLE := Lib.hid (show (names (ws.take k)).length ≤ 1000 from Nat.le_trans (names_le _) (by simp; omega))
        clear he
        rw [hI]
        clear hI
        generalize x / 4 = y at *
        have H1 := Lib.hid ((HB.out.lits eltInt #[.int .i64 y] [y] 1 rfl rfl (by omega)).front 1 rfl)
        go_wp2_with (at_builtin; refine append_b eltInt rfl _ _ rfl _ _ [y] rfl rfl H1.out (H1.out.rd 1 rfl encI_len) (by have := HLE.out; simp only [List.length_cons, List.length_nil]; omega) ?_; intro v2 w2 H2 hnil2; have H4 := Lib.hid ((H2.front 1 rfl).drop); clear H2 hnil2 H1)
        go_roundw
        case rel => exact ⟨k + 1, by omega, by go_num, by rw [HS.out]; exact H4.out⟩
        case measure => simp [intOf]; omega
    · go_wp2
      go_ret
      have hE := HB.out
      rw [List.take_of_length_le (by have := HN.out; omega)] at hE
      exact ⟨_, rfl, hE.ow 0 rfl, hE.below⟩
end Go.Proofs.YtojknkpjnchchaaGreatDoor
