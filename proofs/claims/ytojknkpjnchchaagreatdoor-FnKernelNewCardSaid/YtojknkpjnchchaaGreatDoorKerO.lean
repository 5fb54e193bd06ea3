/- Contracts of the functions that check translations that are remembered. No conditions but the readings of the arguments. -/
import Derived.Test.YtojknkpjnchchaaGreatDoorKerN
namespace Go.Proofs.YtojknkpjnchchaaGreatDoor
open Go.BigFrame Go.ChangeShapes Go.WideShapes Go.ChangeAt Go.RowKit
set_option linter.all false
set_option maxRecDepth 100000
attribute [local go_sem ↓] Go.wp_at_zero Go.wp_at_succ

theorem findK_any (xs : List Cac) (en pg : Int) : decide (0 ≤ findK xs en pg) = xs.any (sameK en pg) := by
  unfold findK
  rw [idxOf_map]
  unfold idxOf
  cases h : xs.any (sameK en pg) <;> simp
theorem findK_lt {xs : List Cac} {k : Nat} {x : Cac} (hx : xs[k]? = some x) : decide (findK xs x.en x.pg < (k : Int)) = (xs.take k).any (sameK x.en x.pg) := by
  unfold findK
  rw [idxOf_map]
  cases h : (xs.take k).any (sameK x.en x.pg)
  · rw [idxOf_at hx h (by simp [sameK])]; simp
  · rw [decide_eq_true_eq]
    have h1 : ∃ y ∈ xs.take k, sameK x.en x.pg y = true := by simpa using h
    have h2 := List.findIdx_lt_length_of_exists h1
    have h3 := List.findIdx_getElem (p := sameK x.en x.pg) (xs := xs.take k) (w := h2)
    have h4 : (xs.take k).length ≤ k := by rw [List.length_take]; omega
    have h5 : xs[(xs.take k).findIdx (sameK x.en x.pg)]? = some ((xs.take k)[(xs.take k).findIdx (sameK x.en x.pg)]) := by
      rw [← List.getElem?_eq_getElem h2, List.getElem?_take, if_pos (by omega)]
    have h6 : (xs.take ((xs.take k).findIdx (sameK x.en x.pg))).any (sameK x.en x.pg) = false := by
      rw [List.any_eq_false]
      intro y hy
      obtain ⟨j, hj⟩ := List.getElem?_of_mem hy
      rw [List.getElem?_take] at hj
      split at hj
      · rename_i hlt
        have h7 := List.not_of_lt_findIdx hlt
        have h8 : (xs.take k)[j]? = some y := by rw [List.getElem?_take, if_pos (by omega)]; exact hj
        have h9 := (List.getElem?_eq_some_iff.1 h8).2
        rw [h9] at h7
        simpa using h7
      · simp at hj
    rw [idxOf_at h5 h6 h3]
    omega
theorem okAt_eq {xs : List Cac} {k : Nat} {x : Cac} (hx : xs[k]? = some x) : okAt xs k = (cacOk x && !((xs.take k).any (sameK x.en x.pg))) := by simp [okAt, hx]
theorem cachB_bad {xs : List Cac} {k : Nat} (hk : k < xs.length) (h : okAt xs k = false) : cachB xs = false := by
  have : (List.range xs.length).all (okAt xs) = false := by rw [List.all_eq_false]; exact ⟨k, List.mem_range.2 hk, by simp [h]⟩
  simp [cachB, this]
theorem cachB_good {xs : List Cac} {k : Nat} (hk : xs.length ≤ k) (h : ∀ i, i < k → okAt xs i = true) : cachB xs = decide (xs.length ≤ 4) := by
  have : (List.range xs.length).all (okAt xs) = true := by rw [List.all_eq_true]; exact fun i hi => h i (by have := List.mem_range.1 hi; omega)
  simp [cachB, this]

set_option maxHeartbeats 4000000 in
theorem implCacheValid_c (xs : List Cac) (v : Value) (w : World) (h : RdC w v xs) : Calls Tryz.prog 43 #[v] w fun e w' => e = .returned (.bool (cachB xs)) ∧ Below w.heap.size w w' := by
  have HX := Lib.hid h
  obtain ⟨a, c, rfl, h1, h2, -, h3⟩ := h
  unfold maxLen at h2
  obtain ⟨n, hn⟩ : ∃ n, n = xs.length := ⟨_, rfl⟩
  rw [← hn] at h1 HX ⊢
  have HN := Lib.hid hn
  have H3 := Lib.hid h3
  clear h3 hn
  by_cases hn4 : n ≤ 4
  rotate_left
  · have H8 := Lib.hid (show cachB xs = false by
      have : ¬ xs.length ≤ 4 := by have := HN.out; omega
      simp [cachB, this])
    go_enter Tryz.func43, Tryz.ntmps43
    go_wp2
    go_ret
    exact ⟨ret_bool H8.out.symm, bref _⟩
  go_enter Tryz.func43, Tryz.ntmps43
  go_wp2
  go_loopw [10] (fun i wr => ∃ k : Nat, k ≤ n ∧ i = .int .i64 k ∧ Below w.heap.size w wr ∧ Hid (∀ i, i < k → okAt xs i = true)) (fun i _ => n - (intOf i).toNat)
  case atStart => exact ⟨0, Nat.zero_le _, rfl, bref _, by intro i hi; omega⟩
  case round =>
    obtain ⟨k, hk, rfl, hb, hok⟩ := hrel
    by_cases hlt : k < n
    · obtain ⟨x, hx⟩ : ∃ x, xs[k]? = some x := ⟨_, List.getElem?_eq_getElem (by have := HN.out; omega)⟩
      obtain ⟨b, o, rfl, hbl, hc⟩ := H3.out k x hx
      have c0 := (hb.cell (p := ⟨b, o + k * 4 + 0, none⟩) hbl).trans (hc 0 _ rfl)
      have c1 := (hb.cell (p := ⟨b, o + k * 4 + 1, none⟩) hbl).trans (hc 1 _ rfl)
      have c2 := (hb.cell (p := ⟨b, o + k * 4 + 2, none⟩) hbl).trans (hc 2 _ rfl)
      have c3 := (hb.cell (p := ⟨b, o + k * 4 + 3, none⟩) hbl).trans (hc 3 _ rfl)
      simp only [Nat.add_zero] at c0
      have hk0 : (0 : Int) ≤ (k : Int) := by omega
      have hk1 : (k : Int) ≤ (c : Int) := by omega
      have HXK := Lib.hid hx
      have HOE := Lib.hid (okAt_eq hx)
      have HB := Lib.hid hb
      have HBW := Lib.hid (((Bun.refl wr none).alloc (.cells #[.int .i64 x.en, .int .i64 x.pg, .int .i64 x.fr, .bool x.wr] 78)))
      obtain ⟨z0, z1, z2, z3, -, -, -, -, -⟩ := (show _ from (by
        have h := HBW.out.get 0 rfl
        exact (⟨by rw [cell_of_row _ _ 0 _ _ (0, 0) h]; rfl, by rw [cell_of_row _ _ 1 _ _ (0, 0) h]; rfl, by rw [cell_of_row _ _ 2 _ _ (0, 0) h]; rfl, by rw [cell_of_row _ _ 3 _ _ (0, 0) h]; rfl, trivial, trivial, trivial, trivial, trivial⟩ : (wr.alloc (.cells #[.int .i64 x.en, .int .i64 x.pg, .int .i64 x.fr, .bool x.wr] 78)).cell? ⟨wr.heap.size, 0, none⟩ = some (.int .i64 x.en) ∧ (wr.alloc (.cells #[.int .i64 x.en, .int .i64 x.pg, .int .i64 x.fr, .bool x.wr] 78)).cell? ⟨wr.heap.size, 1, none⟩ = some (.int .i64 x.pg) ∧ (wr.alloc (.cells #[.int .i64 x.en, .int .i64 x.pg, .int .i64 x.fr, .bool x.wr] 78)).cell? ⟨wr.heap.size, 2, none⟩ = some (.int .i64 x.fr) ∧ (wr.alloc (.cells #[.int .i64 x.en, .int .i64 x.pg, .int .i64 x.fr, .bool x.wr] 78)).cell? ⟨wr.heap.size, 3, none⟩ = some (.bool x.wr) ∧ True ∧ True ∧ True ∧ True ∧ True)))
      have y0 := cell_bel z0
      have y1 := cell_bel z1
      have y2 := cell_bel z2
      have y3 := cell_bel z3
      have HRT := Lib.hid (fun p : Bel (wr.alloc (.cells #[.int .i64 x.en, .int .i64 x.pg, .int .i64 x.fr, .bool x.wr] 78)) => ((HX.out.below (bnext (bnext hb HBW.out.below) p.below)).take hk))
      clear hc hx z0 z1 z2 z3 hb
      cases hko : cacOk x
      · have HKO := Lib.hid hko
        have HCON := Lib.hid (fun W => (isCached_c x W).mono (R' := fun e w' => e = .returned (.bool false) ∧ Below W.heap.size W w') (by rintro e w' ⟨rfl, hb⟩; rw [HKO.out]; exact ⟨rfl, hb⟩))
        have H8 := Lib.hid (cachB_bad (xs := xs) (k := k) (by have := HN.out; omega) (by rw [HOE.out, HKO.out]; rfl))
        clear hko
        go_wp2
        refine wp_region_bel (by kernel_rfl) (by kernel_rfl) ?_
        repeat (go_big_quiet_step (first
          | (go_at_call 101; exact Calls.bel_of (HCON.out _))))
        refine wpQuiet_nil ?_
        rintro _ ⟨⟨wz, hbz⟩, rfl⟩
        have HBZ := Lib.hid (bnext (bnext HB.out HBW.out.below) hbz)
        clear hbz
        (try dsimp only)
        go_wp2
        go_ret
        exact ⟨ret_bool H8.out.symm, HBZ.out⟩
      · have HKO := Lib.hid hko
        have HCON := Lib.hid (fun W => (isCached_c x W).mono (R' := fun e w' => e = .returned (.bool true) ∧ Below W.heap.size W w') (by rintro e w' ⟨rfl, hb⟩; rw [HKO.out]; exact ⟨rfl, hb⟩))
        have HFA := Lib.hid (findK_any (xs.take k) x.en x.pg)
        obtain ⟨q, hq⟩ : ∃ q, q = findK (xs.take k) x.en x.pg := ⟨_, rfl⟩
        rw [← hq] at HFA
        have HQ := Lib.hid hq
        have HCON2 := Lib.hid (fun p : Bel (wr.alloc (.cells #[.int .i64 x.en, .int .i64 x.pg, .int .i64 x.fr, .bool x.wr] 78)) => ((cached_c (xs.take k) _ x.en x.pg p.wd (HRT.out p)).mono (R' := fun e w' => e = .returned (.int .i64 q) ∧ Below p.wd.heap.size p.wd w') (by rintro e w' ⟨rfl, hb⟩; rw [HQ.out]; exact ⟨rfl, hb⟩)))
        clear hko hq
        cases hany : (xs.take k).any (sameK x.en x.pg)
        all_goals
          have HA := Lib.hid hany
          have hqq := HFA.out.trans hany
          clear hany
          go_wp2
          refine wp_region_bel (by kernel_rfl) (by kernel_rfl) ?_
          repeat (go_big_quiet_step (first
            | (go_at_call 101; exact Calls.bel_of (HCON.out _))
            | (go_at_call 102; exact Calls.bel_of (HCON2.out _))))
          refine wpQuiet_nil ?_
          rintro _ ⟨⟨wz, hbz⟩, rfl⟩
          have HBZ := Lib.hid (bnext (bnext HB.out HBW.out.below) hbz)
          clear hbz
          (try dsimp only)
          go_wp2
        · go_roundw
          case rel => exact ⟨k + 1, by omega, by go_num, HBZ.out, by intro i hi; by_cases hik : i = k; · subst hik; rw [HOE.out, HKO.out, HA.out]; rfl
                                                                     · exact hok.out i (by omega)⟩
          case measure => simp [intOf]; omega
        · have H8 := Lib.hid (cachB_bad (xs := xs) (k := k) (by have := HN.out; omega) (by rw [HOE.out, HKO.out, HA.out]; rfl))
          go_ret
          exact ⟨ret_bool H8.out.symm, HBZ.out⟩
    · go_wp2
      go_ret
      exact ⟨ret_bool (by rw [cachB_good (k := k) (by have := HN.out; omega) hok.out, ← HN.out]; simp [hn4]), hb⟩

set_option maxHeartbeats 2000000 in
theorem l4Find_c (xs : List Cac) (v : Value) (en pg : Int) (w : World) (h : RdC w v xs) : Calls Tryz.prog 85 #[v, .int .i64 en, .int .i64 pg] w fun e w' => e = .returned (.int .i64 (findK xs en pg)) ∧ w = w' := by
  obtain ⟨a, c, rfl, h1, h2, -, h3⟩ := h
  unfold maxLen at h2
  obtain ⟨n, hn⟩ : ∃ n, n = xs.length := ⟨_, rfl⟩
  rw [← hn] at h1 ⊢
  have HN := Lib.hid hn
  have H3 := Lib.hid h3
  have HF := Lib.hid (show findK xs en pg = idxOf (sameK en pg) xs by unfold findK; exact idxOf_map _ _)
  clear h3 hn
  go_enter Tryz.func85, Tryz.ntmps85
  go_wp2
  go_loop [7] (fun i => ∃ k : Nat, k ≤ n ∧ i = .int .i64 k ∧ Hid ((xs.take k).any (sameK en pg) = false)) (fun i => n - (intOf i).toNat)
  case atStart => exact ⟨0, Nat.zero_le _, rfl, by simp [Hid]⟩
  case round =>
    obtain ⟨k, hk, rfl, hno⟩ := hrel
    by_cases hlt : k < n
    · obtain ⟨x, hx⟩ : ∃ x, xs[k]? = some x := ⟨_, List.getElem?_eq_getElem (by have := HN.out; omega)⟩
      obtain ⟨b, o, rfl, hbl, hc⟩ := H3.out k x hx
      have c0 := hc 0 _ rfl
      have c1 := hc 1 _ rfl
      simp only [Nat.add_zero] at c0
      have hk0 : (0 : Int) ≤ (k : Int) := by omega
      have hk1 : (k : Int) < (n : Int) := by omega
      have HX := Lib.hid hx
      have HS := Lib.hid (show sameK en pg x = ((x.en == en) && (x.pg == pg)) from rfl)
      clear hc hx
      cases h1 : x.en == en <;> cases h2 : x.pg == pg
      all_goals
        have G1 := Lib.hid h1
        have G2 := Lib.hid h2
        go_wp2
        first
          | (go_round
             case rel => exact ⟨k + 1, by omega, by go_num, any_take_succ HX.out hno.out (by rw [HS.out, G1.out, G2.out]; rfl)⟩
             case measure => simp [intOf]; omega)
          | (go_ret
             exact ⟨ret_int (by rw [HF.out, idxOf_at HX.out hno.out (by rw [HS.out, G1.out, G2.out]; rfl)]), rfl⟩)
    · go_wp2
      go_ret
      exact ⟨ret_int (by rw [HF.out, idxOf_none (k := k) (by have := HN.out; omega) hno.out]), rfl⟩

set_option maxHeartbeats 4000000 in
theorem specCacheValid_c (xs : List Cac) (v : Value) (w : World) (h : RdC w v xs) : Calls Tryz.prog 32 #[v] w fun e w' => e = .returned (.bool (cachB xs)) ∧ Below w.heap.size w w' := by
  have HX := Lib.hid h
  obtain ⟨a, c, rfl, h1, h2, -, h3⟩ := h
  unfold maxLen at h2
  obtain ⟨n, hn⟩ : ∃ n, n = xs.length := ⟨_, rfl⟩
  rw [← hn] at h1 HX ⊢
  have HN := Lib.hid hn
  have H3 := Lib.hid h3
  clear h3 hn
  go_enter Tryz.func32, Tryz.ntmps32
  go_wp2
  go_loopw [3] (fun i wr => ∃ k : Nat, k ≤ n ∧ i = .int .i64 k ∧ Below w.heap.size w wr ∧ Hid (∀ i, i < k → okAt xs i = true)) (fun i _ => n - (intOf i).toNat)
  case atStart => exact ⟨0, Nat.zero_le _, rfl, bref _, by intro i hi; omega⟩
  case round =>
    obtain ⟨k, hk, rfl, hb, hok⟩ := hrel
    by_cases hlt : k < n
    · obtain ⟨x, hx⟩ : ∃ x, xs[k]? = some x := ⟨_, List.getElem?_eq_getElem (by have := HN.out; omega)⟩
      obtain ⟨b, o, rfl, hbl, hc⟩ := H3.out k x hx
      have c0 := (hb.cell (p := ⟨b, o + k * 4 + 0, none⟩) hbl).trans (hc 0 _ rfl)
      have c1 := (hb.cell (p := ⟨b, o + k * 4 + 1, none⟩) hbl).trans (hc 1 _ rfl)
      have c2 := (hb.cell (p := ⟨b, o + k * 4 + 2, none⟩) hbl).trans (hc 2 _ rfl)
      have c3 := (hb.cell (p := ⟨b, o + k * 4 + 3, none⟩) hbl).trans (hc 3 _ rfl)
      simp only [Nat.add_zero] at c0
      have y0 := cell_bel c0
      have y1 := cell_bel c1
      have y2 := cell_bel c2
      have y3 := cell_bel c3
      have hk0 : (0 : Int) ≤ (k : Int) := by omega
      have hk1 : (k : Int) < (n : Int) := by omega
      have HOE := Lib.hid (okAt_eq hx)
      have HB := Lib.hid hb
      have HRT := Lib.hid (fun p : Bel wr => (HX.out.below (bnext hb p.below)))
      have HLT := Lib.hid (findK_lt hx)
      clear hc hx c0 c1 c2 c3 hb
      cases hko : cacOk x
      · have HKO := Lib.hid hko
        have HCON := Lib.hid (fun W => (l4Cached_c x W).mono (R' := fun e w' => e = .returned (.bool false) ∧ Below W.heap.size W w') (by rintro e w' ⟨rfl, hb⟩; rw [HKO.out]; exact ⟨rfl, hb⟩))
        have H8 := Lib.hid (cachB_bad (xs := xs) (k := k) (by have := HN.out; omega) (by rw [HOE.out, HKO.out]; rfl))
        clear hko
        go_wp2
        refine wp_region_bel (by kernel_rfl) (by kernel_rfl) ?_
        repeat (go_big_quiet_step (first
          | (go_at_call 84; exact Calls.bel_of (HCON.out _))))
        refine wpQuiet_nil ?_
        rintro _ ⟨⟨wz, hbz⟩, rfl⟩
        have HBZ := Lib.hid (bnext HB.out hbz)
        clear hbz
        (try dsimp only)
        go_wp2
        go_ret
        exact ⟨ret_bool H8.out.symm, HBZ.out⟩
      · have HKO := Lib.hid hko
        have HCON := Lib.hid (fun W => (l4Cached_c x W).mono (R' := fun e w' => e = .returned (.bool true) ∧ Below W.heap.size W w') (by rintro e w' ⟨rfl, hb⟩; rw [HKO.out]; exact ⟨rfl, hb⟩))
        obtain ⟨q, hq⟩ : ∃ q, q = findK xs x.en x.pg := ⟨_, rfl⟩
        rw [← hq] at HLT
        have HQ := Lib.hid hq
        have HCON2 := Lib.hid (fun p : Bel wr => ((l4Find_c xs _ x.en x.pg p.wd (HRT.out p)).mono (R' := fun e w' => e = .returned (.int .i64 q) ∧ p.wd = w') (by rintro e w' ⟨rfl, hb⟩; rw [HQ.out]; exact ⟨rfl, hb⟩)))
        clear hko hq
        cases hany : (xs.take k).any (sameK x.en x.pg)
        all_goals
          have HA := Lib.hid hany
          have hqq := HLT.out.trans hany
          clear hany
          go_wp2
          refine wp_region_bel (by kernel_rfl) (by kernel_rfl) ?_
          repeat (go_big_quiet_step (first
            | (go_at_call 84; exact Calls.bel_of (HCON.out _))
            | (go_at_call 85; exact Calls.bel_same (HCON2.out _))))
          refine wpQuiet_nil ?_
          rintro _ ⟨⟨wz, hbz⟩, rfl⟩
          have HBZ := Lib.hid (bnext HB.out hbz)
          clear hbz
          (try dsimp only)
          go_wp2
        · go_roundw
          case rel => exact ⟨k + 1, by omega, by go_num, HBZ.out, by intro i hi; by_cases hik : i = k; · subst hik; rw [HOE.out, HKO.out, HA.out]; rfl
                                                                     · exact hok.out i (by omega)⟩
          case measure => simp [intOf]; omega
        · have H8 := Lib.hid (cachB_bad (xs := xs) (k := k) (by have := HN.out; omega) (by rw [HOE.out, HKO.out, HA.out]; rfl))
          go_ret
          exact ⟨ret_bool H8.out.symm, HBZ.out⟩
    · have HG := Lib.hid (cachB_good (k := k) (by have := HN.out; omega) hok.out)
      rw [← HN.out] at HG
      by_cases hn4 : n ≤ 4
      · go_wp2
        go_ret
        exact ⟨ret_bool (by rw [HG.out]; simp <;> omega), hb⟩
      · go_wp2
        go_ret
        exact ⟨ret_bool (by rw [HG.out]; simp <;> omega), hb⟩
end Go.Proofs.YtojknkpjnchchaaGreatDoor
