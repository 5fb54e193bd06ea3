/- Contracts of the program's functions that add and drop rights. No conditions but the readings of the arguments and the sizes of the texts. -/
import Derived.Test.YtldkmibmabpfmaaDoorRightJ
import Derived.Test.YtldkmibmabpfmaaDoorRightH
namespace Go.Proofs.YtldkmibmabpfmaaDoor
open Go.ChangeShapes Go.WideShapes Go.RowKit
set_option linter.all false
attribute [local go_sem ↓] Go.wp_at_zero Go.wp_at_succ

theorem dropL_bad {xs : List Txt} {s : Txt} (h : (rightsOk xs && rightOk s) = false) : dropL xs s = [] := by simp [dropL, h]
theorem dropL_good {xs : List Txt} {s : Txt} (h1 : rightsOk xs = true) (h2 : rightOk s = true) : dropL xs s = keepL xs s := by simp [dropL, h1, h2, keepL]

set_option maxHeartbeats 2000000 in
theorem implRightsDrop_c (xs : List Txt) (v : Value) (s : Txt) (w : World) (h : RdS w v xs) (hf : fitS xs) (hs : s.length ≤ 9223372036854775807) : Calls Tryd.prog 28 #[v, tv s] w fun e w' =>
    ∃ u, e = .returned u ∧ OwS w.heap.size w' u (dropL xs s) ∧ Below w.heap.size w w' := by
  have hn := heap_alloc_new w (Obj.cells #[tv s] 9)
  have hc : (w.alloc (.cells #[tv s] 9)).cell? ⟨w.heap.size, 0, none⟩ = some (tv s) := by simp only [World.cell?]; rw [hn]; rfl
  have HC := Lib.hid hc
  have H0 := Lib.hid (balloc w (.cells #[tv s] 9))
  have HH := Lib.hid (h.below H0.out)
  have hz : w.heap.size < (w.alloc (.cells #[tv s] 9)).heap.size := by simp
  clear hn h hc
  cases h1 : rightsOk xs
  · have HA := Lib.hid (dropL_bad (xs := xs) (s := s) (by rw [h1]; rfl))
    have H1 := Lib.hid h1
    clear h1
    go_enter Tryd.func28, Tryd.ntmps28
    go_wp2_with fail
    refine (implRightsValid_c xs v _ HH.out hf).mono ?_
    rintro e w1 ⟨rfl, hb1⟩
    rw [H1.out]
    have HB := Lib.hid (bthen hb1)
    clear hb1
    go_wp2
    go_ret
    rw [HA.out]
    exact ⟨_, rfl, World.ownsRow_nil _ _ _ _, HB.out⟩
  cases h2 : rightOk s
  · have HA := Lib.hid (dropL_bad (xs := xs) (s := s) (by rw [h1, h2]; rfl))
    have H1 := Lib.hid h1
    have H2 := Lib.hid h2
    clear h1 h2
    go_enter Tryd.func28, Tryd.ntmps28
    go_wp2_with fail
    refine (implRightsValid_c xs v _ HH.out hf).mono ?_
    rintro e w1 ⟨rfl, hb1⟩
    rw [H1.out]
    have HC1 := Lib.hid ((hb1.cell (p := ⟨w.heap.size, 0, none⟩) hz).trans HC.out)
    have hc1 := HC1.out
    go_wp2_with fail
    refine (implRightValid_c s _ hs).mono ?_
    rintro e w2 ⟨rfl, hb2⟩
    rw [H2.out]
    have HB := Lib.hid (bthen (bnext hb1 hb2))
    clear hb1 hb2 hc1
    go_wp2
    go_ret
    rw [HA.out]
    exact ⟨_, rfl, World.ownsRow_nil _ _ _ _, HB.out⟩
  have HA := Lib.hid (dropL_good h1 h2)
  have HL6 := Lib.hid (rightsOk_len h1)
  have H1 := Lib.hid h1
  have H2 := Lib.hid h2
  clear h1 h2
  go_enter Tryd.func28, Tryd.ntmps28
  go_wp2_with fail
  refine (implRightsValid_c xs v _ HH.out hf).mono ?_
  rintro e w1 ⟨rfl, hb1⟩
  rw [H1.out]
  have HC1 := Lib.hid ((hb1.cell (p := ⟨w.heap.size, 0, none⟩) hz).trans HC.out)
  have hc1 := HC1.out
  go_wp2_with fail
  refine (implRightValid_c s _ hs).mono ?_
  rintro e w2 ⟨rfl, hb2⟩
  rw [H2.out]
  have hz1 := Nat.lt_of_lt_of_le hz hb1.size
  have HC2 := Lib.hid ((hb2.cell (p := ⟨w.heap.size, 0, none⟩) hz1).trans hc1)
  have HB2 := Lib.hid (bnext hb1 hb2)
  have hz2 := Nat.lt_of_lt_of_le hz HB2.out.size
  clear hc1 hb1 hb2
  go_wp2_with fail
  refine (cloneStr_c xs v _ (HH.out.below HB2.out) (by have := HL6.out; omega)).mono ?_
  rintro e w3 ⟨u, rfl, ho, hb3⟩
  have HO := Lib.hid ho
  have HB3 := Lib.hid (bnext HB2.out hb3)
  have HC3 := Lib.hid ((hb3.cell (p := ⟨w.heap.size, 0, none⟩) hz2).trans HC2.out)
  have HNE := Lib.hid (show ∀ g, u.ownBlock = some g → g ≠ w.heap.size from fun g hg => by have := (World.ownsRow.lt ho g hg).1; omega)
  have HGE := Lib.hid (show ∀ g, u.ownBlock = some g → w.heap.size ≤ g from fun g hg => by have := (World.ownsRow.lt ho g hg).1; omega)
  have HSZ := Lib.hid (show w.heap.size ≤ w2.heap.size by omega)
  clear ho hb3
  go_wp2_with fail
  refine (deleteStr_c xs u s w.heap.size w2.heap.size _ HO.out HC3.out HNE.out (by have := HL6.out; omega)).mono ?_
  rintro e w4 ⟨u4, rfl, ho4, ho5, hg4, hn4⟩
  have HO4 := Lib.hid (ho4.mono HSZ.out)
  have HB4 := Lib.hid (show Below w.heap.size w w4 by
    have h3 : Below w.heap.size w w3 := bthen HB3.out
    cases hv : u.ownBlock with
    | none => exact bnext h3 (hn4 hv)
    | some g => exact bgrown h3 (hg4 g hv) (fun k hk => by simp at hk; subst hk; exact HGE.out g hv))
  clear ho4 ho5 hg4 hn4
  go_wp2
  go_ret
  rw [HA.out]
  exact ⟨_, rfl, HO4.out, HB4.out⟩

set_option maxHeartbeats 2000000 in
theorem implRightsAdd_c (xs : List Txt) (v : Value) (s : Txt) (w : World) (h : RdS w v xs) (hf : fitS xs) (hs : s.length ≤ 9223372036854775807) : Calls Tryd.prog 34 #[v, tv s] w fun e w' =>
    ∃ u, e = .returned (.tuple #[u, .bool (addB xs s)]) ∧ OwS w.heap.size w' u (addL xs s) ∧ Below w.heap.size w w' := by
  have HH := Lib.hid h
  obtain ⟨n, hn⟩ : ∃ n, n = xs.length := ⟨_, rfl⟩
  obtain ⟨a, c, rfl, t1, t2, -, -⟩ := h
  rw [← hn] at t1 HH ⊢
  unfold maxLen at t2
  have HN := Lib.hid hn
  clear hn
  cases h1 : rightsOk xs
  · have HA := Lib.hid (addL_bad (xs := xs) (s := s) (by rw [h1]; rfl))
    have H1 := Lib.hid h1
    clear h1
    go_enter Tryd.func34, Tryd.ntmps34
    go_wp2_with fail
    refine (implRightsValid_c xs _ _ HH.out hf).mono ?_
    rintro e w1 ⟨rfl, hb1⟩
    rw [H1.out]
    go_wp2
    go_ret2
    rw [HA.out.1, HA.out.2]
    exact ⟨_, rfl, World.ownsRow_nil _ _ _ _, hb1⟩
  cases h2 : rightOk s
  · have HA := Lib.hid (addL_bad (xs := xs) (s := s) (by rw [h1, h2]; rfl))
    have H1 := Lib.hid h1
    have H2 := Lib.hid h2
    clear h1 h2
    go_enter Tryd.func34, Tryd.ntmps34
    go_wp2_with fail
    refine (implRightsValid_c xs _ _ HH.out hf).mono ?_
    rintro e w1 ⟨rfl, hb1⟩
    rw [H1.out]
    go_wp2_with fail
    refine (implRightValid_c s _ hs).mono ?_
    rintro e w2 ⟨rfl, hb2⟩
    rw [H2.out]
    have HB := Lib.hid (bnext hb1 hb2)
    clear hb1 hb2
    go_wp2
    go_ret2
    rw [HA.out.1, HA.out.2]
    exact ⟨_, rfl, World.ownsRow_nil _ _ _ _, HB.out⟩
  have HL6 := Lib.hid (rightsOk_len h1)
  have n6 : n ≤ 6 := by rw [HN.out]; exact HL6.out
  have H1 := Lib.hid h1
  have H2 := Lib.hid h2
  clear h1 h2
  cases hh : hasB xs s
  · have HHS := Lib.hid hh
    have HX := Lib.hid (show xs[place xs s]? ≠ some s from fun e => by have := is_has H1.out e; rw [hh] at this; cases this)
    clear hh
    by_cases h6 : n = 6
    all_goals
      have h6' := Lib.hid h6
      first
      | have h6b : ((n : Int) == 6) = true := by rw [beq_iff_eq]; omega
      | have h6b : ((n : Int) == 6) = false := by rw [beq_eq_false_iff_ne]; omega
      clear h6
      go_enter Tryd.func34, Tryd.ntmps34
      go_wp2_with fail
      refine (implRightsValid_c xs _ _ HH.out hf).mono ?_
      rintro e w1 ⟨rfl, hb1⟩
      rw [H1.out]
      go_wp2_with fail
      refine (implRightValid_c s _ hs).mono ?_
      rintro e w2 ⟨rfl, hb2⟩
      rw [H2.out]
      have HB2 := Lib.hid (bnext hb1 hb2)
      clear hb1 hb2
      go_wp2_with fail
      refine (search_c xs _ s _ (HH.out.below HB2.out) (rightsOk_asc H1.out) (by have := HL6.out; omega)).mono ?_
      rintro e w3 ⟨rfl, hb3⟩
      rw [HHS.out]
      have HB3 := Lib.hid (bnext HB2.out hb3)
      clear hb3
      go_wp2_with fail
      refine (cloneStr_c xs _ _ (HH.out.below HB3.out) (by have := HL6.out; omega)).mono ?_
      rintro e w4 ⟨u, rfl, ho, hb4⟩
      have H4 := Lib.hid (((Bun.refl w none).call HB3.out).addT ho hb4)
      clear ho hb4
    · have HA := Lib.hid (addL_full H1.out H2.out HX.out (by have := HN.out; have := h6'.out; omega))
      go_wp2
      go_ret2
      rw [HA.out.1, HA.out.2]
      exact ⟨_, rfl, H4.out.ow 0 rfl, H4.out.below⟩
    · have HA := Lib.hid (addL_new H1.out H2.out HX.out (by have := HN.out; have := h6'.out; omega))
      have H5 := Lib.hid ((H4.out.lits eltStr #[tv s] [s] 1 rfl rfl (by omega)).front 1 rfl)
      go_wp2_with fail
      refine (insert_b xs u _ s (place xs s) H5.out (place_le xs s) (by have := HL6.out; omega)).mono ?_
      rintro e w5 ⟨u5, rfl, h6''⟩
      have H6 := Lib.hid h6''
      clear h6''
      go_wp2
      go_ret2
      rw [HA.out.1, HA.out.2]
      exact ⟨_, rfl, by have := H6.out.ow 0 rfl; simpa using this, H6.out.below⟩
  · have HHS := Lib.hid hh
    have HA := Lib.hid (addL_has H1.out H2.out ((place_mem (rightsOk_asc H1.out)).1 (by simpa [hasB] using hh)))
    clear hh
    go_enter Tryd.func34, Tryd.ntmps34
    go_wp2_with fail
    refine (implRightsValid_c xs _ _ HH.out hf).mono ?_
    rintro e w1 ⟨rfl, hb1⟩
    rw [H1.out]
    go_wp2_with fail
    refine (implRightValid_c s _ hs).mono ?_
    rintro e w2 ⟨rfl, hb2⟩
    rw [H2.out]
    have HB2 := Lib.hid (bnext hb1 hb2)
    clear hb1 hb2
    go_wp2_with fail
    refine (search_c xs _ s _ (HH.out.below HB2.out) (rightsOk_asc H1.out) (by have := HL6.out; omega)).mono ?_
    rintro e w3 ⟨rfl, hb3⟩
    rw [HHS.out]
    have HB3 := Lib.hid (bnext HB2.out hb3)
    clear hb3
    go_wp2_with fail
    refine (cloneStr_c xs _ _ (HH.out.below HB3.out) (by have := HL6.out; omega)).mono ?_
    rintro e w4 ⟨u, rfl, ho, hb4⟩
    have H4 := Lib.hid (((Bun.refl w none).call HB3.out).addT ho hb4)
    clear ho hb4
    go_wp2
    go_ret2
    rw [HA.out.1, HA.out.2]
    exact ⟨_, rfl, H4.out.ow 0 rfl, H4.out.below⟩
theorem specRightsDrop_o (xs : List Txt) (v : Value) (s : Txt) (w : World) (h : RdS w v xs) (hf : fitS xs) (hs : s.length ≤ 9223372036854775807) : Calls Tryd.prog 27 #[v, tv s] w fun e w' =>
    ∃ u, e = .returned u ∧ OwS w.heap.size w' u (dropL xs s) ∧ Below w.heap.size w w' :=
  (specRightsDrop_c xs v s w h hf hs).mono (by rintro e w' ⟨u, he, hB⟩; exact ⟨u, he, hB.ow 0 rfl, hB.below⟩)
end Go.Proofs.YtldkmibmabpfmaaDoor
