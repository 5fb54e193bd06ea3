/- Contracts of the functions that make a place free. No conditions but the readings of the arguments. -/
import Derived.Test.YtppbhlocnccpnaaSwapG
namespace Go.Proofs.Ytppbhlocnccpnaa
open Go.ChangeShapes Go.WideShapes Go.RowKit
set_option linter.all false
attribute [local go_sem ↓] Go.wp_at_zero Go.wp_at_succ

def dropL (xss : List (List Int)) (slot : Int) : List (List Int) := if keptB xss slot then xss.set slot.toNat [] else []

theorem sum_le_of {n m : Nat} : ∀ {xss : List (List Int)}, xss.length ≤ n → (∀ xs ∈ xss, xs.length ≤ m) → sumLen xss ≤ xss.length * m := by
  intro xss
  induction xss with
  | nil => intro _ _; simp [sumLen]
  | cons x t ih =>
    intro h1 h2
    have h3 := ih (by simp at h1; omega) (fun xs h => h2 xs (by simp [h]))
    have h4 := h2 x (by simp)
    simp only [sumLen, List.map_cons, List.sum_cons, List.length_cons] at h3 ⊢
    rw [Nat.succ_mul]
    omega
theorem swapOk_sum {xss : List (List Int)} (h : swapOk xss = true) : (xss.length : Int) + sumLen xss ≤ 80 := by
  have hl := swapOk_len h
  have := sum_le_of (n := 16) (m := 4) (xss := xss) (by omega) (fun xs hx => by
    obtain ⟨k, hk⟩ := List.getElem?_of_mem hx
    exact swapOk_row h hk)
  rw [hl] at this
  omega

/-- An owned slice of slices that is not empty: where it lies, and its cells. -/
theorem OwN.open {α : Type} {enc : α → List Value} {K : Nat} {e eo : TypeId} {lo hi : Nat} {w : World} {v : Value} {xss : List (List α)} (h : OwN enc K e eo lo hi w v xss) (hne : xss ≠ []) :
    ∃ g c, v = .slice (some ⟨g, 0, none⟩) xss.length c ∧ lo ≤ g ∧ g < hi ∧ g < w.heap.size ∧ xss.length ≤ c ∧ c ≤ maxLen ∧ (∀ j, w.frozen? ⟨g, j, none⟩ = false) ∧ ∀ k, k < xss.length → ∃ s, w.cell? ⟨g, k, none⟩ = some (slv s) := by
  obtain ⟨rows, h0, hi⟩ := h
  have hl := hi.len
  rcases h0.1.2 with ⟨rfl, hz⟩ | ⟨g, cap, cur, rfl, -⟩
  · exact absurd (List.eq_nil_of_length_eq_zero (by omega)) hne
  · obtain ⟨-, k1, k2, k3, k4, k5, k6⟩ := h0.1.open encL_len
    rw [hl] at k3 ⊢
    refine ⟨g, cap, rfl, k1, (h0.2 g rfl).2, k2, k3, k4, k5, fun k hk => ?_⟩
    obtain ⟨z, hz⟩ : ∃ z, rows[k]? = some z := ⟨_, List.getElem?_eq_getElem (by omega)⟩
    have := k6 k z 0 _ hz rfl
    simp only [Nat.mul_one, Nat.add_zero] at this
    exact ⟨z, this⟩

theorem implSwapDrop_c (xss : List (List Int)) (slot : Int) (v : Value) (w : World) (hx : RdII w v xss) :
    Calls Try.prog 26 #[v, .int .i64 slot] w fun e w' => ∃ u, e = .returned (.tuple #[u, .bool (keptB xss slot)]) ∧ OwII w.heap.size w'.heap.size w' u (dropL xss slot) ∧ Below w.heap.size w w' := by
  have HX := Lib.hid hx
  cases hv : keptB xss slot
  · have HV := Lib.hid hv
    have HG := Lib.hid (show dropL xss slot = [] by simp [dropL, hv])
    clear hv
    go_enter Try.func26, Try.ntmps26
    go_wp2_with fail
    refine (isKept_c xss slot _ _ HX.out).mono ?_
    rintro e w1 ⟨rfl, hb1⟩
    rw [HV.out]
    go_wp2
    go_ret2
    rw [HG.out]
    exact ⟨_, rfl, ⟨[], OwF.nil _ _ _, InO.empty _ _ _⟩, hb1⟩
  · obtain ⟨hok, k, xs, rfl, hk, hxs, hrow, hpos, hle, -⟩ := kept_at hv
    have HV := Lib.hid hv
    have HG := Lib.hid (show dropL xss (k : Int) = xss.set k [] by simp [dropL, hv])
    have HSUM := Lib.hid (show (xss.length : Int) + sumLen xss ≤ 2000000 by have := swapOk_sum hok; omega)
    have hkl : k < xss.length := (List.getElem?_eq_some_iff.1 hxs).1
    have HKL := Lib.hid hkl
    clear hv hrow hxs hok hkl
    go_enter Try.func26, Try.ntmps26
    go_wp2_with fail
    refine (isKept_c xss k _ _ HX.out).mono ?_
    rintro e w1 ⟨rfl, hb1⟩
    rw [HV.out]
    go_wp2_with fail
    refine (ownWords_c xss _ _ (HX.out.below hb1) HSUM.out).mono ?_
    rintro e w2 ⟨u, rfl, ho, hb2⟩
    obtain ⟨g, cc, rfl, g1, g2, g3, g4, g5, g6, g7⟩ := ho.open (by intro h; have := HKL.out; rw [h] at this; simp at this)
    have hst := ho.stored neSl (s := slN) (OwF.nil w1.heap.size w2.heap.size w2 : OwF encI 1 3 _ _ w2 (slv slN) []) (.inr rfl) (Nat.le_refl _) (Nat.le_refl _) k HKL.out
    obtain ⟨s0, c0⟩ := g7 k HKL.out
    have f0 := g6 k
    have HST := Lib.hid hst
    obtain ⟨n, hn⟩ : ∃ n, n = xss.length := ⟨_, rfl⟩
    have hkn : k < n := by rw [hn]; exact HKL.out
    rw [← hn] at g4 HST ⊢
    unfold maxLen at g5
    have hsz := hb1.size
    have hbb := bnext hb1 hb2
    clear hst g7 g6 ho hn
    simp only [slv, slN] at HST
    go_wp2
    go_ret2
    rw [HG.out]
    exact ⟨_, rfl, by have := HST.out.mono hsz (Nat.le_refl _); simpa using this, hbb.setCell (by simp; omega) _⟩

theorem specSwapDrop_c (xss : List (List Int)) (slot : Int) (v : Value) (w : World) (hx : RdII w v xss) :
    Calls Try.prog 25 #[v, .int .i64 slot] w fun e w' => ∃ u, e = .returned (.tuple #[u, .bool (keptB xss slot)]) ∧ OwII w.heap.size w'.heap.size w' u (dropL xss slot) ∧ Below w.heap.size w w' := by
  have HX := Lib.hid hx
  have hnil : ∀ w1 : World, OwII w1.heap.size (w1.alloc (.cells #[] 29)).heap.size (w1.alloc (.cells #[] 29)) (.slice (some ⟨w1.heap.size, 0, none⟩) 0 0) [] := fun w1 => ⟨[], OwF.of (OwT.lit eltSl w1 #[] [] rfl (by simp)) (Nat.le_refl _), InO.empty _ _ _⟩
  have HN := Lib.hid hnil
  clear hnil
  cases hv : swapOk xss
  · have HV := Lib.hid hv
    have HK := Lib.hid (show keptB xss slot = false by simp [keptB, hv])
    have HG := Lib.hid (show dropL xss slot = [] by simp [dropL, HK.out])
    clear hv
    go_enter Try.func25, Try.ntmps25
    go_wp2_with fail
    refine (specSwapValid_c xss _ _ HX.out).mono ?_
    rintro e w1 ⟨rfl, hb1⟩
    rw [HV.out]
    go_wp2
    go_ret2
    rw [HG.out, HK.out]
    exact ⟨_, rfl, (HN.out w1).mono hb1.size (Nat.le_refl _), hb1.alloc hb1.size _⟩
  · cases hs : btw 0 slot 15
    · have HV := Lib.hid hv
      have HS := Lib.hid hs
      have HK := Lib.hid (show keptB xss slot = false by simp [keptB, hs])
      have HG := Lib.hid (show dropL xss slot = [] by simp [dropL, HK.out])
      clear hv hs
      go_enter Try.func25, Try.ntmps25
      go_wp2_with fail
      refine (specSwapValid_c xss _ _ HX.out).mono ?_
      rintro e w1 ⟨rfl, hb1⟩
      rw [HV.out]
      go_wp2_with fail
      refine (l6In_c _ _ _ _).mono ?_
      rintro e w2 ⟨rfl, rfl⟩
      rw [HS.out]
      go_wp2
      go_ret2
      rw [HG.out, HK.out]
      exact ⟨_, rfl, (HN.out w1).mono hb1.size (Nat.le_refl _), hb1.alloc hb1.size _⟩
    · obtain ⟨k, xs, rfl, hk, hxs, hrow⟩ := swap_at hv hs
      have HV := Lib.hid hv
      have HS := Lib.hid hs
      have HSUM := Lib.hid (show (xss.length : Int) + sumLen xss ≤ 2000000 by have := swapOk_sum hv; omega)
      have HKL := Lib.hid (show k < xss.length from (List.getElem?_eq_some_iff.1 hxs).1)
      obtain ⟨rows, ⟨a, c, rfl, h1, h2, -, h3⟩, hin⟩ := hx
      have hkr : k < rows.length := by rw [hin.1]; exact (List.getElem?_eq_some_iff.1 hxs).1
      obtain ⟨s, hrw, hrd⟩ := hin.get hxs
      obtain ⟨b, o, rfl, hbl, hc⟩ := h3 k s hrw
      have c0 := hc 0 _ rfl
      simp only [Nat.add_zero, Nat.mul_one] at c0
      obtain ⟨a2, c2, hsv, k1, k2, -, -⟩ := hrd
      unfold maxLen at h2 k2
      rw [hsv] at c0
      by_cases h0 : xs.length = 0
      · have h0g : ((xs.length : Int) == 0) = true := by simp [h0]
        have HK := Lib.hid (show keptB xss (k : Int) = false by simp [keptB, hrow, h0])
        have HG := Lib.hid (show dropL xss (k : Int) = [] by simp [dropL, HK.out])
        clear hv hs hrow hxs hc h3 hrw hsv hin h0
        go_enter Try.func25, Try.ntmps25
        go_wp2_with fail
        refine (specSwapValid_c xss _ _ HX.out).mono ?_
        rintro e w1 ⟨rfl, hb1⟩
        rw [HV.out]
        have c1 := (hb1.cell (p := ⟨b, o + k, none⟩) hbl).trans c0
        go_wp2_with fail
        refine (l6In_c _ _ _ _).mono ?_
        rintro e w2 ⟨rfl, rfl⟩
        rw [HS.out]
        go_wp2
        go_ret2
        rw [HG.out, HK.out]
        exact ⟨_, rfl, (HN.out w1).mono hb1.size (Nat.le_refl _), hb1.alloc hb1.size _⟩
      · have h0g : ((xs.length : Int) == 0) = false := by rw [beq_eq_false_iff_ne]; omega
        have HK := Lib.hid (show keptB xss (k : Int) = true by simp [keptB, hrow, hv, hs]; omega)
        have HG := Lib.hid (show dropL xss (k : Int) = xss.set k [] by simp [dropL, HK.out])
        clear hv hs hrow hxs hc h3 hrw hsv hin h0
        go_enter Try.func25, Try.ntmps25
        go_wp2_with fail
        refine (specSwapValid_c xss _ _ HX.out).mono ?_
        rintro e w1 ⟨rfl, hb1⟩
        rw [HV.out]
        have c1 := (hb1.cell (p := ⟨b, o + k, none⟩) hbl).trans c0
        go_wp2_with fail
        refine (l6In_c _ _ _ _).mono ?_
        rintro e w2 ⟨rfl, rfl⟩
        rw [HS.out]
        go_wp2_with fail
        refine (l2Copy_c xss _ _ (HX.out.below hb1) HSUM.out).mono ?_
        rintro e w2 ⟨u, rfl, ho, hb2⟩
        have ho' := ho.keep (Chg.of_below (balloc w2 (.cells #[] 3))) (.inr (Nat.zero_le _))
        obtain ⟨g, cc, rfl, g1, g2, g3, g4, g5, g6, g7⟩ := ho'.open (by intro h; have := HKL.out; rw [h] at this; simp at this)
        have hlit : OwF encI 1 3 w2.heap.size (w2.alloc (.cells #[] 3)).heap.size (w2.alloc (.cells #[] 3)) (slv (some ⟨w2.heap.size, 0, none⟩, 0, 0)) [] := OwF.of (OwT.lit eltInt w2 #[] [] rfl (by simp)) (Nat.le_refl _)
        have hst := ho'.stored neSl hlit (.inl (Nat.le_refl _)) hb2.size (by simp) k HKL.out
        obtain ⟨s0, d0⟩ := g7 k HKL.out
        have f0 := g6 k
        have HST := Lib.hid hst
        obtain ⟨n, hn⟩ : ∃ n, n = xss.length := ⟨_, rfl⟩
        have hkn : k < n := by rw [hn]; exact HKL.out
        rw [← hn] at g4 HST ⊢
        unfold maxLen at g5
        have hsz := hb1.size
        have hbb : Below w.heap.size w ((w2.setCell ⟨g, k, none⟩ (slv (some ⟨w2.heap.size, 0, none⟩, 0, 0))).alloc (.cells #[] 3)) := ((bnext hb1 hb2).setCell (by simp; omega) _).alloc (by have := (bnext hb1 hb2).size; simpa using this) _
        clear hst g7 g6 ho ho' hlit hn c1 c0
        simp only [slv] at HST
        go_wp2
        go_ret2
        rw [HG.out, HK.out]
        have hst := HST.out
        rw [World.setCell_alloc_past _ _ _ _ g2] at hst
        exact ⟨_, rfl, by have := hst.mono hsz (Nat.le_refl _); simpa using this, hbb⟩
end Go.Proofs.Ytppbhlocnccpnaa
