/- Contracts of the functions that take frames and give them back. No conditions but the readings of the arguments and the sizes of the texts. -/
import Derived.Test.YtdeempkiffdlnaaDoorInfoF
namespace Go.Proofs.YtdeempkiffdlnaaDoor
open Go.ChangeShapes Go.WideShapes Go.RowKit
set_option linter.all false
attribute [local go_sem ↓] Go.wp_at_zero Go.wp_at_succ

theorem idx_found {α : Type} {p : α → Bool} {xs : List α} (h : xs.any p = true) : ∃ (k : Nat) (x : α), idxOf p xs = (k : Int) ∧ xs[k]? = some x ∧ p x = true ∧ (xs.take k).any p = false := by
  have hlt : xs.findIdx p < xs.length := List.findIdx_lt_length.2 (by simpa using h)
  refine ⟨xs.findIdx p, xs[xs.findIdx p], by unfold idxOf; rw [if_pos h], List.getElem?_eq_getElem hlt, List.findIdx_getElem, ?_⟩
  rw [List.any_eq_false]
  intro x hx
  obtain ⟨i, hi, rfl⟩ := List.mem_take_iff_getElem.1 hx
  have := List.not_of_lt_findIdx (p := p) (xs := xs) (i := i) (by omega)
  simpa using this

abbrev rowF (v : Value) (xs : List Info) : Res := Res.row Info.enc 3 27 v xs

/-- A store of a whole element of three cells. -/
theorem Bun.store3 {α : Type} {enc : α → List Value} {e g n c k : Nat} {w0 w : World} {row : Option Nat} {rs : List Res} {xs : List α} {x : α} {a1 a2 a3 : Value} (h : Bun w0 row w (Res.row enc 3 e (.slice (some ⟨g, 0, none⟩) n c) xs :: rs)) (hK : ∀ x, (enc x).length = 3) (hk : k < xs.length) (hx : enc x = [a1, a2, a3]) :
    Bun w0 row (((w.setCell ⟨g, k * 3, none⟩ a1).setCell ⟨g, k * 3 + 1, none⟩ a2).setCell ⟨g, k * 3 + 2, none⟩ a3) (Res.row enc 3 e (.slice (some ⟨g, 0, none⟩) n c) (xs.set k x) :: rs) := by
  have ho : OwT enc 3 e 0 w (.slice (some ⟨g, 0, none⟩) n c) xs := h.get 0 rfl
  exact h.mod ((Chs.set w ⟨g, k * 3, none⟩ a1 (by exact (rfl : (some g : Option Nat) = some g))).trans ((Chs.set _ ⟨g, k * 3 + 1, none⟩ a2 (by exact (rfl : (some g : Option Nat) = some g))).trans (Chs.set _ ⟨g, k * 3 + 2, none⟩ a3 (by exact (rfl : (some g : Option Nat) = some g))))) (Res.row enc 3 e (.slice (some ⟨g, 0, none⟩) n c) (xs.set k x)) (ho.stored3 hK k x a1 a2 a3 hk hx) (fun _ h => .inl h) (fun _ h => .inl h)

theorem takB_f1 {xs : List Info} {g : Txt} (h : infosOk xs = false) : takB xs g = false ∧ takI xs g = 0 ∧ takL xs g = [] := by
  have : takB xs g = false := by simp [takB, h]
  exact ⟨this, by simp [takI, this], by simp [takL, this]⟩
theorem takB_f2 {xs : List Info} {g : Txt} (h : rightOk g = false) : takB xs g = false ∧ takI xs g = 0 ∧ takL xs g = [] := by
  have : takB xs g = false := by simp [takB, h]
  exact ⟨this, by simp [takI, this], by simp [takL, this]⟩
theorem takB_f3 {xs : List Info} {g : Txt} (h : xs.any isFree0 = false) : takB xs g = false ∧ takI xs g = 0 ∧ takL xs g = [] := by
  have : takB xs g = false := by simp [takB, h]
  exact ⟨this, by simp [takI, this], by simp [takL, this]⟩
theorem takB_t {xs : List Info} {g : Txt} (h1 : infosOk xs = true) (h2 : rightOk g = true) (h3 : xs.any isFree0 = true) : ∃ k : Nat, k < 12 ∧ freeI xs = (k : Int) ∧ takB xs g = true ∧ takI xs g = (k : Int) ∧ takL xs g = xs.set k ⟨1, g, 0⟩ ∧ xs[k]? = some Info.zero ∧ (xs.take k).any isFree0 = false := by
  obtain ⟨k, x, hk, hx, hp, hn⟩ := idx_found h3
  have hb : takB xs g = true := by simp [takB, h1, h2, h3]
  have hf : freeI xs = (k : Int) := hk
  have hl : k < xs.length := (List.getElem?_eq_some_iff.1 hx).1
  have hz : x = Info.zero := infoOk_free (infosOk_all h1 (List.mem_of_getElem? hx)) (by simpa [isFree0] using hp)
  refine ⟨k, by have := infosOk_len h1; omega, hf, hb, by simp [takI, hb, hf], by simp [takL, hb, hf], by rw [hx, hz], hn⟩

set_option maxHeartbeats 2000000 in
theorem implInfosTake_c (xs : List Info) (v : Value) (s : Txt) (w : World) (hx : RdF w v xs) (hf : fitF xs) (hs : s.length ≤ 9223372036854775807) : Calls Tryd.prog 23 #[v, tv s] w fun e w' =>
    ∃ u, e = .returned (.tuple #[u, .int .i64 (takI xs s), .bool (takB xs s)]) ∧ OwFr w.heap.size w' u (takL xs s) ∧ Below w.heap.size w w' := by
  have HX := Lib.hid hx
  have HF := Lib.hid hf
  clear hx hf
  cases h1 : infosOk xs
  · have HA := Lib.hid (takB_f1 (g := s) h1)
    have H1 := Lib.hid h1
    clear h1
    go_enter Tryd.func23, Tryd.ntmps23
    go_wp2_with fail
    refine (implInfosValid_c xs v _ HX.out HF.out).mono ?_
    rintro e w1 ⟨rfl, hb1⟩
    rw [H1.out]
    go_wp2
    go_ret3
    rw [HA.out.1, HA.out.2.1, HA.out.2.2]
    exact ⟨_, rfl, World.ownsRow_nil _ _ _ _, hb1⟩
  cases h2 : rightOk s
  · have HA := Lib.hid (takB_f2 (xs := xs) h2)
    have H1 := Lib.hid h1
    have H2 := Lib.hid h2
    clear h1 h2
    go_enter Tryd.func23, Tryd.ntmps23
    go_wp2_with fail
    refine (implInfosValid_c xs v _ HX.out HF.out).mono ?_
    rintro e w1 ⟨rfl, hb1⟩
    rw [H1.out]
    go_wp2_with fail
    refine (implRightValid_c s _ hs).mono ?_
    rintro e w2 ⟨rfl, hb2⟩
    rw [H2.out]
    have HB := Lib.hid (bnext hb1 hb2)
    clear hb1 hb2
    go_wp2
    go_ret3
    rw [HA.out.1, HA.out.2.1, HA.out.2.2]
    exact ⟨_, rfl, World.ownsRow_nil _ _ _ _, HB.out⟩
  cases h3 : xs.any isFree0
  · have HA := Lib.hid (takB_f3 (g := s) h3)
    have HI := Lib.hid (show freeI xs = -1 by simp [freeI, idxOf, h3])
    have H1 := Lib.hid h1
    have H2 := Lib.hid h2
    clear h1 h2 h3
    go_enter Tryd.func23, Tryd.ntmps23
    go_wp2_with fail
    refine (implInfosValid_c xs v _ HX.out HF.out).mono ?_
    rintro e w1 ⟨rfl, hb1⟩
    rw [H1.out]
    go_wp2_with fail
    refine (implRightValid_c s _ hs).mono ?_
    rintro e w2 ⟨rfl, hb2⟩
    rw [H2.out]
    have HB := Lib.hid (bnext hb1 hb2)
    clear hb1 hb2
    go_wp2_with fail
    refine (firstFree_c xs v _ (HX.out.below HB.out)).mono ?_
    rintro e w3 ⟨rfl, hb3⟩
    rw [HI.out]
    have HB3 := Lib.hid (bnext HB.out hb3)
    clear hb3
    go_wp2
    go_ret3
    rw [HA.out.1, HA.out.2.1, HA.out.2.2]
    exact ⟨_, rfl, World.ownsRow_nil _ _ _ _, HB3.out⟩
  obtain ⟨k, hk, hfi, hA1, hA2, hA3, hz, -⟩ := takB_t h1 h2 h3
  have HA := Lib.hid (And.intro hA1 (And.intro hA2 hA3))
  have HI := Lib.hid hfi
  have HL := Lib.hid (infosOk_len h1)
  have HZ := Lib.hid hz
  have H1 := Lib.hid h1
  have H2 := Lib.hid h2
  clear h1 h2 h3 hfi hA1 hA2 hA3 hz
  go_enter Tryd.func23, Tryd.ntmps23
  go_wp2_with fail
  refine (implInfosValid_c xs v _ HX.out HF.out).mono ?_
  rintro e w1 ⟨rfl, hb1⟩
  rw [H1.out]
  go_wp2_with fail
  refine (implRightValid_c s _ hs).mono ?_
  rintro e w2 ⟨rfl, hb2⟩
  rw [H2.out]
  have HB := Lib.hid (bnext hb1 hb2)
  clear hb1 hb2
  go_wp2_with fail
  refine (firstFree_c xs v _ (HX.out.below HB.out)).mono ?_
  rintro e w3 ⟨rfl, hb3⟩
  rw [HI.out]
  have HB3 := Lib.hid (bnext HB.out hb3)
  clear hb3
  go_wp2_with fail
  refine (cloneInfo_c xs v _ (HX.out.below HB3.out) (by have := HL.out; omega)).mono ?_
  rintro e w4 ⟨u, rfl, ho, hb4⟩
  have H4 := Lib.hid (((Bun.refl w none).call HB3.out).addT ho hb4)
  clear ho hb4
  obtain ⟨g, c, rfl, g1, g2, g3, g4, g5, g6⟩ := H4.out.at 0 rfl Info.enc_len HZ.out
  have d0 := g6 0 _ rfl
  have d1 := g6 1 _ rfl
  have d2 := g6 2 _ rfl
  have f0 := g5 (k * 3)
  have f1 := g5 (k * 3 + 1)
  have f2 := g5 (k * 3 + 2)
  simp only [Nat.add_zero] at d0
  have H5 := Lib.hid (H4.out.store3 Info.enc_len (x := ⟨1, s, 0⟩) (a1 := .int .i64 1) (a2 := tv s) (a3 := .int .i64 0) g1 rfl)
  unfold maxLen at g3
  rw [HL.out] at H4 H5 g1 g2 ⊢
  clear g5 g6 H4
  go_wp2
  go_ret3
  rw [HA.out.1, HA.out.2.1, HA.out.2.2]
  exact ⟨_, rfl, H5.out.ow 0 rfl, H5.out.below⟩

set_option maxHeartbeats 2000000 in
theorem specInfosTake_c (xs : List Info) (v : Value) (s : Txt) (w : World) (hx : RdF w v xs) (hf : fitF xs) (hs : s.length ≤ 9223372036854775807) : Calls Tryd.prog 24 #[v, tv s] w fun e w' =>
    ∃ u, e = .returned (.tuple #[u, .int .i64 (takI xs s), .bool (takB xs s)]) ∧ OwFr w.heap.size w' u (takL xs s) ∧ Below w.heap.size w w' := by
  have HX := Lib.hid hx
  have HF := Lib.hid hf
  clear hx hf
  cases h1 : infosOk xs
  · have HA := Lib.hid (takB_f1 (g := s) h1)
    have H1 := Lib.hid h1
    clear h1
    go_enter Tryd.func24, Tryd.ntmps24
    go_wp2_with fail
    refine (l12Free_c xs v _ HX.out).mono ?_
    rintro e w1 ⟨rfl, rfl⟩
    go_wp2_with fail
    refine (specInfosValid_c xs v _ HX.out HF.out).mono ?_
    rintro e w1 ⟨rfl, hb1⟩
    rw [H1.out]
    have HB := Lib.hid (((Bun.refl w none).call hb1).lit eltInfo #[] [] rfl (by simp))
    go_wp2
    go_ret3
    rw [HA.out.1, HA.out.2.1, HA.out.2.2]
    exact ⟨_, rfl, HB.out.ow 0 rfl, HB.out.below⟩
  cases h2 : rightOk s
  · have HA := Lib.hid (takB_f2 (xs := xs) h2)
    have H1 := Lib.hid h1
    have H2 := Lib.hid h2
    clear h1 h2
    go_enter Tryd.func24, Tryd.ntmps24
    go_wp2_with fail
    refine (l12Free_c xs v _ HX.out).mono ?_
    rintro e w1 ⟨rfl, rfl⟩
    go_wp2_with fail
    refine (specInfosValid_c xs v _ HX.out HF.out).mono ?_
    rintro e w1 ⟨rfl, hb1⟩
    rw [H1.out]
    go_wp2_with fail
    refine (specRightValid_c s _ hs).mono ?_
    rintro e w2 ⟨rfl, rfl⟩
    rw [H2.out]
    have HB := Lib.hid (((Bun.refl w none).call hb1).lit eltInfo #[] [] rfl (by simp))
    go_wp2
    go_ret3
    rw [HA.out.1, HA.out.2.1, HA.out.2.2]
    exact ⟨_, rfl, HB.out.ow 0 rfl, HB.out.below⟩
  cases h3 : xs.any isFree0
  · have HA := Lib.hid (takB_f3 (g := s) h3)
    have HI := Lib.hid (show freeI xs = -1 by simp [freeI, idxOf, h3])
    have H1 := Lib.hid h1
    have H2 := Lib.hid h2
    clear h1 h2 h3
    go_enter Tryd.func24, Tryd.ntmps24
    go_wp2_with fail
    refine (l12Free_c xs v _ HX.out).mono ?_
    rintro e w1 ⟨rfl, rfl⟩
    rw [HI.out]
    go_wp2_with fail
    refine (specInfosValid_c xs v _ HX.out HF.out).mono ?_
    rintro e w1 ⟨rfl, hb1⟩
    rw [H1.out]
    go_wp2_with fail
    refine (specRightValid_c s _ hs).mono ?_
    rintro e w2 ⟨rfl, rfl⟩
    rw [H2.out]
    have HB := Lib.hid (((Bun.refl w none).call hb1).lit eltInfo #[] [] rfl (by simp))
    go_wp2
    go_ret3
    rw [HA.out.1, HA.out.2.1, HA.out.2.2]
    exact ⟨_, rfl, HB.out.ow 0 rfl, HB.out.below⟩
  obtain ⟨k, hk, hfi, hA1, hA2, hA3, hz, -⟩ := takB_t h1 h2 h3
  have HA := Lib.hid (And.intro hA1 (And.intro hA2 hA3))
  have HI := Lib.hid hfi
  have HL := Lib.hid (infosOk_len h1)
  have HZ := Lib.hid hz
  have H1 := Lib.hid h1
  have H2 := Lib.hid h2
  clear h1 h2 h3 hfi hA1 hA2 hA3 hz
  go_enter Tryd.func24, Tryd.ntmps24
  go_wp2_with fail
  refine (l12Free_c xs v _ HX.out).mono ?_
  rintro e w1 ⟨rfl, rfl⟩
  rw [HI.out]
  go_wp2_with fail
  refine (specInfosValid_c xs v _ HX.out HF.out).mono ?_
  rintro e w1 ⟨rfl, hb1⟩
  rw [H1.out]
  go_wp2_with fail
  refine (specRightValid_c s _ hs).mono ?_
  rintro e w2 ⟨rfl, rfl⟩
  rw [H2.out]
  have HB := Lib.hid ((Bun.refl w none).call hb1)
  have HX1 := Lib.hid (HX.out.below hb1)
  clear hb1
  go_wp2_with (at_builtin; refine append_b eltInfo rfl _ _ rfl _ _ xs rfl rfl (HB.out.lit eltInfo #[] [] rfl (by simp)) (HX1.out.below (balloc _ _)) (by have := HL.out; simp; omega) ?_; intro v4 w4 h4 hnil4; simp only [List.nil_append] at h4; have H4 := Lib.hid h4; clear h4 hnil4; obtain ⟨g, c, rfl, g1, g2, g3, g4, g5, g6⟩ := H4.out.at 0 rfl Info.enc_len HZ.out; have d0 := g6 0 _ rfl; have d1 := g6 1 _ rfl; have d2 := g6 2 _ rfl; have f0 := g5 (k * 3); have f1 := g5 (k * 3 + 1); have f2 := g5 (k * 3 + 2); simp only [Nat.add_zero] at d0; have H5 := Lib.hid (H4.out.store3 Info.enc_len (x := ⟨1, s, 0⟩) (a1 := .int .i64 1) (a2 := tv s) (a3 := .int .i64 0) g1 rfl); unfold maxLen at g3; rw [HL.out] at H5 g1 g2 ⊢; clear g5 g6 H4 HB HX1)
  go_ret3
  rw [HA.out.1, HA.out.2.1, HA.out.2.2]
  exact ⟨_, rfl, H5.out.ow 0 rfl, H5.out.below⟩

theorem isFrame_c (n : Int) (w : World) : Calls Tryd.prog 48 #[.int .i64 n] w fun e w' => e = .returned (.bool (btw 0 n 11)) ∧ w = w' := by
  go_enter Tryd.func48, Tryd.ntmps48
  go_wp2_with (go_at_call 55; refine (within_c _ _ _ _).mono ?_; rintro e w' ⟨rfl, rfl⟩)
  go_ret
  exact ⟨rfl, rfl⟩
theorem l1Frame_c (n : Int) (w : World) : Calls Tryd.prog 50 #[.int .i64 n] w fun e w' => e = .returned (.bool (btw 0 n 11)) ∧ w = w' := by
  go_enter Tryd.func50, Tryd.ntmps50
  go_wp2_with (go_at_call 56; refine (l6In_c _ _ _ _).mono ?_; rintro e w' ⟨rfl, rfl⟩)
  go_ret
  exact ⟨rfl, rfl⟩

theorem givB_f1 {xs : List Info} {f : Int} (h : infosOk xs = false) : givB xs f = false ∧ givL xs f = [] := by
  have : givB xs f = false := by simp [givB, h]
  exact ⟨this, by simp [givL, this]⟩
theorem givB_f2 {xs : List Info} {f : Int} (h : btw 0 f 11 = false) : givB xs f = false ∧ givL xs f = [] := by
  have : givB xs f = false := by simp [givB, h]
  exact ⟨this, by simp [givL, this]⟩
theorem giv_at {xs : List Info} {f : Int} (h1 : infosOk xs = true) (h2 : btw 0 f 11 = true) : ∃ (k : Nat) (m : Info), f = (k : Int) ∧ k < 12 ∧ xs[k]? = some m ∧ infAt xs f = m ∧ 0 ≤ m.rf ∧ givB xs f = (decide (m.kd = 1) && decide (m.rf = 0)) := by
  simp only [btw, decide_eq_true_eq] at h2
  obtain ⟨k, rfl⟩ := Int.eq_ofNat_of_zero_le h2.1
  have hl := infosOk_len h1
  have hx : xs[k]? = some xs[k] := List.getElem?_eq_getElem (by omega)
  have ha : infAt xs (k : Int) = xs[k] := by simp [infAt, hx]
  refine ⟨k, xs[k], rfl, by omega, hx, ha, (infoOk_refs (infosOk_all h1 (List.mem_of_getElem? hx))).1, ?_⟩
  have hb : btw 0 (k : Int) 11 = true := by simp only [btw, decide_eq_true_eq]; exact h2
  simp [givB, h1, hb, ha]
theorem givL_f {xs : List Info} {f : Int} (h : givB xs f = false) : givL xs f = [] := by simp [givL, h]
theorem givL_t {xs : List Info} {k : Nat} (h : givB xs (k : Int) = true) : givL xs (k : Int) = xs.set k Info.zero := by simp [givL, h]

set_option maxHeartbeats 2000000 in
theorem implInfosGive_c (xs : List Info) (v : Value) (f : Int) (w : World) (hx : RdF w v xs) (hf : fitF xs) : Calls Tryd.prog 26 #[v, .int .i64 f] w fun e w' =>
    ∃ u, e = .returned (.tuple #[u, .bool (givB xs f)]) ∧ OwFr w.heap.size w' u (givL xs f) ∧ Below w.heap.size w w' := by
  have HX := Lib.hid hx
  have HF := Lib.hid hf
  clear hx hf
  cases h1 : infosOk xs
  · have HA := Lib.hid (givB_f1 (f := f) h1)
    have H1 := Lib.hid h1
    clear h1
    go_enter Tryd.func26, Tryd.ntmps26
    go_wp2_with fail
    refine (implInfosValid_c xs v _ HX.out HF.out).mono ?_
    rintro e w1 ⟨rfl, hb1⟩
    rw [H1.out]
    go_wp2
    go_ret2
    rw [HA.out.1, HA.out.2]
    exact ⟨_, rfl, World.ownsRow_nil _ _ _ _, hb1⟩
  cases h2 : btw 0 f 11
  · have HA := Lib.hid (givB_f2 (xs := xs) h2)
    have H1 := Lib.hid h1
    have H2 := Lib.hid h2
    clear h1 h2
    go_enter Tryd.func26, Tryd.ntmps26
    go_wp2_with fail
    refine (implInfosValid_c xs v _ HX.out HF.out).mono ?_
    rintro e w1 ⟨rfl, hb1⟩
    rw [H1.out]
    go_wp2_with fail
    refine (isFrame_c _ _).mono ?_
    rintro e w2 ⟨rfl, rfl⟩
    rw [H2.out]
    go_wp2
    go_ret2
    rw [HA.out.1, HA.out.2]
    exact ⟨_, rfl, World.ownsRow_nil _ _ _ _, hb1⟩
  obtain ⟨k, m, rfl, hk, hm, -, hr0, hgb⟩ := giv_at h1 h2
  have HG := Lib.hid hgb
  have HL := Lib.hid (infosOk_len h1)
  have HM := Lib.hid hm
  have H1 := Lib.hid h1
  have H2 := Lib.hid h2
  obtain ⟨a, c, hv, t1, t2, -, t3⟩ := HX.out
  subst hv
  obtain ⟨b, o, rfl, hbl, hc⟩ := t3 k m hm
  have c0 := hc 0 _ rfl
  have c2 := hc 2 _ rfl
  simp only [Nat.add_zero] at c0
  unfold maxLen at t2
  rw [HL.out] at t1 HX ⊢
  have C0 := Lib.hid c0
  have C2 := Lib.hid c2
  clear h1 h2 hgb hm t3 hc c0 c2
  by_cases h3 : m.kd = 1
  rotate_left
  · have HA := Lib.hid (show givB xs (k : Int) = false by rw [HG.out]; simp [h3])
    have HAL := Lib.hid (givL_f HA.out)
    have h3b : (m.kd != 1) = true := bne_iff_ne.2 h3
    clear h3
    go_enter Tryd.func26, Tryd.ntmps26
    go_wp2_with fail
    refine (implInfosValid_c xs _ _ HX.out HF.out).mono ?_
    rintro e w1 ⟨rfl, hb1⟩
    rw [H1.out]
    have d0 := (hb1.cell (p := ⟨b, o + k * 3, none⟩) hbl).trans C0.out
    go_wp2_with fail
    refine (isFrame_c _ _).mono ?_
    rintro e w2 ⟨rfl, rfl⟩
    rw [H2.out]
    go_wp2
    go_ret2
    rw [HA.out, HAL.out]
    exact ⟨_, rfl, World.ownsRow_nil _ _ _ _, hb1⟩
  have h3b : (m.kd != 1) = false := by simp [h3]
  by_cases h4 : m.rf = 0
  rotate_left
  · have HA := Lib.hid (show givB xs (k : Int) = false by rw [HG.out]; simp [h4])
    have HAL := Lib.hid (givL_f HA.out)
    have h4b : (m.rf != 0) = true := bne_iff_ne.2 h4
    clear h3 h4
    go_enter Tryd.func26, Tryd.ntmps26
    go_wp2_with fail
    refine (implInfosValid_c xs _ _ HX.out HF.out).mono ?_
    rintro e w1 ⟨rfl, hb1⟩
    rw [H1.out]
    have d0 := (hb1.cell (p := ⟨b, o + k * 3, none⟩) hbl).trans C0.out
    have d2 := (hb1.cell (p := ⟨b, o + k * 3 + 2, none⟩) hbl).trans C2.out
    go_wp2_with fail
    refine (isFrame_c _ _).mono ?_
    rintro e w2 ⟨rfl, rfl⟩
    rw [H2.out]
    go_wp2
    go_ret2
    rw [HA.out, HAL.out]
    exact ⟨_, rfl, World.ownsRow_nil _ _ _ _, hb1⟩
  have h4b : (m.rf != 0) = false := by simp [h4]
  have HA := Lib.hid (show givB xs (k : Int) = true by rw [HG.out]; simp [h3, h4])
  have HAL := Lib.hid (givL_t HA.out)
  clear h3 h4
  go_enter Tryd.func26, Tryd.ntmps26
  go_wp2_with fail
  refine (implInfosValid_c xs _ _ HX.out HF.out).mono ?_
  rintro e w1 ⟨rfl, hb1⟩
  rw [H1.out]
  have d0 := (hb1.cell (p := ⟨b, o + k * 3, none⟩) hbl).trans C0.out
  have d2 := (hb1.cell (p := ⟨b, o + k * 3 + 2, none⟩) hbl).trans C2.out
  go_wp2_with fail
  refine (isFrame_c _ _).mono ?_
  rintro e w2 ⟨rfl, rfl⟩
  rw [H2.out]
  go_wp2_with fail
  refine (cloneInfo_c xs _ _ (HX.out.below hb1) (by have := HL.out; omega)).mono ?_
  rintro e w4 ⟨u, rfl, ho, hb4⟩
  have H4 := Lib.hid (((Bun.refl w none).call hb1).addT ho hb4)
  clear ho hb4 d0 d2
  obtain ⟨g, c', rfl, g1, g2, g3, g4, g5, g6⟩ := H4.out.at 0 rfl Info.enc_len HM.out
  have e0 := g6 0 _ rfl
  have e1 := g6 1 _ rfl
  have e2 := g6 2 _ rfl
  have f0 := g5 (k * 3)
  have f1 := g5 (k * 3 + 1)
  have f2 := g5 (k * 3 + 2)
  simp only [Nat.add_zero] at e0
  have H5 := Lib.hid (H4.out.store3 Info.enc_len (x := Info.zero) (a1 := .int .i64 0) (a2 := .string ⟨#[]⟩) (a3 := .int .i64 0) g1 rfl)
  unfold maxLen at g3
  rw [HL.out] at H5 g1 g2 ⊢
  clear g5 g6 H4
  go_wp2
  go_ret2
  rw [HA.out, HAL.out]
  exact ⟨_, rfl, H5.out.ow 0 rfl, H5.out.below⟩

set_option maxHeartbeats 2000000 in
theorem specInfosGive_c (xs : List Info) (v : Value) (f : Int) (w : World) (hx : RdF w v xs) (hf : fitF xs) : Calls Tryd.prog 28 #[v, .int .i64 f] w fun e w' =>
    ∃ u, e = .returned (.tuple #[u, .bool (givB xs f)]) ∧ OwFr w.heap.size w' u (givL xs f) ∧ Below w.heap.size w w' := by
  have HX := Lib.hid hx
  have HF := Lib.hid hf
  clear hx hf
  cases h1 : infosOk xs
  · have HA := Lib.hid (givB_f1 (f := f) h1)
    have H1 := Lib.hid h1
    clear h1
    go_enter Tryd.func28, Tryd.ntmps28
    go_wp2_with fail
    refine (specInfosValid_c xs v _ HX.out HF.out).mono ?_
    rintro e w1 ⟨rfl, hb1⟩
    rw [H1.out]
    have HB := Lib.hid (((Bun.refl w none).call hb1).lit eltInfo #[] [] rfl (by simp))
    go_wp2
    go_ret2
    rw [HA.out.1, HA.out.2]
    exact ⟨_, rfl, HB.out.ow 0 rfl, HB.out.below⟩
  cases h2 : btw 0 f 11
  · have HA := Lib.hid (givB_f2 (xs := xs) h2)
    have H1 := Lib.hid h1
    have H2 := Lib.hid h2
    clear h1 h2
    go_enter Tryd.func28, Tryd.ntmps28
    go_wp2_with fail
    refine (specInfosValid_c xs v _ HX.out HF.out).mono ?_
    rintro e w1 ⟨rfl, hb1⟩
    rw [H1.out]
    go_wp2_with fail
    refine (l1Frame_c _ _).mono ?_
    rintro e w2 ⟨rfl, rfl⟩
    rw [H2.out]
    have HB := Lib.hid (((Bun.refl w none).call hb1).lit eltInfo #[] [] rfl (by simp))
    go_wp2
    go_ret2
    rw [HA.out.1, HA.out.2]
    exact ⟨_, rfl, HB.out.ow 0 rfl, HB.out.below⟩
  obtain ⟨k, m, rfl, hk, hm, -, hr0, hgb⟩ := giv_at h1 h2
  have HG := Lib.hid hgb
  have HL := Lib.hid (infosOk_len h1)
  have HM := Lib.hid hm
  have H1 := Lib.hid h1
  have H2 := Lib.hid h2
  obtain ⟨a, c, hv, t1, t2, -, t3⟩ := HX.out
  subst hv
  obtain ⟨b, o, rfl, hbl, hc⟩ := t3 k m hm
  have c0 := hc 0 _ rfl
  have c2 := hc 2 _ rfl
  simp only [Nat.add_zero] at c0
  unfold maxLen at t2
  rw [HL.out] at t1 HX ⊢
  have C0 := Lib.hid c0
  have C2 := Lib.hid c2
  clear h1 h2 hgb hm t3 hc c0 c2
  by_cases h3 : m.kd = 1
  rotate_left
  · have HA := Lib.hid (show givB xs (k : Int) = false by rw [HG.out]; simp [h3])
    have HAL := Lib.hid (givL_f HA.out)
    have h3b : (m.kd != 1) = true := bne_iff_ne.2 h3
    clear h3
    go_enter Tryd.func28, Tryd.ntmps28
    go_wp2_with fail
    refine (specInfosValid_c xs _ _ HX.out HF.out).mono ?_
    rintro e w1 ⟨rfl, hb1⟩
    rw [H1.out]
    have d0 := (hb1.cell (p := ⟨b, o + k * 3, none⟩) hbl).trans C0.out
    go_wp2_with fail
    refine (l1Frame_c _ _).mono ?_
    rintro e w2 ⟨rfl, rfl⟩
    rw [H2.out]
    have HB := Lib.hid (((Bun.refl w none).call hb1).lit eltInfo #[] [] rfl (by simp))
    go_wp2
    go_ret2
    rw [HA.out, HAL.out]
    exact ⟨_, rfl, HB.out.ow 0 rfl, HB.out.below⟩
  have h3b : (m.kd != 1) = false := by simp [h3]
  by_cases h4 : m.rf = 0
  rotate_left
  · have HA := Lib.hid (show givB xs (k : Int) = false by rw [HG.out]; simp [h4])
    have HAL := Lib.hid (givL_f HA.out)
    have h4b : (0 : Int) < m.rf := by omega
    clear h3 h4
    go_enter Tryd.func28, Tryd.ntmps28
    go_wp2_with fail
    refine (specInfosValid_c xs _ _ HX.out HF.out).mono ?_
    rintro e w1 ⟨rfl, hb1⟩
    rw [H1.out]
    have d0 := (hb1.cell (p := ⟨b, o + k * 3, none⟩) hbl).trans C0.out
    have d2 := (hb1.cell (p := ⟨b, o + k * 3 + 2, none⟩) hbl).trans C2.out
    go_wp2_with fail
    refine (l1Frame_c _ _).mono ?_
    rintro e w2 ⟨rfl, rfl⟩
    rw [H2.out]
    have HB := Lib.hid (((Bun.refl w none).call hb1).lit eltInfo #[] [] rfl (by simp))
    go_wp2
    go_ret2
    rw [HA.out, HAL.out]
    exact ⟨_, rfl, HB.out.ow 0 rfl, HB.out.below⟩
  have h4b : ¬ (0 : Int) < m.rf := by omega
  have HA := Lib.hid (show givB xs (k : Int) = true by rw [HG.out]; simp [h3, h4])
  have HAL := Lib.hid (givL_t HA.out)
  clear h3 h4
  go_enter Tryd.func28, Tryd.ntmps28
  go_wp2_with fail
  refine (specInfosValid_c xs _ _ HX.out HF.out).mono ?_
  rintro e w1 ⟨rfl, hb1⟩
  rw [H1.out]
  have d0 := (hb1.cell (p := ⟨b, o + k * 3, none⟩) hbl).trans C0.out
  have d2 := (hb1.cell (p := ⟨b, o + k * 3 + 2, none⟩) hbl).trans C2.out
  go_wp2_with fail
  refine (l1Frame_c _ _).mono ?_
  rintro e w2 ⟨rfl, rfl⟩
  rw [H2.out]
  have HB := Lib.hid ((Bun.refl w none).call hb1)
  have HX1 := Lib.hid (HX.out.below hb1)
  clear hb1
  go_wp2_with (at_builtin; refine append_b eltInfo rfl _ _ rfl _ _ xs rfl rfl (HB.out.lit eltInfo #[] [] rfl (by simp)) (HX1.out.below (balloc _ _)) (by have := HL.out; simp; omega) ?_; intro v4 w4 h4 hnil4; simp only [List.nil_append] at h4; have H4 := Lib.hid h4; clear h4 hnil4 d0 d2; obtain ⟨g, c', rfl, g1, g2, g3, g4, g5, g6⟩ := H4.out.at 0 rfl Info.enc_len HM.out; have e0 := g6 0 _ rfl; have e1 := g6 1 _ rfl; have e2 := g6 2 _ rfl; have f0 := g5 (k * 3); have f1 := g5 (k * 3 + 1); have f2 := g5 (k * 3 + 2); simp only [Nat.add_zero] at e0; have H5 := Lib.hid (H4.out.store3 Info.enc_len (x := Info.zero) (a1 := .int .i64 0) (a2 := .string ⟨#[]⟩) (a3 := .int .i64 0) g1 rfl); unfold maxLen at g3; rw [HL.out] at H5 g1 g2 ⊢; clear g5 g6 H4 HB HX1)
  go_ret2
  rw [HA.out, HAL.out]
  exact ⟨_, rfl, H5.out.ow 0 rfl, H5.out.below⟩
end Go.Proofs.YtdeempkiffdlnaaDoor
