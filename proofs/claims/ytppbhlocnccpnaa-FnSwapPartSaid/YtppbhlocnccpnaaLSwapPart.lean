/- FnSwapPart returns true for all codes. No conditions. -/
import Derived.Test.YtppbhlocnccpnaaSwapL
import Derived.Test.YtppbhlocnccpnaaSwapN
namespace Go.Proofs.Ytppbhlocnccpnaa
open Go.ChangeShapes Go.WideShapes Go.ChangeAt Go.RowKit
set_option linter.all false
attribute [local go_sem ↓] Go.wp_at_zero Go.wp_at_succ

theorem InR.set {w : World} {ss : List Sl} {xss : List (List Int)} {s : Sl} {xs : List Int} (h : InR encI 1 w ss xss) (hs : RdI w (slv s) xs) (k : Nat) : InR encI 1 w (ss.set k s) (xss.set k xs) := by
  refine ⟨by simp [h.1], fun i t ys a b => ?_⟩
  rw [List.getElem?_set] at a b
  by_cases hk : k = i
  · subst hk
    rw [if_pos rfl] at a b
    split at a
    · split at b
      · simp only [Option.some.injEq] at a b
        subst a; subst b; exact hs
      · cases b
    · cases a
  · rw [if_neg hk] at a b
    exact h.2 i t ys a b
theorem swap_free {xss : List (List Int)} {k : Nat} (h : swapOk xss = true) : swapOk (xss.set k []) = true := by
  simp only [swapOk, Bool.and_eq_true, decide_eq_true_eq, Bool.not_eq_true', List.any_eq_false, List.length_set] at h ⊢
  refine ⟨h.1, fun xs hx => ?_⟩
  rcases List.mem_or_eq_of_mem_set hx with hx | rfl
  · exact h.2 xs hx
  · simp [badRow]
theorem swap_bad {xss : List (List Int)} {k : Nat} (hk : k < xss.length) : swapOk (xss.set k [1]) = false := by
  have hmem : [(1 : Int)] ∈ xss.set k [1] := List.mem_of_getElem? (i := k) (by simp [hk])
  cases h : swapOk (xss.set k [1])
  · rfl
  · simp only [swapOk, Bool.and_eq_true, decide_eq_true_eq, Bool.not_eq_true', List.any_eq_false] at h
    exact absurd (by decide) (h.2 _ hmem)

set_option maxHeartbeats 8000000 in
theorem fnSwapPart_w (bs : List Int) (v : Value) (bs2 : List Int) (v2 : Value) (w : World) (hx : RdB w v bs) (hbs : ∀ b ∈ bs, 0 ≤ b ∧ b ≤ 255) (hx2 : RdB w v2 bs2) (hbs2 : ∀ b ∈ bs2, 0 ≤ b ∧ b ≤ 255) :
    Calls Try.prog 4 #[v, v2] w fun e w' => e = .returned (.bool true) ∧ Below w.heap.size w w' := by
  have hx' := Lib.hid hx
  have HBS := Lib.hid hbs
  clear hbs hbs2
  obtain ⟨a, c, rfl, h1, h2, -, -⟩ := hx
  obtain ⟨a2, c2, rfl, h12, h22, -, -⟩ := hx2
  unfold maxLen at h2 h22
  by_cases hl : bs.length ≤ 1048576
  rotate_left
  · go_enter Try.func4, Try.ntmps4
    go_wp2
    go_ret
    exact ⟨rfl, bref _⟩
  by_cases hl2 : bs2.length ≤ 1048576
  rotate_left
  · go_enter Try.func4, Try.ntmps4
    go_wp2
    go_ret
    exact ⟨rfl, bref _⟩
  go_enter Try.func4, Try.ntmps4
  go_wp2_with fail
  refine (drawSwapValid_b bs _ _ hx'.out HBS.out).mono ?_
  rintro e W1 ⟨u, ss, xss, rfl, hd, h1'⟩
  have H1 := Lib.hid h1'
  clear h1'
  go_wp2_with fail
  refine (implSwapValid_c xss u _ (H1.out.rdN 0 1 rfl rfl encI_len)).mono ?_
  rintro e W2 ⟨rfl, hb2⟩
  have H2 := Lib.hid (H1.out.call hb2)
  clear H1 hb2
  go_wp2_with fail
  refine (specSwapValid_c xss u _ (H2.out.rdN 0 1 rfl rfl encI_len)).mono ?_
  rintro e W3 ⟨rfl, hb3⟩
  have H3 := Lib.hid (H2.out.call hb3)
  clear H2 hb3
  cases hv : swapOk xss
  · go_wp2
    go_ret
    exact ⟨rfl, H3.out.below⟩
  have HV := Lib.hid hv
  have hl16 := swapOk_len hv
  clear hv
  have hin := Lib.hid (InO.rd encI_len (show InO encI 1 3 0 W3.heap.size W3 ss xss from H3.out.get 1 rfl))
  have hsl : ss.length = 16 := hin.out.1.trans hl16
  obtain ⟨s0, hs0⟩ : ∃ s0, ss[bs2.length % 16]? = some s0 := ⟨_, List.getElem?_eq_getElem (by rw [hsl]; exact Nat.mod_lt _ (by decide))⟩
  have hu := H3.out.rd 0 rfl encL_len
  have HU := Lib.hid hu
  obtain ⟨gu, cu, rfl, -, q1, q2, -, -, -⟩ := H3.out.at 0 rfl encL_len hs0
  have hkk : ((bs2.length : Int)).tmod ((ss.length : Nat) : Int) = ((bs2.length % 16 : Nat) : Int) := by
    rw [hsl, Int.tmod_eq_emod_of_nonneg (by omega)]; push_cast; rfl
  have hk16 : bs2.length % 16 < 16 := Nat.mod_lt _ (by decide)
  have HS0 := Lib.hid hs0
  have HSL := Lib.hid hsl
  have HL16 := Lib.hid hl16
  rw [hsl] at hkk q1 HU ⊢
  unfold maxLen at q2
  have HK := Lib.hid hk16
  clear hs0 hl16 hin hd hsl hkk hk16
  clear hu
  go_wp2_with (first | (at_builtin; refine append_b eltSl rfl _ _ rfl _ _ ss rfl rfl (H3.out.lit eltSl #[] [] rfl (by simp)) (HU.out.below (balloc _ _)) (by have := HSL.out; simp; omega) ?_; intro x4 W4 H4 hnil4; obtain ⟨g4, c4, rfl, t1g4, t2g4, t3g4, t4g4, t5, t6⟩ := H4.at 0 rfl encL_len HS0.out; have dg4 := t6 0 _ rfl; have fg4 := t5 (bs2.length % 16); simp only [Nat.mul_one, Nat.add_zero, List.nil_append] at dg4 t1g4 t2g4 H4 ⊢; rw [HSL.out] at H4 t1g4 t2g4 ⊢; have h5 := (((H4.lits eltInt #[] [] 0 rfl rfl (by omega)).front 1 rfl).store (j := 0) (x' := (some ⟨W4.heap.size, 0, none⟩, 0, 0)) (u := slv (some ⟨W4.heap.size, 0, none⟩, 0, 0)) encL_len HS0.out (by omega) rfl); simp only [Nat.mul_one, Nat.add_zero] at h5; rw [World.setCell_alloc_past _ _ _ _ t4g4] at h5; have H5 := Lib.hid h5; unfold maxLen at t3g4; clear t5 t6 H4 h5 hnil4; simp only [slv] at dg4 H5 ⊢) | (at_builtin; have h6 := H5.out.lit eltSl #[] [] rfl (by simp); simp only [World.size_alloc, World.size_setCell, List.length_nil] at h6; refine append_b eltSl rfl _ _ rfl _ _ ss rfl rfl h6 ((H5.out.over _).rd 2 rfl encL_len) (by have := HSL.out; simp; omega) ?_; intro x4 W6 H6 hnil4; obtain ⟨g6, c6, rfl, t1g6, t2g6, t3g6, t4g6, t5, t6⟩ := H6.at 0 rfl encL_len HS0.out; have dg6 := t6 0 _ rfl; have fg6 := t5 (bs2.length % 16); simp only [Nat.mul_one, Nat.add_zero, List.nil_append] at dg6 t1g6 t2g6 H6 ⊢; rw [HSL.out] at H6 t1g6 t2g6 ⊢; have h5 := (((H6.lits eltInt #[.int .i64 1] [1] 1 rfl rfl (by omega)).front 1 rfl).store (j := 0) (x' := (some ⟨W6.heap.size, 0, none⟩, 1, 1)) (u := slv (some ⟨W6.heap.size, 0, none⟩, 1, 1)) encL_len HS0.out (by omega) rfl); simp only [Nat.mul_one, Nat.add_zero] at h5; rw [World.setCell_alloc_past _ _ _ _ t4g6] at h5; have H7 := Lib.hid h5; unfold maxLen at t3g6; clear t5 t6 H6 h5 hnil4; simp only [slv] at dg6 H7 ⊢))
  have hin := Lib.hid (InO.rd encI_len (H7.out.get 5 rfl : InO encI 1 3 0 _ _ ss xss))
  have R1 := H7.out.rd 3 rfl encI_len
  have R2 := H7.out.rd 1 rfl encI_len
  have X1 := Lib.hid (⟨_, H7.out.rd 2 rfl encL_len, InR.set hin.out (s := (some ⟨W4.heap.size, 0, none⟩, 0, 0)) R1 (bs2.length % 16)⟩ : RdII _ _ (xss.set (bs2.length % 16) []))
  have X2 := Lib.hid (⟨_, H7.out.rd 0 rfl encL_len, InR.set hin.out (s := (some ⟨W6.heap.size, 0, none⟩, 1, 1)) R2 (bs2.length % 16)⟩ : RdII _ _ (xss.set (bs2.length % 16) [1]))
  have V1 := Lib.hid (swap_free (k := (bs2.length % 16)) HV.out)
  have V2 := Lib.hid (swap_bad (xss := xss) (k := (bs2.length % 16)) (by rw [HL16.out]; exact HK.out))
  clear R1 R2 hin
  go_wp2_with fail
  refine (implSwapValid_c (xss.set (bs2.length % 16) []) _ _ X1.out).mono ?_
  rintro e W8 ⟨rfl, hb8⟩
  rw [V1.out]
  have X3 := Lib.hid (RdN.below X2.out hb8)
  go_wp2_with fail
  refine (implSwapValid_c (xss.set (bs2.length % 16) [1]) _ _ X3.out).mono ?_
  rintro e W9 ⟨rfl, hb9⟩
  rw [V2.out]
  go_wp2
  go_ret
  exact ⟨rfl, ((H7.out.call hb8).call hb9).below⟩

set_option maxRecDepth 100000 in
theorem fnSwapPart_l (os : Os) (started : os.Started) (H : Type) (enc : TypeId × Value → H) :
    ReturnsInHanded {} Try.checked os 4 .any (Rows.fnSwapPartSpec.pre6 enc Try.prog Try.f4 Rows.fnSwapPartRow.domain false) (Rows.fnSwapPartSpec.post enc Try.prog Try.f4 false true false false) := by
  refine returnsInHanded_of_change (C := Try.checked) own started (by kernel_rfl) Try.func4
    (ChangeSpec.witness6 (enc := enc) (C := Try.checked) false ⟨#[], #[.slice none 0 0, .slice none 0 0], []⟩ 8 (by kernel_rfl) (by kernel_rfl) (by kernel_rfl) (by kernel_rfl)) ?_
  intro W base args ds gs before hval0 hW _ _
  have hval : ∀ (j : Nat) t v, Try.f4.params[j]? = some t → args[j]? = some v → Value.okWide Try.prog W .any base t v := hval0
  have hW' := hW
  obtain ⟨p, q, hA0, hV, rfl, _, _⟩ := hW
  have hA : DataW.TrodAll enc Try.prog W 0 (fun _ => true) true Try.f4.params.toList args.toList ds p := hA0
  rw [Try.params4] at hA hval
  obtain ⟨v0, vs0, d0, ds0, p0, q0, hargs, rfl, rfl, h0, r0⟩ := trodAll_cons hA
  obtain ⟨v1, vs1, d1, ds1, p1, q1, rfl, rfl, rfl, h1, r1⟩ := trodAll_cons r0
  obtain ⟨rfl, rfl, rfl⟩ := trodAll_nil r1
  obtain rfl : args = #[v0, v1] := by cases args; simp_all
  obtain ⟨rfl, rfl⟩ := trodVars_none hV
  clear hA0 hval0
  simp only [List.append_nil] at hW'
  have hl0 : ∀ x ∈ p0, x.block < W.heap.size := fun x hx => by simpa using hW'.lt x (by simp [hx])
  have hl1 : ∀ x ∈ p1, x.block < W.heap.size := fun x hx => by simpa using hW'.lt x (by simp [hx])
  obtain ⟨x0, hx0, hg0⟩ := openBytes (hval 0 27 v0 rfl rfl) h0
  obtain ⟨x1, hx1, hg1⟩ := openBytes (hval 1 27 v1 rfl rfl) h1
  refine (fnSwapPart_w x0 v0 x1 v1 W hx0 hg0 hx1 hg1).mono fun e W' ⟨he, hb⟩ => ?_
  subst he
  refine ⟨_, rfl, _, _, _, [], p0 ++ p1, [], hW', trodAll_cons_mk (shut_bool Try.underlying4 _) trodAll_mk0, ?_, rfl, hb.frame _, fun h => by cases h⟩
  have hk := trodAll_cons_mk (Below.trod laidOut (by kernel_rfl) (of_decide_eq_true (by kernel_rfl)) h0 hb hl0) (trodAll_cons_mk (Below.trod laidOut (by kernel_rfl) (of_decide_eq_true (by kernel_rfl)) h1 hb hl1) (trodAll_mk0))
  simp only [List.append_nil] at hk
  exact hk

theorem fnSwapPart_holds : Rows.FnSwapPartSaid :=
  OpenClaim.holds_of_wide 4 Try.f4 rfl rfl rfl rfl rfl rfl rfl ⟨rfl, rfl, rfl, rfl, rfl⟩ rfl rfl rfl rfl rfl (by kernel_rfl) Try.func4 (by kernel_rfl)
    (of_decide_eq_true (by kernel_rfl)) (by unfold Func.isWrapper; first | (rw [if_pos (by decide +kernel)]; kernel_rfl) | (rw [if_neg (by decide +kernel)]; exact ⟨rfl, rfl⟩))
    (fun os started H enc _ => fnSwapPart_l os started H enc)

end Go.Proofs.Ytppbhlocnccpnaa
