/- FnSwapGet returns true for all codes. No conditions. -/
import Derived.Test.YtppbhlocnccpnaaSwapM
import Derived.Test.YtppbhlocnccpnaaSwapH
namespace Go.Proofs.Ytppbhlocnccpnaa
open Go.ChangeShapes Go.WideShapes Go.ChangeAt Go.RowKit
set_option linter.all false
attribute [local go_sem ↓] Go.wp_at_zero Go.wp_at_succ

theorem kept_words {xss : List (List Int)} {slot : Int} (h : keptB xss slot = true) : (getL xss slot).length = 4 ∧ keptB (dropL xss slot) slot = false ∧ ∃ (k : Nat), slot = (k : Int) ∧ xss[k]? = some (getL xss slot) := by
  obtain ⟨hv, k, xs, rfl, hk, hxs, hrow, hpos, hle, hb⟩ := kept_at h
  have hg : getL xss (k : Int) = xs := by simp [getL, h, hrow]
  refine ⟨?_, ?_, k, rfl, by rw [hg]; exact hxs⟩
  · rw [hg]
    simp only [swapOk, Bool.and_eq_true, decide_eq_true_eq, Bool.not_eq_true', List.any_eq_false] at hv
    have := hv.2 xs (List.mem_of_getElem? hxs)
    simp [badRow, hpos] at this
    exact wordsOk_len this
  · have hl : k < xss.length := (List.getElem?_eq_some_iff.1 hxs).1
    have hd : dropL xss (k : Int) = xss.set k [] := by simp only [dropL, h, if_true]; rfl
    have hr : rowAt (xss.set k []) (k : Int) = [] := by simp [rowAt, hl]
    rw [hd]
    unfold keptB
    rw [hr]
    simp

set_option maxHeartbeats 8000000 in
theorem fnSwapGet_w (bs : List Int) (v : Value) (w : World) (hx : RdB w v bs) (hbs : ∀ b ∈ bs, 0 ≤ b ∧ b ≤ 255) :
    Calls Try.prog 7 #[v] w fun e w' => e = .returned (.bool true) ∧ Below w.heap.size w w' := by
  have hx' := Lib.hid hx
  have HBS := Lib.hid hbs
  clear hbs
  obtain ⟨a, c, rfl, h1, h2, -, -⟩ := hx
  unfold maxLen at h2
  by_cases hl : bs.length ≤ 1048576
  rotate_left
  · go_enter Try.func7, Try.ntmps7
    go_wp2
    go_ret
    exact ⟨rfl, bref _⟩
  go_enter Try.func7, Try.ntmps7
  go_wp2_with fail
  refine (drawSwapGet_b bs _ _ hx'.out HBS.out).mono ?_
  rintro e W1 ⟨u, ss, xss, slot, rfl, hd, h1'⟩
  have H1 := Lib.hid h1'
  clear h1'
  go_wp2_with fail
  refine (implSwapGet_c xss slot u _ (H1.out.rdN 0 1 rfl rfl encI_len)).mono ?_
  rintro e W2 ⟨u2, rfl, ho2, hb2⟩
  have H2 := Lib.hid (H1.out.addT ho2 hb2)
  clear H1 ho2 hb2
  cases hk : keptB xss slot
  all_goals
    have HK := Lib.hid hk
    clear hk
    go_wp2_with fail
    refine (specSwapGet_c xss slot u _ (H2.out.rdN 1 2 rfl rfl encI_len)).mono ?_
    rintro e W3 ⟨u3, rfl, ho3, hb3⟩
    rw [HK.out]
    have H3 := Lib.hid (H2.out.addT ho3 hb3)
    clear H2 ho3 hb3
    go_wp2_with fail
    refine (sameInts_c (getL xss slot) (getL xss slot) u2 u3 _ (H3.out.rd 1 rfl encI_len) (H3.out.rd 0 rfl encI_len)).mono ?_
    rintro e W4 ⟨rfl, hb⟩
    rw [decide_eq_true (rfl : (getL xss slot) = (getL xss slot))]
    have H4 := Lib.hid (H3.out.call hb)
    clear hb H3
  · go_wp2_with fail
    refine (sameInts_c (getL xss slot) (getL xss slot) u2 u3 _ (H4.out.rd 1 rfl encI_len) (H4.out.rd 0 rfl encI_len)).mono ?_
    rintro e W5 ⟨rfl, hb⟩
    rw [decide_eq_true (rfl : (getL xss slot) = (getL xss slot))]
    have H5 := Lib.hid (H4.out.call hb)
    clear hb H4
    go_wp2
    go_ret
    exact ⟨rfl, H5.out.below⟩
  · obtain ⟨hl4, hkd, k, rfl, hrow⟩ := kept_words HK.out
    have HL4 := Lib.hid hl4
    have HKD := Lib.hid hkd
    have HROW := Lib.hid hrow
    clear hl4 hkd hrow
    go_wp2_with fail
    refine (implSwapDrop_c xss k u _ (H4.out.rdN 2 3 rfl rfl encI_len)).mono ?_
    rintro e W5 ⟨u5, rfl, ho5, hb5⟩
    rw [HK.out]
    obtain ⟨ss5, h5⟩ := H4.out.addN neSl ho5 hb5
    have H5 := Lib.hid h5
    clear H4 h5 ho5 hb5
    go_wp2_with fail
    refine (implSwapGet_c (dropL xss k) k u5 _ (H5.out.rdN 0 1 rfl rfl encI_len)).mono ?_
    rintro e W6 ⟨u6, rfl, ho6, hb6⟩
    rw [HKD.out]
    have H6 := Lib.hid (H5.out.call hb6)
    clear H5 ho6 hb6
    have hin := Lib.hid (show InO encI 1 3 0 W6.heap.size W6 ss xss from H6.out.get 5 rfl)
    obtain ⟨s, hs, hrd⟩ := (InO.rd encI_len hin.out).get HROW.out
    obtain ⟨g, c5, rfl, hk1, hk2, hk3, hk4, -, hcs⟩ := H6.out.at 4 rfl encL_len hs
    have d0 := hcs 0 _ rfl
    simp only [Nat.mul_one, Nat.add_zero] at d0
    have HRD := Lib.hid hrd
    have hr2 := H6.out.rd 3 rfl encI_len
    have R2 := Lib.hid hr2
    obtain ⟨a6, c6, rfl, j1, j2, -, -⟩ := hr2
    rw [HL4.out] at R2 ⊢
    unfold maxLen at hk3 j2
    clear hcs hs hrd hin
    go_wp2_with fail
    refine (sameInts_c (getL xss k) (getL xss k) _ (slv s) _ R2.out HRD.out).mono ?_
    rintro e W7 ⟨rfl, hb7⟩
    rw [decide_eq_true (rfl : getL xss k = getL xss k)]
    have H7 := Lib.hid (H6.out.call hb7)
    go_wp2
    go_ret
    exact ⟨rfl, H7.out.below⟩

set_option maxRecDepth 100000 in
theorem fnSwapGet_l (os : Os) (started : os.Started) (H : Type) (enc : TypeId × Value → H) :
    ReturnsInHanded {} Try.checked os 7 .any (Rows.fnSwapGetSpec.pre6 enc Try.prog Try.f7 Rows.fnSwapGetRow.domain false) (Rows.fnSwapGetSpec.post enc Try.prog Try.f7 false true false false) := by
  refine returnsInHanded_of_change (C := Try.checked) own started (by kernel_rfl) Try.func7
    (ChangeSpec.witness6 (enc := enc) (C := Try.checked) false ⟨#[], #[.slice none 0 0], []⟩ 8 (by kernel_rfl) (by kernel_rfl) (by kernel_rfl) (by kernel_rfl)) ?_
  intro W base args ds gs before hval0 hW _ _
  have hval : ∀ (j : Nat) t v, Try.f7.params[j]? = some t → args[j]? = some v → Value.okWide Try.prog W .any base t v := hval0
  have hW' := hW
  obtain ⟨p, q, hA0, hV, rfl, _, _⟩ := hW
  have hA : DataW.TrodAll enc Try.prog W 0 (fun _ => true) true Try.f7.params.toList args.toList ds p := hA0
  rw [Try.params7] at hA hval
  obtain ⟨v0, vs0, d0, ds0, p0, q0, hargs, rfl, rfl, h0, r0⟩ := trodAll_cons hA
  obtain ⟨rfl, rfl, rfl⟩ := trodAll_nil r0
  obtain rfl : args = #[v0] := by cases args; simp_all
  obtain ⟨rfl, rfl⟩ := trodVars_none hV
  clear hA0 hval0
  simp only [List.append_nil] at hW'
  have hl0 : ∀ x ∈ p0, x.block < W.heap.size := fun x hx => by simpa using hW'.lt x (by simp [hx])
  obtain ⟨x0, hx0, hg0⟩ := openBytes (hval 0 27 v0 rfl rfl) h0
  refine (fnSwapGet_w x0 v0 W hx0 hg0).mono fun e W' ⟨he, hb⟩ => ?_
  subst he
  refine ⟨_, rfl, _, _, _, [], p0, [], hW', trodAll_cons_mk (shut_bool Try.underlying4 _) trodAll_mk0, ?_, rfl, hb.frame _, fun h => by cases h⟩
  have hk := trodAll_cons_mk (Below.trod laidOut (by kernel_rfl) (of_decide_eq_true (by kernel_rfl)) h0 hb hl0) (trodAll_mk0)
  simp only [List.append_nil] at hk
  exact hk

theorem fnSwapGet_holds : Rows.FnSwapGetSaid :=
  OpenClaim.holds_of_wide 7 Try.f7 rfl rfl rfl rfl rfl rfl rfl ⟨rfl, rfl, rfl, rfl, rfl⟩ rfl rfl rfl rfl rfl (by kernel_rfl) Try.func7 (by kernel_rfl)
    (of_decide_eq_true (by kernel_rfl)) (by unfold Func.isWrapper; first | (rw [if_pos (by decide +kernel)]; kernel_rfl) | (rw [if_neg (by decide +kernel)]; exact ⟨rfl, rfl⟩))
    (fun os started H enc _ => fnSwapGet_l os started H enc)

end Go.Proofs.Ytppbhlocnccpnaa
