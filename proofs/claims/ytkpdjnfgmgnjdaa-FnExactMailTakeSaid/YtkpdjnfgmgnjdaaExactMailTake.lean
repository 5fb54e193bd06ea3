/- FnExactMailTake returns true for all arguments. No conditions. -/
import Derived.Test.YtkpdjnfgmgnjdaaLawMail
import Derived.Test.YtkpdjnfgmgnjdaaOpenMail
import Derived.Test.YtkpdjnfgmgnjdaaBun
namespace Go.Proofs.Ytkpdjnfgmgnjdaa
open Go.ChangeShapes Go.WideShapes Go.ChangeAt Go.RowKit
set_option linter.all false
attribute [local go_sem ↓] Go.wp_at_zero Go.wp_at_succ

set_option maxHeartbeats 8000000 in
theorem fnExactMailTake_w (x0 : List Mail) (v0 : Value) (x1 : Int) (w : World) (hx0 : RdM w v0 x0) :
    Calls Try.prog 14 #[v0, .int .i64 x1] w fun e w' => e = .returned (.bool true) ∧ Below w.heap.size w w' := by
  have HX0 := Lib.hid hx0
  clear hx0
  have hsl0 := takeL_le x0 x1
  obtain ⟨m, hM⟩ : ∃ m, m = takeM x0 x1 := ⟨_, rfl⟩
  have HM := Lib.hid hM
  clear hM
  have H0 := Lib.hid (Bun.refl w none)
  by_cases hl : (x0.length : Int) ≤ 1048576
  rotate_left
  · have HZ := Lib.hid (show szv (1048576 : Int) (x0.length : Int) = -1 from szv_neg (by omega))
    go_enter Try.func14, Try.ntmps14
    go_wp2_with fail
    refine (szMailS_c x0 v0 _ _ HX0.out (by omega)).mono ?_
    rintro e W ⟨rfl, rfl⟩
    rw [HZ.out]
    go_wp2
    go_ret
    exact ⟨rfl, bref _⟩
  have HZ := Lib.hid (show szv (1048576 : Int) (x0.length : Int) = 1048576 - (x0.length : Int) from szv_pos (by omega))
  go_enter Try.func14, Try.ntmps14
  go_wp2_with fail
  refine (szMailS_c x0 v0 _ _ HX0.out (by omega)).mono ?_
  rintro e W ⟨rfl, rfl⟩
  rw [HZ.out]
  have hl2 : x0.length ≤ 1048576 := by omega
  go_wp2_with fail
  refine (toMailS_c x0 v0 _ (HX0.out.below H0.out.below) hl2).mono ?_
  rintro e W1 ⟨a1, rfl, ho, hb⟩
  have H1 := Lib.hid (H0.out.addT ho hb)
  clear ho hb H0
  go_wp2_with fail
  refine (specMailTake_c x0 x1 a1 _ (H1.out.rd 0 rfl Mail.enc_len)).mono ?_
  rintro e W2 ⟨w0, rfl, ho, hb⟩
  rw [← HM.out]
  have H2 := Lib.hid (H1.out.addT ho hb)
  clear ho hb H1
  unfold Mail.val
  have H3 := Lib.hid (H2.out.alloc (.cells #[.int .i64 m.fr, .int .i64 m.tu, .int .i64 m.wd] 31))
  clear H2
  have H4 := Lib.hid (H3.out.rm 2)
  clear H3
  go_wp2_with fail
  refine (toMailS_c x0 v0 _ (HX0.out.below H4.out.below) hl2).mono ?_
  rintro e W5 ⟨x8, rfl, ho, hb⟩
  have H5 := Lib.hid (H4.out.addT ho hb)
  clear ho hb H4
  go_wp2_with fail
  refine (implMailTake_c x0 x1 x8 _ (H5.out.rd 0 rfl Mail.enc_len)).mono ?_
  rintro e W6 ⟨g0, rfl, ho, hb⟩
  rw [← HM.out]
  have H6 := Lib.hid (H5.out.addT ho hb)
  clear ho hb H5
  unfold Mail.val
  have H7 := Lib.hid (H6.out.alloc (.cells #[.int .i64 m.fr, .int .i64 m.tu, .int .i64 m.wd] 31))
  clear H6
  go_wp2_with fail
  refine (eqMailS_c (takeL x0 x1) (takeL x0 x1) g0 w0 _ (H7.out.rd 1 rfl Mail.enc_len) (H7.out.rd 4 rfl Mail.enc_len)).mono ?_
  rintro e W8 ⟨rfl, hb⟩
  rw [decide_eq_true (rfl : (takeL x0 x1) = (takeL x0 x1))]
  have H8 := Lib.hid (H7.out.call hb)
  clear hb H7
  obtain ⟨d0, d1, d2, -, -, -, -⟩ := blk3 (H8.out.get 0 rfl)
  obtain ⟨e0, e1, e2, -, -, -, -⟩ := blk3 (H8.out.get 3 rfl)
  go_wp2_with fail
  refine (eqMail_c m m _).mono ?_
  rintro e W9 ⟨rfl, hb⟩
  rw [decide_eq_true (rfl : m = m)]
  have H9 := Lib.hid (H8.out.call hb)
  clear hb H8
  clear d0 d1 d2 e0 e1 e2
  go_wp2_with fail
  refine (toMailS_c x0 v0 _ (HX0.out.below H9.out.below) hl2).mono ?_
  rintro e W10 ⟨t8, rfl, ho, hb⟩
  have H10 := Lib.hid (H9.out.addT ho hb)
  clear ho hb H9
  go_wp2_with fail
  refine (eqMailS_c x0 x0 x8 t8 _ (H10.out.rd 3 rfl Mail.enc_len) (H10.out.rd 0 rfl Mail.enc_len)).mono ?_
  rintro e W11 ⟨rfl, hb⟩
  rw [decide_eq_true (rfl : x0 = x0)]
  have H11 := Lib.hid (H10.out.call hb)
  clear hb H10
  have H12 := Lib.hid (H11.out.rm 0)
  clear H11
  have H13 := Lib.hid (H12.out.front 2 rfl)
  clear H12
  go_wp2_with fail
  refine (markMailS_c x0 x8 1 0 _ (H13.out.get 0 rfl) (by omega) (by omega)).mono ?_
  rintro e W14 ⟨rfl, ho, hg, hn⟩
  have H14 := Lib.hid (H13.out.marked ho hg hn)
  clear ho hg hn H13
  go_wp2_with fail
  refine (eqMailS_c (takeL x0 x1) (takeL x0 x1) g0 w0 _ (H14.out.rd 2 rfl Mail.enc_len) (H14.out.rd 4 rfl Mail.enc_len)).mono ?_
  rintro e W15 ⟨rfl, hb⟩
  rw [decide_eq_true (rfl : (takeL x0 x1) = (takeL x0 x1))]
  have H15 := Lib.hid (H14.out.call hb)
  clear hb H14
  obtain ⟨d0, d1, d2, -, -, -, -⟩ := blk3 (H15.out.get 1 rfl)
  obtain ⟨e0, e1, e2, -, -, -, -⟩ := blk3 (H15.out.get 3 rfl)
  go_wp2_with fail
  refine (eqMail_c m m _).mono ?_
  rintro e W16 ⟨rfl, hb⟩
  rw [decide_eq_true (rfl : m = m)]
  have H16 := Lib.hid (H15.out.call hb)
  clear hb H15
  clear d0 d1 d2 e0 e1 e2
  have H17 := Lib.hid (H16.out.front 2 rfl)
  clear H16
  go_wp2_with fail
  refine (markMailS_c (takeL x0 x1) g0 1 0 _ (H17.out.get 0 rfl) (by omega) (by omega)).mono ?_
  rintro e W18 ⟨rfl, ho, hg, hn⟩
  have H18 := Lib.hid (H17.out.marked ho hg hn)
  clear ho hg hn H17
  go_wp2_with fail
  refine (heldMailS_c (takeL x0 x1).length g0 1 _ (H18.out.rd 0 rfl Mail.enc_len) (by omega) (by omega)).mono ?_
  rintro e W19 ⟨rfl, rfl⟩
  have H20 := Lib.hid (H18.out.rm 1)
  clear H18
  have H21 := Lib.hid (H20.out.rm 1)
  clear H20
  go_wp2_with fail
  refine (toMailS_c x0 v0 _ (HX0.out.below H21.out.below) hl2).mono ?_
  rintro e W22 ⟨a3, rfl, ho, hb⟩
  have H22 := Lib.hid (H21.out.addT ho hb)
  clear ho hb H21
  go_wp2_with fail
  refine (implMailTake_c x0 x1 a3 _ (H22.out.rd 0 rfl Mail.enc_len)).mono ?_
  rintro e W23 ⟨h0, rfl, ho, hb⟩
  rw [← HM.out]
  have H23 := Lib.hid (H22.out.addT ho hb)
  clear ho hb H22
  unfold Mail.val
  have H24 := Lib.hid (H23.out.alloc (.cells #[.int .i64 m.fr, .int .i64 m.tu, .int .i64 m.wd] 31))
  clear H23
  go_wp2_with fail
  refine (eqMailS_c (takeL x0 x1) (takeL x0 x1) h0 w0 _ (H24.out.rd 1 rfl Mail.enc_len) (H24.out.rd 5 rfl Mail.enc_len)).mono ?_
  rintro e W25 ⟨rfl, hb⟩
  rw [decide_eq_true (rfl : (takeL x0 x1) = (takeL x0 x1))]
  have H25 := Lib.hid (H24.out.call hb)
  clear hb H24
  obtain ⟨d0, d1, d2, -, -, -, -⟩ := blk3 (H25.out.get 0 rfl)
  obtain ⟨e0, e1, e2, -, -, -, -⟩ := blk3 (H25.out.get 4 rfl)
  go_wp2_with fail
  refine (eqMail_c m m _).mono ?_
  rintro e W26 ⟨rfl, hb⟩
  rw [decide_eq_true (rfl : m = m)]
  have H26 := Lib.hid (H25.out.call hb)
  clear hb H25
  clear d0 d1 d2 e0 e1 e2
  go_wp2_with fail
  refine (heldMailS_c (takeL x0 x1).length g0 1 _ (H26.out.rd 3 rfl Mail.enc_len) (by omega) (by omega)).mono ?_
  rintro e W27 ⟨rfl, rfl⟩
  go_wp2
  go_ret
  exact ⟨rfl, H26.out.below⟩

set_option maxRecDepth 100000 in
theorem fnExactMailTake_l (os : Os) (started : os.Started) (H : Type) (enc : TypeId × Value → H) :
    ReturnsInHanded {} Try.checked os 14 .any (Rows.fnExactMailTakeSpec.pre6 enc Try.prog Try.f14 Rows.fnExactMailTakeRow.domain false) (Rows.fnExactMailTakeSpec.post enc Try.prog Try.f14 false true false false) := by
  refine returnsInHanded_of_change (C := Try.checked) own started (by kernel_rfl) Try.func14
    (ChangeSpec.witness6 (enc := enc) (C := Try.checked) false ⟨#[], #[.slice none 0 0, .int .i64 0], []⟩ 8 (by kernel_rfl) (by kernel_rfl) (by kernel_rfl) (by kernel_rfl)) ?_
  intro W base args ds gs before hval0 hW _ _
  have hval : ∀ (j : Nat) t v, Try.f14.params[j]? = some t → args[j]? = some v → Value.okWide Try.prog W .any base t v := hval0
  have hW' := hW
  obtain ⟨p, q, hA0, hV, rfl, _, _⟩ := hW
  have hA : DataW.TrodAll enc Try.prog W 0 (fun _ => true) true Try.f14.params.toList args.toList ds p := hA0
  rw [Try.params14] at hA hval
  obtain ⟨v0, vs0, d0, ds0, p0, q0, hargs, rfl, rfl, h0, r0⟩ := trodAll_cons hA
  obtain ⟨v1, vs1, d1, ds1, p1, q1, rfl, rfl, rfl, h1, r1⟩ := trodAll_cons r0
  obtain ⟨rfl, rfl, rfl⟩ := trodAll_nil r1
  obtain rfl : args = #[v0, v1] := by cases args; simp_all
  obtain ⟨rfl, rfl⟩ := trodVars_none hV
  clear hA0 hval0
  simp only [List.append_nil] at hW'
  have hl0 : ∀ x ∈ p0, x.block < W.heap.size := fun x hx => by simpa using hW'.lt x (by simp [hx])
  have hl1 : ∀ x ∈ p1, x.block < W.heap.size := fun x hx => by simpa using hW'.lt x (by simp [hx])
  obtain ⟨x0, hx0⟩ := openMails (hval 0 33 v0 rfl rfl) h0
  obtain ⟨x1, hv1⟩ := openInt (hval 1 3 v1 rfl rfl) h1
  subst hv1
  refine (fnExactMailTake_w x0 v0 x1 W hx0 ).mono fun e W' ⟨he, hb⟩ => ?_
  subst he
  refine ⟨_, rfl, _, _, _, [], p0 ++ p1, [], hW', trodAll_cons_mk (shut_bool Try.underlying4 _) trodAll_mk0, ?_, rfl, hb.frame _, fun h => by cases h⟩
  have hk := trodAll_cons_mk (Below.trod laidOut (by kernel_rfl) (of_decide_eq_true (by kernel_rfl)) h0 hb hl0) (trodAll_cons_mk (Below.trod laidOut (by kernel_rfl) (of_decide_eq_true (by kernel_rfl)) h1 hb hl1) (trodAll_mk0))
  simp only [List.append_nil] at hk
  exact hk

theorem fnExactMailTake_holds : Rows.FnExactMailTakeSaid :=
  OpenClaim.holds_of_wide 14 Try.f14 rfl rfl rfl rfl rfl rfl rfl ⟨rfl, rfl, rfl, rfl, rfl⟩ rfl rfl rfl rfl rfl (by kernel_rfl) Try.func14 (by kernel_rfl)
    (of_decide_eq_true (by kernel_rfl)) (by unfold Func.isWrapper; first | (rw [if_pos (by decide +kernel)]; kernel_rfl) | (rw [if_neg (by decide +kernel)]; exact ⟨rfl, rfl⟩))
    (fun os started H enc _ => fnExactMailTake_l os started H enc)

end Go.Proofs.Ytkpdjnfgmgnjdaa
