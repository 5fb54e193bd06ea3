/- FnExactMailSend returns true for all arguments. No conditions. -/
import Derived.Test.YtkpdjnfgmgnjdaaLawMail
import Derived.Test.YtkpdjnfgmgnjdaaOpenMail
import Derived.Test.YtkpdjnfgmgnjdaaBun
namespace Go.Proofs.Ytkpdjnfgmgnjdaa
open Go.ChangeShapes Go.WideShapes Go.ChangeAt Go.RowKit
set_option linter.all false
attribute [local go_sem ↓] Go.wp_at_zero Go.wp_at_succ

set_option maxHeartbeats 8000000 in
theorem fnExactMailSend_w (x0 : List Mail) (v0 : Value) (x1 : Mail) (w : World) (hx0 : RdM w v0 x0) :
    Calls Try.prog 11 #[v0, x1.val] w fun e w' => e = .returned (.bool true) ∧ Below w.heap.size w w' := by
  have HX0 := Lib.hid hx0
  clear hx0
  obtain ⟨p, q, r⟩ := x1
  have hsl0 := sendL_le x0 ⟨p, q, r⟩
  have H0 := Lib.hid ((Bun.refl w none).alloc (.cells #[.int .i64 p, .int .i64 q, .int .i64 r] 51))
  unfold Mail.val
  by_cases hl : (x0.length : Int) ≤ 1048576
  rotate_left
  · have HZ := Lib.hid (show szv (1048576 : Int) (x0.length : Int) = -1 from szv_neg (by omega))
    go_enter Try.func11, Try.ntmps11
    go_wp2_with fail
    refine (szMailS_c x0 v0 _ _ (HX0.out.below (balloc w _)) (by omega)).mono ?_
    rintro e W ⟨rfl, rfl⟩
    rw [HZ.out]
    go_wp2
    go_ret
    exact ⟨rfl, balloc w _⟩
  have HZ := Lib.hid (show szv (1048576 : Int) (x0.length : Int) = 1048576 - (x0.length : Int) from szv_pos (by omega))
  go_enter Try.func11, Try.ntmps11
  go_wp2_with fail
  refine (szMailS_c x0 v0 _ _ (HX0.out.below (balloc w _)) (by omega)).mono ?_
  rintro e W ⟨rfl, rfl⟩
  rw [HZ.out]
  have hl2 : x0.length ≤ 1048576 := by omega
  obtain ⟨d0, d1, d2, -, -, -, hlt⟩ := blk3 (H0.out.get 0 rfl)
  go_wp2
  go_region_held3 (fun w' => w'.cell? ⟨w.heap.size, 0, none⟩ = some (.int .i64 p) ∧ w'.cell? ⟨w.heap.size, 1, none⟩ = some (.int .i64 q) ∧ w'.cell? ⟨w.heap.size, 2, none⟩ = some (.int .i64 r)) (first | go_keep | exact ⟨a0, a1, a2⟩ | exact ⟨b0, b1, b2⟩ | exact ⟨c0, c1, c2⟩ | fail)
    (first
      | (go_at_call 24; refine (toMailS_c x0 v0 _ (HX0.out.below (by first | exact H0.out.below | exact H0.out.drew.below)) hl2).mono ?_; rintro e WA ⟨uAS, rfl, hoA, hbA⟩; have HSa := (by first | exact Lib.hid (H0.out.addT hoA hbA) | exact Lib.hid (H0.out.drew.addT hoA hbA) : Hid (Bun w none WA (Res.row Mail.enc 3 31 uAS x0 :: [Res.blk w.heap.size (.cells #[.int .i64 p, .int .i64 q, .int .i64 r] 51 (0, 0))]))); obtain ⟨a0, a1, a2, -, -, -, -⟩ := blk3 (HSa.out.get 1 rfl))
      | (go_at_call 37; refine (toMail_c ⟨p, q, r⟩ _).mono ?_; rintro e WB ⟨rfl, hbB⟩; have HSb := Lib.hid (HSa.out.call hbB); obtain ⟨b0, b1, b2, -, -, -, -⟩ := blk3 (HSb.out.get 1 rfl); unfold Mail.val)
      | (go_at_call 32; refine (specMailSend_c x0 ⟨p, q, r⟩ uAS _ (HSb.out.rd 0 rfl Mail.enc_len)).mono ?_; rintro e WC ⟨uS, rfl, hoC, hbC⟩; have HS := Lib.hid (HSb.out.addT hoC hbC); obtain ⟨c0, c1, c2, -, -, -, -⟩ := blk3 (HS.out.get 2 rfl)))
  clear H0
  have H11 := Lib.hid (HS.out.rm 1)
  clear HS
  go_wp2_with fail
  refine (toMailS_c x0 v0 _ (HX0.out.below H11.out.below) hl2).mono ?_
  rintro e W12 ⟨x8, rfl, ho, hb⟩
  have H12 := Lib.hid (H11.out.addT ho hb)
  clear ho hb H11
  obtain ⟨d0, d1, d2, -, -, -, -⟩ := blk3 (H12.out.get 2 rfl)
  go_wp2_with fail
  refine (toMail_c ⟨p, q, r⟩ _).mono ?_
  rintro e W14 ⟨rfl, hb⟩
  have H14 := Lib.hid (H12.out.call hb)
  clear hb H12
  unfold Mail.val
  clear d0 d1 d2
  go_wp2_with fail
  refine (implMailSend_c x0 ⟨p, q, r⟩ x8 _ (H14.out.rd 0 rfl Mail.enc_len)).mono ?_
  rintro e W15 ⟨g0, rfl, ho, hb⟩
  have H15 := Lib.hid (H14.out.addT ho hb)
  clear ho hb H14
  go_wp2_with fail
  refine (eqMailS_c (sendL x0 ⟨p, q, r⟩) (sendL x0 ⟨p, q, r⟩) g0 uS _ (H15.out.rd 0 rfl Mail.enc_len) (H15.out.rd 2 rfl Mail.enc_len)).mono ?_
  rintro e W16 ⟨rfl, hb⟩
  rw [decide_eq_true (rfl : (sendL x0 ⟨p, q, r⟩) = (sendL x0 ⟨p, q, r⟩))]
  have H16 := Lib.hid (H15.out.call hb)
  clear hb H15
  go_wp2_with fail
  refine (toMailS_c x0 v0 _ (HX0.out.below H16.out.below) hl2).mono ?_
  rintro e W17 ⟨t8, rfl, ho, hb⟩
  have H17 := Lib.hid (H16.out.addT ho hb)
  clear ho hb H16
  go_wp2_with fail
  refine (eqMailS_c x0 x0 x8 t8 _ (H17.out.rd 2 rfl Mail.enc_len) (H17.out.rd 0 rfl Mail.enc_len)).mono ?_
  rintro e W18 ⟨rfl, hb⟩
  rw [decide_eq_true (rfl : x0 = x0)]
  have H18 := Lib.hid (H17.out.call hb)
  clear hb H17
  have H19 := Lib.hid (H18.out.rm 0)
  clear H18
  have H20 := Lib.hid (H19.out.front 1 rfl)
  clear H19
  go_wp2_with fail
  refine (markMailS_c x0 x8 1 0 _ (H20.out.get 0 rfl) (by omega) (by omega)).mono ?_
  rintro e W21 ⟨rfl, ho, hg, hn⟩
  have H21 := Lib.hid (H20.out.marked ho hg hn)
  clear ho hg hn H20
  go_wp2_with fail
  refine (eqMailS_c (sendL x0 ⟨p, q, r⟩) (sendL x0 ⟨p, q, r⟩) g0 uS _ (H21.out.rd 1 rfl Mail.enc_len) (H21.out.rd 2 rfl Mail.enc_len)).mono ?_
  rintro e W22 ⟨rfl, hb⟩
  rw [decide_eq_true (rfl : (sendL x0 ⟨p, q, r⟩) = (sendL x0 ⟨p, q, r⟩))]
  have H22 := Lib.hid (H21.out.call hb)
  clear hb H21
  have H23 := Lib.hid (H22.out.front 1 rfl)
  clear H22
  go_wp2_with fail
  refine (markMailS_c (sendL x0 ⟨p, q, r⟩) g0 1 0 _ (H23.out.get 0 rfl) (by omega) (by omega)).mono ?_
  rintro e W24 ⟨rfl, ho, hg, hn⟩
  have H24 := Lib.hid (H23.out.marked ho hg hn)
  clear ho hg hn H23
  go_wp2_with fail
  refine (heldMailS_c (sendL x0 ⟨p, q, r⟩).length g0 1 _ (H24.out.rd 0 rfl Mail.enc_len) (by omega) (by omega)).mono ?_
  rintro e W25 ⟨rfl, rfl⟩
  have H26 := Lib.hid (H24.out.rm 1)
  clear H24
  have HM := H26
  obtain ⟨d0, d1, d2, -, -, -, -⟩ := blk3 (H26.out.get 2 rfl)
  go_wp2
  go_region_held3 (fun w' => w'.cell? ⟨w.heap.size, 0, none⟩ = some (.int .i64 p) ∧ w'.cell? ⟨w.heap.size, 1, none⟩ = some (.int .i64 q) ∧ w'.cell? ⟨w.heap.size, 2, none⟩ = some (.int .i64 r)) (first | go_keep | exact ⟨a0, a1, a2⟩ | exact ⟨b0, b1, b2⟩ | exact ⟨c0, c1, c2⟩ | fail)
    (first
      | (go_at_call 24; refine (toMailS_c x0 v0 _ (HX0.out.below (by first | exact H26.out.below | exact H26.out.drew.below)) hl2).mono ?_; rintro e WA ⟨uAT, rfl, hoA, hbA⟩; have HTa := (by first | exact Lib.hid (H26.out.addT hoA hbA) | exact Lib.hid (H26.out.drew.addT hoA hbA) : Hid (Bun w none WA (Res.row Mail.enc 3 31 uAT x0 :: [Res.row Mail.enc 3 31 g0 (marks 1 (sendL x0 ⟨p, q, r⟩).length), Res.row Mail.enc 3 31 uS (sendL x0 ⟨p, q, r⟩), Res.blk w.heap.size (.cells #[.int .i64 p, .int .i64 q, .int .i64 r] 51 (0, 0))]))); obtain ⟨a0, a1, a2, -, -, -, -⟩ := blk3 (HTa.out.get 3 rfl))
      | (go_at_call 37; refine (toMail_c ⟨p, q, r⟩ _).mono ?_; rintro e WB ⟨rfl, hbB⟩; have HTb := Lib.hid (HTa.out.call hbB); obtain ⟨b0, b1, b2, -, -, -, -⟩ := blk3 (HTb.out.get 3 rfl); unfold Mail.val)
      | (go_at_call 31; refine (implMailSend_c x0 ⟨p, q, r⟩ uAT _ (HTb.out.rd 0 rfl Mail.enc_len)).mono ?_; rintro e WC ⟨uT, rfl, hoC, hbC⟩; have HT := Lib.hid (HTb.out.addT hoC hbC); obtain ⟨c0, c1, c2, -, -, -, -⟩ := blk3 (HT.out.get 4 rfl)))
  go_wp2_with fail
  refine (eqMailS_c (sendL x0 ⟨p, q, r⟩) (sendL x0 ⟨p, q, r⟩) uT uS _ (HT.out.rd 0 rfl Mail.enc_len) (HT.out.rd 3 rfl Mail.enc_len)).mono ?_
  rintro e W27 ⟨rfl, hb⟩
  rw [decide_eq_true (rfl : (sendL x0 ⟨p, q, r⟩) = (sendL x0 ⟨p, q, r⟩))]
  have H27 := Lib.hid (HT.out.call hb)
  clear hb HT
  go_wp2_with fail
  refine (heldMailS_c (sendL x0 ⟨p, q, r⟩).length g0 1 _ (H27.out.rd 2 rfl Mail.enc_len) (by omega) (by omega)).mono ?_
  rintro e W28 ⟨rfl, rfl⟩
  go_wp2
  go_ret
  exact ⟨rfl, H27.out.below⟩

set_option maxRecDepth 100000 in
theorem fnExactMailSend_l (os : Os) (started : os.Started) (H : Type) (enc : TypeId × Value → H) :
    ReturnsInHanded {} Try.checked os 11 .any (Rows.fnExactMailSendSpec.pre6 enc Try.prog Try.f11 Rows.fnExactMailSendRow.domain false) (Rows.fnExactMailSendSpec.post enc Try.prog Try.f11 false true false false) := by
  refine returnsInHanded_of_change (C := Try.checked) own started (by kernel_rfl) Try.func11
    (ChangeSpec.witness6 (enc := enc) (C := Try.checked) false ⟨#[], #[.slice none 0 0, .agg #[.int .i64 0, .int .i64 0, .int .i64 0]], []⟩ 8 (by kernel_rfl) (by kernel_rfl) (by kernel_rfl) (by kernel_rfl)) ?_
  intro W base args ds gs before hval0 hW _ _
  have hval : ∀ (j : Nat) t v, Try.f11.params[j]? = some t → args[j]? = some v → Value.okWide Try.prog W .any base t v := hval0
  have hW' := hW
  obtain ⟨p, q, hA0, hV, rfl, _, _⟩ := hW
  have hA : DataW.TrodAll enc Try.prog W 0 (fun _ => true) true Try.f11.params.toList args.toList ds p := hA0
  rw [Try.params11] at hA hval
  obtain ⟨v0, vs0, d0, ds0, p0, q0, hargs, rfl, rfl, h0, r0⟩ := trodAll_cons hA
  obtain ⟨v1, vs1, d1, ds1, p1, q1, rfl, rfl, rfl, h1, r1⟩ := trodAll_cons r0
  obtain ⟨rfl, rfl, rfl⟩ := trodAll_nil r1
  obtain rfl : args = #[v0, v1] := by cases args; simp_all
  obtain ⟨rfl, rfl⟩ := trodVars_none hV
  clear hA0 hval0
  simp only [List.append_nil] at hW'
  have hl0 : ∀ x ∈ p0, x.block < W.heap.size := fun x hx => by simpa using hW'.lt x (by simp [hx])
  have hl1 : ∀ x ∈ p1, x.block < W.heap.size := fun x hx => by simpa using hW'.lt x (by simp [hx])
  obtain ⟨x0, hx0⟩ := openMails (hval 0 33 v0 rfl rfl) h0
  obtain ⟨x1, hv1⟩ := openMail (hval 1 51 v1 rfl rfl) h1
  subst hv1
  refine (fnExactMailSend_w x0 v0 x1 W hx0 ).mono fun e W' ⟨he, hb⟩ => ?_
  subst he
  refine ⟨_, rfl, _, _, _, [], p0 ++ p1, [], hW', trodAll_cons_mk (shut_bool Try.underlying4 _) trodAll_mk0, ?_, rfl, hb.frame _, fun h => by cases h⟩
  have hk := trodAll_cons_mk (Below.trod laidOut (by kernel_rfl) (of_decide_eq_true (by kernel_rfl)) h0 hb hl0) (trodAll_cons_mk (Below.trod laidOut (by kernel_rfl) (of_decide_eq_true (by kernel_rfl)) h1 hb hl1) (trodAll_mk0))
  simp only [List.append_nil] at hk
  exact hk

theorem fnExactMailSend_holds : Rows.FnExactMailSendSaid :=
  OpenClaim.holds_of_wide 11 Try.f11 rfl rfl rfl rfl rfl rfl rfl ⟨rfl, rfl, rfl, rfl, rfl⟩ rfl rfl rfl rfl rfl (by kernel_rfl) Try.func11 (by kernel_rfl)
    (of_decide_eq_true (by kernel_rfl)) (by unfold Func.isWrapper; first | (rw [if_pos (by decide +kernel)]; kernel_rfl) | (rw [if_neg (by decide +kernel)]; exact ⟨rfl, rfl⟩))
    (fun os started H enc _ => fnExactMailSend_l os started H enc)

end Go.Proofs.Ytkpdjnfgmgnjdaa
