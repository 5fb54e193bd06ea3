/- FnExactKernelSees returns true for all arguments. No conditions. -/
import Derived.Test.YtojknkpjnchchaaGreatDoorKeyB
import Derived.Test.YtojknkpjnchchaaGreatDoorKeyC
import Derived.Test.YtojknkpjnchchaaGreatDoorTie
import Derived.Test.YtojknkpjnchchaaGreatDoorCards
import Derived.Lay
import Derived.LaidOnce
import Derived.SevenTiedAt
namespace Go.Proofs.YtojknkpjnchchaaGreatDoor
open Go.BigFrame Go.ChangeShapes Go.WideShapes Go.ChangeAt Go.RowKit
set_option linter.all false
set_option maxRecDepth 100000
attribute [local go_sem ↓] Go.wp_at_zero Go.wp_at_succ

set_option maxRecDepth 100000 in
set_option maxHeartbeats 16000000 in
theorem fnExactKernelSees_w (x0 : Kern) (v0 : Value) (en ad : Int) (w : World) (hx : RdKF w v0 x0) :
    Calls Tryz.prog 4 #[v0, .int .i64 en, .int .i64 ad] w fun e w' => e = .returned (.bool true) ∧ Below w.heap.size w w' := by
  obtain ⟨hx1, hx2, hx3⟩ := hx
  have HX := Lib.hid hx1
  have HF := Lib.hid hx2
  have HE := Lib.hid hx3
  obtain ⟨ka, kb, kc, kd, rfl, -, -, -, -⟩ := hx1
  have H0 := Lib.hid ((Bun.refl w none).alloc (.cells #[ka, kb, kc, kd] 27))
  obtain ⟨k0, k1, k2, k3, -, -, -, -, kz⟩ := blk4 (H0.out.get 0 rfl)
  clear hx2 hx3
  have hn := szK_nonneg x0
  by_cases hl : szK x0 ≤ 1048576
  rotate_left
  · have HZ := Lib.hid (show szv 1048576 (szK x0) = -1 from szv_neg (by omega))
    clear hl hn
    go_enter Tryz.func4, Tryz.ntmps4
    go_wp2_with fail
    refine (szKernel_c x0 _ 1048576 _ (HX.out.below H0.out.below) HF.out HE.out (by omega)).mono ?_
    rintro e W0 ⟨rfl, hb⟩
    rw [HZ.out]
    have H1 := Lib.hid (H0.out.call hb)
    go_wp2
    go_ret
    exact ⟨rfl, H1.out.below⟩
  have HZ := Lib.hid (show szv 1048576 (szK x0) = 1048576 - szK x0 from szv_pos (by omega))
  have HL := Lib.hid hl
  have HFK := Lib.hid (fit_szK hl)
  have hle : 0 ≤ 1048576 - szK x0 := by omega
  have hvv : (seeV x0 en ad != seeV x0 en ad) = false := by simp
  have hbb : (seeB x0 en ad != seeB x0 en ad) = false := by simp
  clear hl hn
  go_enter Tryz.func4, Tryz.ntmps4
  go_wp2_with fail
  refine (szKernel_c x0 _ 1048576 _ (HX.out.below H0.out.below) HF.out HE.out (by omega)).mono ?_
  rintro e W1 ⟨rfl, hb⟩
  rw [HZ.out]
  have H2 := Lib.hid (H0.out.call hb)
  clear hb k0 k1 k2 k3 kz H0
  obtain ⟨k0, k1, k2, k3, -, -, -, -, kz⟩ := blk4 (H2.out.get 0 rfl)
  go_wp2_with fail
  refine (toKernel_c x0 _ _ (HX.out.below H2.out.below) HL.out).mono ?_
  rintro e W3 ⟨pa, pb, pc, pd, ps, pl, rfl, hB⟩
  have hK := H2.out.addB hB (by intro q hq; simp only [List.mem_cons, List.mem_nil_iff, or_false] at hq; rcases hq with rfl | rfl | rfl | rfl | rfl | rfl <;> exact fun k hk => hk)
  obtain ⟨⟨pa1, pa2, pa3⟩, rfl⟩ := (hK.rd 0 rfl encL_len).sl
  obtain ⟨⟨pb1, pb2, pb3⟩, rfl⟩ := (hK.rd 2 rfl Info.enc_len).sl
  obtain ⟨⟨pc1, pc2, pc3⟩, rfl⟩ := (hK.rd 3 rfl encE_len).sl
  obtain ⟨⟨pd1, pd2, pd3⟩, rfl⟩ := (hK.rd 5 rfl Cac.enc_len).sl
  simp only [slv] at hK ⊢
  have H4 := Lib.hid (hK)
  clear hB hK k0 k1 k2 k3 kz H2
  go_wp2_with fail
  refine (specKernelSees_c x0 _ en ad _ (⟨_, _, _, _, rfl, H4.out.rdN 0 1 rfl rfl encI_len, H4.out.rd 2 rfl Info.enc_len, H4.out.rdE 3 4 rfl rfl, H4.out.rd 5 rfl Cac.enc_len⟩ : RdK _ _ _) HF.out HE.out).mono ?_
  rintro e W5 ⟨rfl, hb⟩
  have H6 := Lib.hid (H4.out.call hb)
  clear hb H4
  have H7 := Lib.hid (((((((H6.out.rm 0).rm 0).rm 0).rm 0).rm 0).rm 0))
  clear  H6
  obtain ⟨k0, k1, k2, k3, -, -, -, -, kz⟩ := blk4 (H7.out.get 0 rfl)
  go_wp2_with fail
  refine (toKernel_c x0 _ _ (HX.out.below H7.out.below) HL.out).mono ?_
  rintro e W8 ⟨ya, yb, yc, yd, ys, yl, rfl, hB⟩
  have hK := H7.out.addB hB (by intro q hq; simp only [List.mem_cons, List.mem_nil_iff, or_false] at hq; rcases hq with rfl | rfl | rfl | rfl | rfl | rfl <;> exact fun k hk => hk)
  obtain ⟨⟨ya1, ya2, ya3⟩, rfl⟩ := (hK.rd 0 rfl encL_len).sl
  obtain ⟨⟨yb1, yb2, yb3⟩, rfl⟩ := (hK.rd 2 rfl Info.enc_len).sl
  obtain ⟨⟨yc1, yc2, yc3⟩, rfl⟩ := (hK.rd 3 rfl encE_len).sl
  obtain ⟨⟨yd1, yd2, yd3⟩, rfl⟩ := (hK.rd 5 rfl Cac.enc_len).sl
  simp only [slv] at hK ⊢
  have H9 := Lib.hid (hK)
  clear hB hK k0 k1 k2 k3 kz H7
  have H10 := Lib.hid (H9.out.alloc (.cells #[.slice ya1 ya2 ya3, .slice yb1 yb2 yb3, .slice yc1 yc2 yc3, .slice yd1 yd2 yd3] 34))
  clear  H9
  obtain ⟨y0, y1, y2, y3, -, -, -, -, yz⟩ := blk4 (H10.out.get 0 rfl)
  go_wp2_with fail
  refine (implKernelSees_c x0 _ en ad _ (⟨_, _, _, _, rfl, H10.out.rdN 1 2 rfl rfl encI_len, H10.out.rd 3 rfl Info.enc_len, H10.out.rdE 4 5 rfl rfl, H10.out.rd 6 rfl Cac.enc_len⟩ : RdK _ _ _) HF.out HE.out).mono ?_
  rintro e W11 ⟨rfl, hb⟩
  have H12 := Lib.hid (H10.out.call hb)
  clear hb y0 y1 y2 y3 yz H10
  obtain ⟨k0, k1, k2, k3, -, -, -, -, kz⟩ := blk4 (H12.out.get 7 rfl)
  obtain ⟨y0, y1, y2, y3, -, -, -, -, yz⟩ := blk4 (H12.out.get 0 rfl)
  have ck0 := cell_bel k0
  have ck1 := cell_bel k1
  have ck2 := cell_bel k2
  have ck3 := cell_bel k3
  have cy0 := cell_bel y0
  have cy1 := cell_bel y1
  have cy2 := cell_bel y2
  have cy3 := cell_bel y3
  clear k0 k1 k2 k3 kz y0 y1 y2 y3 yz
  go_wp2
  refine wp_region_plan [some 2, none, none, some 1] (by kernel_rfl) (by kernel_rfl) ?_
  change wpQuiet _ _ _ _ [_, _] _
  repeat (go_big_quiet_step (fail))
  refine wpQuiet_nil ?_
  change wpList _ _ _ [_] _ _
  have H13 := Lib.hid (H12.out.drew)
  clear  H12
  go_wp2_with fail
  refine (toKernel_c x0 _ _ (HX.out.below H13.out.below) HL.out).mono ?_
  rintro e W14 ⟨ta, tb, tc, td, ts, tl, rfl, hB⟩
  have HLB := Lib.hid (bdrew (bref _) hB.below)
  have hK := H13.out.addB hB (by intro q hq; simp only [List.mem_cons, List.mem_nil_iff, or_false] at hq; rcases hq with rfl | rfl | rfl | rfl | rfl | rfl <;> exact fun k hk => hk)
  have H15 := Lib.hid (hK)
  clear hB hK H13
  go_wp2
  refine ⟨⟨⟨_, HLB.out⟩, rfl⟩, ?_⟩
  change wpList _ _ _ [_] _ _
  go_wp2_with fail
  refine (eqKernel_c x0 _ _ _ (⟨_, _, _, _, rfl, H15.out.rdN 7 8 rfl rfl encI_len, H15.out.rd 9 rfl Info.enc_len, H15.out.rdE 10 11 rfl rfl, H15.out.rd 12 rfl Cac.enc_len⟩ : RdK _ _ _) (⟨_, _, _, _, rfl, H15.out.rdN 0 1 rfl rfl encI_len, H15.out.rd 2 rfl Info.enc_len, H15.out.rdE 3 4 rfl rfl, H15.out.rd 5 rfl Cac.enc_len⟩ : RdK _ _ _)).mono ?_
  rintro e W16 ⟨rfl, hb⟩
  have HLC := Lib.hid (bnext HLB.out hb)
  have H17 := Lib.hid (H15.out.call hb)
  clear hb H15
  go_wp2
  refine ⟨⟨⟨_, HLC.out⟩, rfl⟩, ?_⟩
  change wpQuiet _ _ _ _ [_] _
  repeat (go_big_quiet_step (fail))
  refine wpQuiet_nil ?_
  refine wpPlan_nil ?_
  (try dsimp only)
  clear ck0 ck1 ck2 ck3 cy0 cy1 cy2 cy3 HLB HLC
  have H18 := Lib.hid (((((((H17.out.rm 0).rm 0).rm 0).rm 0).rm 0).rm 0))
  clear  H17
  go_wp2
  go_ret
  exact ⟨rfl, H18.out.below⟩

set_option maxRecDepth 100000 in
theorem fnExactKernelSees_l (os : Os) (started : os.Started) (H : Type) (enc : TypeId × Value → H) :
    ReturnsInHanded {} Tryz.checked os 4 .any (fun w args => (Rows.fnExactKernelSeesSpec.pre enc Tryz.prog Tryz.f4 [] false w args ∧ laidMetH Tryz.prog Rows.fnExactKernelSeesRow.laid w) ∧ sizedMet enc Tryz.prog Tryz.f4 (OpenSpec.ofChange Rows.fnExactKernelSeesSpec) false w args)
      (Rows.fnExactKernelSeesSpec.post enc Tryz.prog Tryz.f4 false true false false) := by
  refine returnsInHanded_of_change_and (C := Tryz.checked) (X := fun w _ => laidMetH Tryz.prog Rows.fnExactKernelSeesRow.laid w) (fun _ _ _ hh h => h.of_heap hh) own started (by kernel_rfl) Tryz.func4
    (ChangeSpec.witness_shaped (enc := enc) (C := Tryz.checked) (os := os) (X := fun w _ => laidMetH Tryz.prog Rows.fnExactKernelSeesRow.laid w) false (World.laidAll Tryz.prog os Rows.fnExactKernelSeesRow.laid) #[.agg #[.slice none 0 0, .slice none 0 0, .slice none 0 0, .slice none 0 0], .int .i64 0, .int .i64 0] 8 (World.laidAll_os _ _ _)
      (World.shaped_of_ZipB (by kernel_rfl) (by kernel_rfl)) (by kernel_rfl) (by kernel_rfl) (by kernel_rfl)
      (by rw [MakeChecks.laidMetH_plain _ _ _ (by kernel_rfl)]; exact laidMet_laidAll _ (by kernel_rfl) (by kernel_rfl))) ?_
  intro W base args ds gs before hval0 hW _ _ _ _
  have hval : ∀ (j : Nat) t v, Tryz.f4.params[j]? = some t → args[j]? = some v → Value.okWide Tryz.prog W .any base t v := hval0
  have hW' := hW
  obtain ⟨p, q, hA0, hV, rfl, _, _⟩ := hW
  have hA : DataW.TrodAll enc Tryz.prog W 0 (fun _ => true) true Tryz.f4.params.toList args.toList ds p := hA0
  rw [Tryz.params4] at hA hval
  obtain ⟨v0, vs0, d0, ds0, p0, q0, hargs, rfl, rfl, h0, r0⟩ := trodAll_cons hA
  obtain ⟨v1, vs1, d1, ds1, p1, q1, rfl, rfl, rfl, h1, r1⟩ := trodAll_cons r0
  obtain ⟨v2, vs2, d2, ds2, p2, q2, rfl, rfl, rfl, h2, r2⟩ := trodAll_cons r1
  obtain ⟨rfl, rfl, rfl⟩ := trodAll_nil r2
  obtain rfl : args = #[v0, v1, v2] := by cases args; simp_all
  obtain ⟨rfl, rfl⟩ := trodVars_none hV
  clear hA0 hval0
  simp only [List.append_nil] at hW'
  have hl0 : ∀ x ∈ p0, x.block < W.heap.size := fun x hx => by simpa using hW'.lt x (by simp [hx])
  have hl1 : ∀ x ∈ p1, x.block < W.heap.size := fun x hx => by simpa using hW'.lt x (by simp [hx])
  have hl2 : ∀ x ∈ p2, x.block < W.heap.size := fun x hx => by simpa using hW'.lt x (by simp [hx])
  obtain ⟨x0, hx0⟩ := openKernel (hval 0 27 v0 rfl rfl) h0
  obtain ⟨x1, hv1⟩ := openInt (hval 1 3 v1 rfl rfl) h1
  obtain ⟨x2, hv2⟩ := openInt (hval 2 3 v2 rfl rfl) h2
  subst hv1
  subst hv2
  refine (fnExactKernelSees_w x0 v0 x1 x2 W hx0  ).mono fun e W' ⟨he, hb⟩ => ?_
  subst he
  refine ⟨_, rfl, _, _, _, [], p0 ++ (p1 ++ p2), [], hW', trodAll_cons_mk (shut_bool Tryz.underlying4 _) trodAll_mk0, ?_, rfl, hb.frame _, fun h => by cases h⟩
  have hk := trodAll_cons_mk (Below.trod laidOut (by kernel_rfl) (of_decide_eq_true (by kernel_rfl)) h0 hb hl0) (trodAll_cons_mk (Below.trod laidOut (by kernel_rfl) (of_decide_eq_true (by kernel_rfl)) h1 hb hl1) (trodAll_cons_mk (Below.trod laidOut (by kernel_rfl) (of_decide_eq_true (by kernel_rfl)) h2 hb hl2) (trodAll_mk0)))
  simp only [List.append_nil] at hk
  exact hk

theorem fnExactKernelSees_row : Rows.FnExactKernelSeesSaid :=
  OpenClaim.holds_of_wide 4 Tryz.f4 rfl rfl rfl rfl rfl rfl rfl ⟨rfl, rfl, rfl, rfl, rfl⟩ rfl rfl rfl rfl rfl (by kernel_rfl) Tryz.func4 (by kernel_rfl)
    (of_decide_eq_true (by kernel_rfl)) (by unfold Func.isWrapper; first | (rw [if_pos (by decide +kernel)]; kernel_rfl) | (rw [if_neg (by decide +kernel)]; exact ⟨rfl, rfl⟩))
    (fun os started H enc _ => fnExactKernelSees_l os started H enc)

theorem fnExactKernelSees_holds : Rows.FnExactKernelSeesCardSaid :=
  Claim7.holds_tied_plain_at .later [] [.data, .pinned] true Rows.fnExactKernelSeesCard.stood.harness false fnExactKernelSees_row (fun _ h => by cases h) (by kernel_rfl) (fun _ h => by cases h) fnExactKernelSees_row_tie rfl ⟨rfl, rfl⟩ (by kernel_rfl) rfl
    (fun f fn hf hfn => by
      obtain rfl : f = 4 := Option.some.inj ((show Tryz.prog.funcNamed "loop.example/exopager/laws.FnExactKernelSees" = some 4 by kernel_rfl).symm.trans hf) |>.symm
      obtain rfl : fn = Tryz.f4 := (Option.some.inj (Tryz.func4.symm.trans hfn)).symm
      exact ⟨by kernel_rfl, fun j t ht => by
        rw [Tryz.params4] at ht
        have hm : t ∈ [27, 3, 3] := by simpa using Array.mem_of_getElem? ht
        have hall : ([27, 3, 3].all fun u => !Tryz.prog.wantsStandIn u) = true := by kernel_rfl
        exact (show Tryz.prog.wantsStandIn t = false by simpa using List.all_eq_true.1 hall t hm)⟩)
    (by kernel_rfl)

end Go.Proofs.YtojknkpjnchchaaGreatDoor
