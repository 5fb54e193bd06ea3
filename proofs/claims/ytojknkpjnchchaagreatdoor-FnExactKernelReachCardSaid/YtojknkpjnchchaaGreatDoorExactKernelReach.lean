/- FnExactKernelReach returns true for all arguments. No conditions. -/
import Derived.Test.YtojknkpjnchchaaGreatDoorKeyC
import Derived.Test.YtojknkpjnchchaaGreatDoorTie
import Derived.Test.YtojknkpjnchchaaGreatDoorCards
import Derived.Lay
import Derived.LaidOnce
import Derived.SevenTiedAt
namespace Go.Proofs.YtojknkpjnchchaaGreatDoor
open Go.BigFrame Go.ChangeShapes Go.WideShapes Go.ChangeAt Go.RowKit
set_option linter.all false
set_option maxRecDepth 100000
attribute [local go_sem ↓] Go.wp_at_zero Go.wp_at_succ

set_option maxRecDepth 100000 in
set_option maxHeartbeats 16000000 in
theorem fnExactKernelReach_w (x0 : Kern) (v0 : Value) (en : Int) (w : World) (hx : RdKF w v0 x0) :
    Calls Tryz.prog 5 #[v0, .int .i64 en] w fun e w' => e = .returned (.bool true) ∧ Below w.heap.size w w' := by
  obtain ⟨hx1, hx2, hx3⟩ := hx
  have HX := Lib.hid hx1
  have HF := Lib.hid hx2
  have HE := Lib.hid hx3
  obtain ⟨ka, kb, kc, kd, rfl, -, -, -, -⟩ := hx1
  have H0 := Lib.hid ((Bun.refl w none).alloc (.cells #[ka, kb, kc, kd] 27))
  obtain ⟨k0, k1, k2, k3, -, -, -, -, kz⟩ := blk4 (H0.out.get 0 rfl)
  clear hx2 hx3
  have hn := szK_nonneg x0
  by_cases hl : szK x0 ≤ 1048576
  rotate_left
  · have HZ := Lib.hid (show szv 1048576 (szK x0) = -1 from szv_neg (by omega))
    clear hl hn
    go_enter Tryz.func5, Tryz.ntmps5
    go_wp2_with fail
    refine (szKernel_c x0 _ 1048576 _ (HX.out.below H0.out.below) HF.out HE.out (by omega)).mono ?_
    rintro e W0 ⟨rfl, hb⟩
    rw [HZ.out]
    have H1 := Lib.hid (H0.out.call hb)
    go_wp2
    go_ret
    exact ⟨rfl, H1.out.below⟩
  have HZ := Lib.hid (show szv 1048576 (szK x0) = 1048576 - szK x0 from szv_pos (by omega))
  have HL := Lib.hid hl
  have HFK := Lib.hid (fit_szK hl)
  have hle : 0 ≤ 1048576 - szK x0 := by omega
  obtain ⟨rn, hrn⟩ : ∃ rn, rn = (reachK x0 en).length := ⟨_, rfl⟩
  have hrl : rn ≤ 12 := by rw [hrn]; exact reachK_len x0 en
  have HRN := Lib.hid hrn
  have HRL := Lib.hid (show (reachK x0 en).length ≤ 2000000 by omega)
  obtain ⟨M, hM⟩ : ∃ M : Int, M = 1 + sumLen x0.me + 3 * x0.inf.length + sumBy envW x0.env + 4 * x0.ca.length := ⟨_, rfl⟩
  have hm0 : 0 ≤ M := by omega
  have HM := Lib.hid hM
  have hq0 : 0 ≤ 1 + (rn : Int) := by omega
  have hmm : (1 + (rn : Int) != 1 + (rn : Int)) = false := by simp
  clear hM hrn
  clear hl hn
  go_enter Tryz.func5, Tryz.ntmps5
  go_wp2_with fail
  refine (szKernel_c x0 _ 1048576 _ (HX.out.below H0.out.below) HF.out HE.out (by omega)).mono ?_
  rintro e W1 ⟨rfl, hb⟩
  rw [HZ.out]
  have H2 := Lib.hid (H0.out.call hb)
  clear hb k0 k1 k2 k3 kz H0
  obtain ⟨k0, k1, k2, k3, -, -, -, -, kz⟩ := blk4 (H2.out.get 0 rfl)
  go_wp2_with fail
  refine (toKernel_c x0 _ _ (HX.out.below H2.out.below) HL.out).mono ?_
  rintro e W3 ⟨pa, pb, pc, pd, ps, pl, rfl, hB⟩
  have hK := H2.out.addB hB (by intro q hq; simp only [List.mem_cons, List.mem_nil_iff, or_false] at hq; rcases hq with rfl | rfl | rfl | rfl | rfl | rfl <;> exact fun k hk => hk)
  obtain ⟨⟨pa1, pa2, pa3⟩, rfl⟩ := (hK.rd 0 rfl encL_len).sl
  obtain ⟨⟨pb1, pb2, pb3⟩, rfl⟩ := (hK.rd 2 rfl Info.enc_len).sl
  obtain ⟨⟨pc1, pc2, pc3⟩, rfl⟩ := (hK.rd 3 rfl encE_len).sl
  obtain ⟨⟨pd1, pd2, pd3⟩, rfl⟩ := (hK.rd 5 rfl Cac.enc_len).sl
  simp only [slv] at hK ⊢
  have H4 := Lib.hid (hK)
  clear hB hK k0 k1 k2 k3 kz H2
  go_wp2_with fail
  refine (specKernelReach_c x0 _ en _ (⟨_, _, _, _, rfl, H4.out.rdN 0 1 rfl rfl encI_len, H4.out.rd 2 rfl Info.enc_len, H4.out.rdE 3 4 rfl rfl, H4.out.rd 5 rfl Cac.enc_len⟩ : RdK _ _ _) HF.out HE.out).mono ?_
  rintro e W5 ⟨sv, rfl, ho, hb⟩
  have H6 := Lib.hid (H4.out.addT ho hb)
  clear ho hb H4
  have H7 := Lib.hid (((((((H6.out.rm 1).rm 1).rm 1).rm 1).rm 1).rm 1))
  clear  H6
  obtain ⟨k0, k1, k2, k3, -, -, -, -, kz⟩ := blk4 (H7.out.get 1 rfl)
  go_wp2_with fail
  refine (toKernel_c x0 _ _ (HX.out.below H7.out.below) HL.out).mono ?_
  rintro e W8 ⟨ya, yb, yc, yd, ys, yl, rfl, hB⟩
  have hK := H7.out.addB hB (by intro q hq; simp only [List.mem_cons, List.mem_nil_iff, or_false] at hq; rcases hq with rfl | rfl | rfl | rfl | rfl | rfl <;> exact fun k hk => hk)
  obtain ⟨⟨ya1, ya2, ya3⟩, rfl⟩ := (hK.rd 0 rfl encL_len).sl
  obtain ⟨⟨yb1, yb2, yb3⟩, rfl⟩ := (hK.rd 2 rfl Info.enc_len).sl
  obtain ⟨⟨yc1, yc2, yc3⟩, rfl⟩ := (hK.rd 3 rfl encE_len).sl
  obtain ⟨⟨yd1, yd2, yd3⟩, rfl⟩ := (hK.rd 5 rfl Cac.enc_len).sl
  simp only [slv] at hK ⊢
  have H9 := Lib.hid (hK)
  clear hB hK k0 k1 k2 k3 kz H7
  have H10 := Lib.hid (H9.out.alloc (.cells #[.slice ya1 ya2 ya3, .slice yb1 yb2 yb3, .slice yc1 yc2 yc3, .slice yd1 yd2 yd3] 34))
  clear  H9
  obtain ⟨y0, y1, y2, y3, -, -, -, -, yz⟩ := blk4 (H10.out.get 0 rfl)
  go_wp2_with fail
  refine (implKernelReach_c x0 _ en _ (⟨_, _, _, _, rfl, H10.out.rdN 1 2 rfl rfl encI_len, H10.out.rd 3 rfl Info.enc_len, H10.out.rdE 4 5 rfl rfl, H10.out.rd 6 rfl Cac.enc_len⟩ : RdK _ _ _) HF.out HE.out).mono ?_
  rintro e W11 ⟨gv, rfl, ho, hb⟩
  have H12 := Lib.hid (H10.out.addT ho hb)
  clear ho hb y0 y1 y2 y3 yz H10
  go_wp2_with fail
  refine (eqIntS_c (reachK x0 en) (reachK x0 en) gv sv _ (H12.out.rd 0 rfl encI_len) (H12.out.rd 8 rfl encI_len)).mono ?_
  rintro e W13 ⟨rfl, hb⟩
  rw [decide_eq_true (rfl : (reachK x0 en) = (reachK x0 en))]
  have H14 := Lib.hid (H12.out.call hb)
  clear hb H12
  obtain ⟨k0, k1, k2, k3, -, -, -, -, kz⟩ := blk4 (H14.out.get 9 rfl)
  obtain ⟨y0, y1, y2, y3, -, -, -, -, yz⟩ := blk4 (H14.out.get 1 rfl)
  have ck0 := cell_bel k0
  have ck1 := cell_bel k1
  have ck2 := cell_bel k2
  have ck3 := cell_bel k3
  have cy0 := cell_bel y0
  have cy1 := cell_bel y1
  have cy2 := cell_bel y2
  have cy3 := cell_bel y3
  clear k0 k1 k2 k3 kz y0 y1 y2 y3 yz
  go_wp2
  refine wp_region_plan [some 2, none, none, some 1] (by kernel_rfl) (by kernel_rfl) ?_
  change wpQuiet _ _ _ _ [_, _] _
  repeat (go_big_quiet_step (fail))
  refine wpQuiet_nil ?_
  change wpList _ _ _ [_] _ _
  have H15 := Lib.hid (H14.out.drew)
  clear  H14
  go_wp2_with fail
  refine (toKernel_c x0 _ _ (HX.out.below H15.out.below) HL.out).mono ?_
  rintro e W16 ⟨ta, tb, tc, td, ts, tl, rfl, hB⟩
  have HLB := Lib.hid (bdrew (bref _) hB.below)
  have hK := H15.out.addB hB (by intro q hq; simp only [List.mem_cons, List.mem_nil_iff, or_false] at hq; rcases hq with rfl | rfl | rfl | rfl | rfl | rfl <;> exact fun k hk => hk)
  have H17 := Lib.hid (hK)
  clear hB hK H15
  go_wp2
  refine ⟨⟨⟨_, HLB.out⟩, rfl⟩, ?_⟩
  change wpList _ _ _ [_] _ _
  go_wp2_with fail
  refine (eqKernel_c x0 _ _ _ (⟨_, _, _, _, rfl, H17.out.rdN 8 9 rfl rfl encI_len, H17.out.rd 10 rfl Info.enc_len, H17.out.rdE 11 12 rfl rfl, H17.out.rd 13 rfl Cac.enc_len⟩ : RdK _ _ _) (⟨_, _, _, _, rfl, H17.out.rdN 0 1 rfl rfl encI_len, H17.out.rd 2 rfl Info.enc_len, H17.out.rdE 3 4 rfl rfl, H17.out.rd 5 rfl Cac.enc_len⟩ : RdK _ _ _)).mono ?_
  rintro e W18 ⟨rfl, hb⟩
  have HLC := Lib.hid (bnext HLB.out hb)
  have H19 := Lib.hid (H17.out.call hb)
  clear hb H17
  go_wp2
  refine ⟨⟨⟨_, HLC.out⟩, rfl⟩, ?_⟩
  change wpQuiet _ _ _ _ [_] _
  repeat (go_big_quiet_step (fail))
  refine wpQuiet_nil ?_
  refine wpPlan_nil ?_
  (try dsimp only)
  clear ck0 ck1 ck2 ck3 cy0 cy1 cy2 cy3 HLB HLC
  have H20 := Lib.hid (((((((H19.out.rm 0).rm 0).rm 0).rm 0).rm 0).rm 0))
  clear  H19
  have H21 := Lib.hid (((((((H20.out.front 7 rfl).front 7 rfl).front 7 rfl).front 7 rfl).front 7 rfl).front 7 rfl))
  clear  H20
  obtain ⟨y0, y1, y2, y3, -, -, -, -, yz⟩ := blk4 (H21.out.get 7 rfl)
  go_wp2_with fail
  refine (markKernel_b x0 _ _ _ _ ys yl 1 H21.out (by omega) HFK.out).mono ?_
  rintro e W22 ⟨rfl, hb⟩
  rw [← HM.out]
  have H23 := Lib.hid (hb)
  clear hb y0 y1 y2 y3 yz H21
  go_wp2_with fail
  refine (eqIntS_c (reachK x0 en) (reachK x0 en) gv sv _ (H23.out.rd 6 rfl encI_len) (H23.out.rd 8 rfl encI_len)).mono ?_
  rintro e W24 ⟨rfl, hb⟩
  rw [decide_eq_true (rfl : (reachK x0 en) = (reachK x0 en))]
  have H25 := Lib.hid (H23.out.call hb)
  clear hb H23
  have H26 := Lib.hid ((H25.out.front 6 rfl))
  clear  H25
  go_wp2_with fail
  refine (markIntS_c (reachK x0 en) gv 1 _ _ (H26.out.get 0 rfl) (by omega) HRL.out).mono ?_
  rintro e W27 ⟨rfl, ho, hg, hn⟩
  rw [← HRN.out]
  have H28 := Lib.hid (H26.out.marked ho hg hn)
  clear ho hg hn H26
  go_wp2_with fail
  refine (heldIntS_c (reachK x0 en).length gv 1 _ (H28.out.rd 0 rfl encI_len) (by omega) HRL.out).mono ?_
  rintro e W29 ⟨rfl, rfl⟩
  rw [← HRN.out]
  obtain ⟨k0, k1, k2, k3, -, -, -, -, kz⟩ := blk4 (H28.out.get 9 rfl)
  go_wp2_with fail
  refine (toKernel_c x0 _ _ (HX.out.below H28.out.below) HL.out).mono ?_
  rintro e W30 ⟨ta, tb, tc, td, ts, tl, rfl, hB⟩
  have hK := H28.out.addB hB (by intro q hq; simp only [List.mem_cons, List.mem_nil_iff, or_false] at hq; rcases hq with rfl | rfl | rfl | rfl | rfl | rfl <;> exact fun k hk => hk)
  obtain ⟨⟨ta1, ta2, ta3⟩, rfl⟩ := (hK.rd 0 rfl encL_len).sl
  obtain ⟨⟨tb1, tb2, tb3⟩, rfl⟩ := (hK.rd 2 rfl Info.enc_len).sl
  obtain ⟨⟨tc1, tc2, tc3⟩, rfl⟩ := (hK.rd 3 rfl encE_len).sl
  obtain ⟨⟨td1, td2, td3⟩, rfl⟩ := (hK.rd 5 rfl Cac.enc_len).sl
  simp only [slv] at hK ⊢
  have H31 := Lib.hid (hK)
  clear hB hK k0 k1 k2 k3 kz H28
  go_wp2_with fail
  refine (implKernelReach_c x0 _ en _ (⟨_, _, _, _, rfl, H31.out.rdN 0 1 rfl rfl encI_len, H31.out.rd 2 rfl Info.enc_len, H31.out.rdE 3 4 rfl rfl, H31.out.rd 5 rfl Cac.enc_len⟩ : RdK _ _ _) HF.out HE.out).mono ?_
  rintro e W32 ⟨hv, rfl, ho, hb⟩
  have H33 := Lib.hid (H31.out.addT ho hb)
  clear ho hb H31
  have H34 := Lib.hid (((((((H33.out.rm 1).rm 1).rm 1).rm 1).rm 1).rm 1))
  clear  H33
  go_wp2_with fail
  refine (eqIntS_c (reachK x0 en) (reachK x0 en) hv sv _ (H34.out.rd 0 rfl encI_len) (H34.out.rd 9 rfl encI_len)).mono ?_
  rintro e W35 ⟨rfl, hb⟩
  rw [decide_eq_true (rfl : (reachK x0 en) = (reachK x0 en))]
  have H36 := Lib.hid (H34.out.call hb)
  clear hb H34
  go_wp2_with fail
  refine (heldIntS_c (reachK x0 en).length gv 1 _ (H36.out.rd 1 rfl encI_len) (by omega) HRL.out).mono ?_
  rintro e W37 ⟨rfl, rfl⟩
  rw [← HRN.out]
  go_wp2
  go_ret
  exact ⟨rfl, H36.out.below⟩

set_option maxRecDepth 100000 in
theorem fnExactKernelReach_l (os : Os) (started : os.Started) (H : Type) (enc : TypeId × Value → H) :
    ReturnsInHanded {} Tryz.checked os 5 .any (fun w args => (Rows.fnExactKernelReachSpec.pre enc Tryz.prog Tryz.f5 [] false w args ∧ laidMetH Tryz.prog Rows.fnExactKernelReachRow.laid w) ∧ sizedMet enc Tryz.prog Tryz.f5 (OpenSpec.ofChange Rows.fnExactKernelReachSpec) false w args)
      (Rows.fnExactKernelReachSpec.post enc Tryz.prog Tryz.f5 false true false false) := by
  refine returnsInHanded_of_change_and (C := Tryz.checked) (X := fun w _ => laidMetH Tryz.prog Rows.fnExactKernelReachRow.laid w) (fun _ _ _ hh h => h.of_heap hh) own started (by kernel_rfl) Tryz.func5
    (ChangeSpec.witness_shaped (enc := enc) (C := Tryz.checked) (os := os) (X := fun w _ => laidMetH Tryz.prog Rows.fnExactKernelReachRow.laid w) false (World.laidAll Tryz.prog os Rows.fnExactKernelReachRow.laid) #[.agg #[.slice none 0 0, .slice none 0 0, .slice none 0 0, .slice none 0 0], .int .i64 0] 8 (World.laidAll_os _ _ _)
      (World.shaped_of_ZipB (by kernel_rfl) (by kernel_rfl)) (by kernel_rfl) (by kernel_rfl) (by kernel_rfl)
      (by rw [MakeChecks.laidMetH_plain _ _ _ (by kernel_rfl)]; exact laidMet_laidAll _ (by kernel_rfl) (by kernel_rfl))) ?_
  intro W base args ds gs before hval0 hW _ _ _ _
  have hval : ∀ (j : Nat) t v, Tryz.f5.params[j]? = some t → args[j]? = some v → Value.okWide Tryz.prog W .any base t v := hval0
  have hW' := hW
  obtain ⟨p, q, hA0, hV, rfl, _, _⟩ := hW
  have hA : DataW.TrodAll enc Tryz.prog W 0 (fun _ => true) true Tryz.f5.params.toList args.toList ds p := hA0
  rw [Tryz.params5] at hA hval
  obtain ⟨v0, vs0, d0, ds0, p0, q0, hargs, rfl, rfl, h0, r0⟩ := trodAll_cons hA
  obtain ⟨v1, vs1, d1, ds1, p1, q1, rfl, rfl, rfl, h1, r1⟩ := trodAll_cons r0
  obtain ⟨rfl, rfl, rfl⟩ := trodAll_nil r1
  obtain rfl : args = #[v0, v1] := by cases args; simp_all
  obtain ⟨rfl, rfl⟩ := trodVars_none hV
  clear hA0 hval0
  simp only [List.append_nil] at hW'
  have hl0 : ∀ x ∈ p0, x.block < W.heap.size := fun x hx => by simpa using hW'.lt x (by simp [hx])
  have hl1 : ∀ x ∈ p1, x.block < W.heap.size := fun x hx => by simpa using hW'.lt x (by simp [hx])
  obtain ⟨x0, hx0⟩ := openKernel (hval 0 27 v0 rfl rfl) h0
  obtain ⟨x1, hv1⟩ := openInt (hval 1 3 v1 rfl rfl) h1
  subst hv1
  refine (fnExactKernelReach_w x0 v0 x1 W hx0 ).mono fun e W' ⟨he, hb⟩ => ?_
  subst he
  refine ⟨_, rfl, _, _, _, [], p0 ++ p1, [], hW', trodAll_cons_mk (shut_bool Tryz.underlying4 _) trodAll_mk0, ?_, rfl, hb.frame _, fun h => by cases h⟩
  have hk := trodAll_cons_mk (Below.trod laidOut (by kernel_rfl) (of_decide_eq_true (by kernel_rfl)) h0 hb hl0) (trodAll_cons_mk (Below.trod laidOut (by kernel_rfl) (of_decide_eq_true (by kernel_rfl)) h1 hb hl1) (trodAll_mk0))
  simp only [List.append_nil] at hk
  exact hk

theorem fnExactKernelReach_row : Rows.FnExactKernelReachSaid :=
  OpenClaim.holds_of_wide 5 Tryz.f5 rfl rfl rfl rfl rfl rfl rfl ⟨rfl, rfl, rfl, rfl, rfl⟩ rfl rfl rfl rfl rfl (by kernel_rfl) Tryz.func5 (by kernel_rfl)
    (of_decide_eq_true (by kernel_rfl)) (by unfold Func.isWrapper; first | (rw [if_pos (by decide +kernel)]; kernel_rfl) | (rw [if_neg (by decide +kernel)]; exact ⟨rfl, rfl⟩))
    (fun os started H enc _ => fnExactKernelReach_l os started H enc)

theorem fnExactKernelReach_holds : Rows.FnExactKernelReachCardSaid :=
  Claim7.holds_tied_plain_at .later [] [.data, .pinned] true Rows.fnExactKernelReachCard.stood.harness false fnExactKernelReach_row (fun _ h => by cases h) (by kernel_rfl) (fun _ h => by cases h) fnExactKernelReach_row_tie rfl ⟨rfl, rfl⟩ (by kernel_rfl) rfl
    (fun f fn hf hfn => by
      obtain rfl : f = 5 := Option.some.inj ((show Tryz.prog.funcNamed "loop.example/exopager/laws.FnExactKernelReach" = some 5 by kernel_rfl).symm.trans hf) |>.symm
      obtain rfl : fn = Tryz.f5 := (Option.some.inj (Tryz.func5.symm.trans hfn)).symm
      exact ⟨by kernel_rfl, fun j t ht => by
        rw [Tryz.params5] at ht
        have hm : t ∈ [27, 3] := by simpa using Array.mem_of_getElem? ht
        have hall : ([27, 3].all fun u => !Tryz.prog.wantsStandIn u) = true := by kernel_rfl
        exact (show Tryz.prog.wantsStandIn t = false by simpa using List.all_eq_true.1 hall t hm)⟩)
    (by kernel_rfl)

end Go.Proofs.YtojknkpjnchchaaGreatDoor
