/- FnKernelNew returns true for all codes. No conditions. -/
import Derived.Test.YtojknkpjnchchaaGreatDoorKeyD
import Derived.Test.YtojknkpjnchchaaGreatDoorKeyE
import Derived.Test.YtojknkpjnchchaaGreatDoorKerJ
import Derived.Test.YtojknkpjnchchaaGreatDoorInfoF
import Derived.Test.YtojknkpjnchchaaGreatDoorAddB
import Derived.Test.YtojknkpjnchchaaGreatDoorGOpen
import Derived.Test.YtojknkpjnchchaaGreatDoorTie
import Derived.Test.YtojknkpjnchchaaGreatDoorCards
import Derived.Lay
import Derived.LaidOnce
import Derived.SevenTiedAt
namespace Go.Proofs.YtojknkpjnchchaaGreatDoor
open Go.BigFrame Go.ChangeShapes Go.WideShapes Go.ChangeAt Go.RowKit
set_option linter.all false
set_option maxRecDepth 100000
attribute [local go_sem ↓] Go.wp_at_zero Go.wp_at_succ

set_option maxRecDepth 100000 in
set_option maxHeartbeats 16000000 in
theorem fnKernelNew_w (bs : List Int) (v : Value) (w : World) (hx : RdB w v bs) (hbs : ∀ b ∈ bs, 0 ≤ b ∧ b ≤ 255) :
    Calls Tryz.prog 6 #[v] w fun e w' => e = .returned (.bool true) ∧ Below w.heap.size w w' := by
  have hx' := Lib.hid hx
  have HBS := Lib.hid hbs
  clear hbs
  obtain ⟨a, c, rfl, h1, h2, -, -⟩ := hx
  unfold maxLen at h2
  by_cases hlbs : bs.length ≤ 1048576
  rotate_left
  · go_enter Tryz.func6, Tryz.ntmps6
    go_wp2
    go_ret
    exact ⟨rfl, bref _⟩
  go_enter Tryz.func6, Tryz.ntmps6
  go_wp2_with fail
  refine (drawKernelNew_b hx'.out HBS.out).mono ?_
  rintro e W1 ⟨u, xss, ss, rfl, hl5, hsh, hB⟩
  obtain ⟨⟨ua, un, uc⟩, rfl⟩ := (hB.rd 0 rfl encL_len).sl
  simp only [slv] at hB ⊢
  have H1 := Lib.hid hB
  have HFS := Lib.hid (show ∀ xs ∈ xss, fitS xs from fun xs hx => (hsh xs hx).2.fit)
  have HNL := Lib.hid (show xss.length ≤ 1048576 by omega)
  clear hB hsh hl5
  cases hnb : newB xss
  · have HNB := Lib.hid hnb
    clear hnb
    go_wp2_with fail
    refine (implKernelNew_c xss _ _ (H1.out.rdN 0 1 rfl rfl encS_len) HFS.out).mono ?_
    rintro e W2 ⟨pa, pb, pc, pd, ps, pl, rfl, hB⟩
    rw [HNB.out]
    have hK := H1.out.addB hB (by intro q hq; simp only [List.mem_cons, List.mem_nil_iff, or_false] at hq; rcases hq with rfl | rfl | rfl | rfl | rfl | rfl <;> exact fun k hk => hk)
    obtain ⟨⟨pa1, pa2, pa3⟩, rfl⟩ := (hK.rd 0 rfl encL_len).sl
    obtain ⟨⟨pb1, pb2, pb3⟩, rfl⟩ := (hK.rd 2 rfl Info.enc_len).sl
    obtain ⟨⟨pc1, pc2, pc3⟩, rfl⟩ := (hK.rd 3 rfl encE_len).sl
    obtain ⟨⟨pd1, pd2, pd3⟩, rfl⟩ := (hK.rd 5 rfl Cac.enc_len).sl
    simp only [slv] at hK ⊢
    have H3 := Lib.hid (hK)
    clear hB hK H1
    have H4 := Lib.hid (H3.out.alloc (.cells #[.slice pa1 pa2 pa3, .slice pb1 pb2 pb3, .slice pc1 pc2 pc3, .slice pd1 pd2 pd3] 34))
    clear  H3
    go_wp2_with fail
    refine (specKernelNew_c xss _ _ (H4.out.rdN 7 8 rfl rfl encS_len) HFS.out HNL.out).mono ?_
    rintro e W5 ⟨ra, rb, rc, rd, rs, rl, rfl, hB⟩
    rw [HNB.out]
    have hK := H4.out.addB hB (by intro q hq; simp only [List.mem_cons, List.mem_nil_iff, or_false] at hq; rcases hq with rfl | rfl | rfl | rfl | rfl | rfl <;> exact fun k hk => hk)
    obtain ⟨⟨ra1, ra2, ra3⟩, rfl⟩ := (hK.rd 0 rfl encL_len).sl
    obtain ⟨⟨rb1, rb2, rb3⟩, rfl⟩ := (hK.rd 2 rfl Info.enc_len).sl
    obtain ⟨⟨rc1, rc2, rc3⟩, rfl⟩ := (hK.rd 3 rfl encE_len).sl
    obtain ⟨⟨rd1, rd2, rd3⟩, rfl⟩ := (hK.rd 5 rfl Cac.enc_len).sl
    simp only [slv] at hK ⊢
    have H6 := Lib.hid (hK)
    clear hB hK H4
    have H7 := Lib.hid (H6.out.alloc (.cells #[.slice ra1 ra2 ra3, .slice rb1 rb2 rb3, .slice rc1 rc2 rc3, .slice rd1 rd2 rd3] 34))
    clear  H6
    obtain ⟨p0, p1, p2, p3, -, -, -, -, pz⟩ := blk4 (H7.out.get 7 rfl)
    obtain ⟨r0, r1, r2, r3, -, -, -, -, rz⟩ := blk4 (H7.out.get 0 rfl)
    go_wp2_with fail
    refine (sameKernel_c (newK xss) _ _ _ (⟨_, _, _, _, rfl, H7.out.rdN 8 9 rfl rfl encI_len, H7.out.rd 10 rfl Info.enc_len, H7.out.rdE 11 12 rfl rfl, H7.out.rd 13 rfl Cac.enc_len⟩ : RdK _ _ _) (⟨_, _, _, _, rfl, H7.out.rdN 1 2 rfl rfl encI_len, H7.out.rd 3 rfl Info.enc_len, H7.out.rdE 4 5 rfl rfl, H7.out.rd 6 rfl Cac.enc_len⟩ : RdK _ _ _) (newK_ca xss)).mono ?_
    rintro e W8 ⟨rfl, hb⟩
    have H9 := Lib.hid (H7.out.call hb)
    clear hb p0 p1 p2 p3 pz r0 r1 r2 r3 rz H7
    obtain ⟨p0, p1, p2, p3, -, -, -, -, pz⟩ := blk4 (H9.out.get 7 rfl)
    obtain ⟨r0, r1, r2, r3, -, -, -, -, rz⟩ := blk4 (H9.out.get 0 rfl)
    go_wp2_with fail
    refine (sameKernel_c (newK xss) _ _ _ (⟨_, _, _, _, rfl, H9.out.rdN 8 9 rfl rfl encI_len, H9.out.rd 10 rfl Info.enc_len, H9.out.rdE 11 12 rfl rfl, H9.out.rd 13 rfl Cac.enc_len⟩ : RdK _ _ _) (⟨_, _, _, _, rfl, H9.out.rdN 1 2 rfl rfl encI_len, H9.out.rd 3 rfl Info.enc_len, H9.out.rdE 4 5 rfl rfl, H9.out.rd 6 rfl Cac.enc_len⟩ : RdK _ _ _) (newK_ca xss)).mono ?_
    rintro e W10 ⟨rfl, hb⟩
    have H11 := Lib.hid (H9.out.call hb)
    clear hb p0 p1 p2 p3 pz r0 r1 r2 r3 rz H9
    go_wp2
    go_ret
    exact ⟨rfl, H11.out.below⟩
  have HNB := Lib.hid hnb
  have HKV := Lib.hid (newK_valid hnb)
  have HKF := Lib.hid (newK_free hnb)
  have HX3 := Lib.hid (show xss.length = 3 by simp only [newB, Bool.and_eq_true, decide_eq_true_eq] at hnb; exact hnb.1)
  have HEN := Lib.hid (show (newK xss).env = envsOf xss by simp [newK, hnb])
  have HFI := Lib.hid (newK_fit xss HFS.out)
  clear hnb
  go_wp2_with fail
  refine (implKernelNew_c xss _ _ (H1.out.rdN 0 1 rfl rfl encS_len) HFS.out).mono ?_
  rintro e W2 ⟨pa, pb, pc, pd, ps, pl, rfl, hB⟩
  rw [HNB.out]
  have hK := H1.out.addB hB (by intro q hq; simp only [List.mem_cons, List.mem_nil_iff, or_false] at hq; rcases hq with rfl | rfl | rfl | rfl | rfl | rfl <;> exact fun k hk => hk)
  obtain ⟨⟨pa1, pa2, pa3⟩, rfl⟩ := (hK.rd 0 rfl encL_len).sl
  obtain ⟨⟨pb1, pb2, pb3⟩, rfl⟩ := (hK.rd 2 rfl Info.enc_len).sl
  obtain ⟨⟨pc1, pc2, pc3⟩, rfl⟩ := (hK.rd 3 rfl encE_len).sl
  obtain ⟨⟨pd1, pd2, pd3⟩, rfl⟩ := (hK.rd 5 rfl Cac.enc_len).sl
  simp only [slv] at hK ⊢
  have H3 := Lib.hid (hK)
  clear hB hK H1
  have H4 := Lib.hid (H3.out.alloc (.cells #[.slice pa1 pa2 pa3, .slice pb1 pb2 pb3, .slice pc1 pc2 pc3, .slice pd1 pd2 pd3] 34))
  clear  H3
  go_wp2_with fail
  refine (specKernelNew_c xss _ _ (H4.out.rdN 7 8 rfl rfl encS_len) HFS.out HNL.out).mono ?_
  rintro e W5 ⟨ra, rb, rc, rd, rs, rl, rfl, hB⟩
  rw [HNB.out]
  have hK := H4.out.addB hB (by intro q hq; simp only [List.mem_cons, List.mem_nil_iff, or_false] at hq; rcases hq with rfl | rfl | rfl | rfl | rfl | rfl <;> exact fun k hk => hk)
  obtain ⟨⟨ra1, ra2, ra3⟩, rfl⟩ := (hK.rd 0 rfl encL_len).sl
  obtain ⟨⟨rb1, rb2, rb3⟩, rfl⟩ := (hK.rd 2 rfl Info.enc_len).sl
  obtain ⟨⟨rc1, rc2, rc3⟩, rfl⟩ := (hK.rd 3 rfl encE_len).sl
  obtain ⟨⟨rd1, rd2, rd3⟩, rfl⟩ := (hK.rd 5 rfl Cac.enc_len).sl
  simp only [slv] at hK ⊢
  have H6 := Lib.hid (hK)
  clear hB hK H4
  have H7 := Lib.hid (H6.out.alloc (.cells #[.slice ra1 ra2 ra3, .slice rb1 rb2 rb3, .slice rc1 rc2 rc3, .slice rd1 rd2 rd3] 34))
  clear  H6
  obtain ⟨p0, p1, p2, p3, -, -, -, -, pz⟩ := blk4 (H7.out.get 7 rfl)
  obtain ⟨r0, r1, r2, r3, -, -, -, -, rz⟩ := blk4 (H7.out.get 0 rfl)
  go_wp2_with fail
  refine (sameKernel_c (newK xss) _ _ _ (⟨_, _, _, _, rfl, H7.out.rdN 8 9 rfl rfl encI_len, H7.out.rd 10 rfl Info.enc_len, H7.out.rdE 11 12 rfl rfl, H7.out.rd 13 rfl Cac.enc_len⟩ : RdK _ _ _) (⟨_, _, _, _, rfl, H7.out.rdN 1 2 rfl rfl encI_len, H7.out.rd 3 rfl Info.enc_len, H7.out.rdE 4 5 rfl rfl, H7.out.rd 6 rfl Cac.enc_len⟩ : RdK _ _ _) (newK_ca xss)).mono ?_
  rintro e W8 ⟨rfl, hb⟩
  have H9 := Lib.hid (H7.out.call hb)
  clear hb p0 p1 p2 p3 pz r0 r1 r2 r3 rz H7
  have H10 := Lib.hid ((((((((H9.out.rm 0).rm 0).rm 0).rm 0).rm 0).rm 0).rm 0))
  clear  H9
  have hul : ss.length = 3 := (show InO encS 1 9 0 _ _ ss xss from H10.out.get 8 rfl).len.trans HX3.out
  have hel : (newK xss).env.length = 3 := by rw [HEN.out]; simp [envsOf, HX3.out]
  have hpl : pl.length = 3 := by have h9 := (show InO encS 1 9 0 _ _ pl ((newK xss).env.map (·.rg)) from H10.out.get 5 rfl).len; rw [List.length_map, hel] at h9; exact h9
  obtain ⟨s9, hs9⟩ : ∃ s, ss[0]? = some s := ⟨_, List.getElem?_eq_getElem (by omega)⟩
  obtain ⟨gu, cu, hvu, -, u3, u4, -, -, -⟩ := H10.out.at 7 rfl encL_len hs9
  simp only [Value.slice.injEq] at hvu
  obtain ⟨rfl, rfl, rfl⟩ := hvu
  obtain ⟨t9, ht9⟩ : ∃ s, pl[0]? = some s := ⟨_, List.getElem?_eq_getElem (by omega)⟩
  obtain ⟨x9, hx9⟩ : ∃ x, (newK xss).env[0]? = some x := ⟨_, List.getElem?_eq_getElem (by omega)⟩
  obtain ⟨gp, cp, hvp, -, q3, q4, -, -, -⟩ := H10.out.at 4 rfl encE_len (mkEs_get ht9 hx9)
  simp only [Value.slice.injEq] at hvp
  obtain ⟨rfl, hnp, rfl⟩ := hvp
  rw [mkEs_len (by rw [hpl, hel]), hel] at hnp q3
  subst hnp
  rw [hul] at u3
  obtain ⟨ad, cd, hvd, -, -, -, -⟩ := H10.out.rd 6 rfl Cac.enc_len
  simp only [Value.slice.injEq] at hvd
  obtain ⟨rfl, hnd, rfl⟩ := hvd
  rw [newK_ca] at hnd
  simp only [List.length_nil] at hnd
  subst hnd
  have HUL := Lib.hid hul
  have HEL := Lib.hid hel
  have HPL := Lib.hid hpl
  unfold maxLen at u4 q4
  have H99 := H10.out
  rw [hul] at H99
  rw [hul]
  have HH := Lib.hid H99
  clear H99 H10 hul hel hpl hs9 ht9 hx9 s9 t9 x9
  go_wp2
  go_loopw [8] (fun i wr => ∃ t : Nat, t ≤ 3 ∧ i = .int .i64 t ∧ Bun w none wr [Res.blk W2.heap.size (.cells #[.slice pa1 pa2 pa3, .slice pb1 pb2 pb3, .slice (some ⟨gp, 0, none⟩) 3 pc3, .slice pd1 0 pd3] 34), Res.row encL 1 41 (.slice pa1 pa2 pa3) ps, Res.rows encI 1 3 ps (newK xss).me, Res.row Info.enc 3 73 (.slice pb1 pb2 pb3) (newK xss).inf, rowE (.slice (some ⟨gp, 0, none⟩) 3 pc3) pl (newK xss).env, rowR pl (newK xss).env, Res.row Cac.enc 4 78 (.slice pd1 0 pd3) (newK xss).ca, Res.row encL 1 53 (.slice (some ⟨gu, 0, none⟩) 3 uc) ss, Res.rows encS 1 9 ss xss]) (fun i _ => 3 - (intOf i).toNat)
  case atStart => exact ⟨0, Nat.zero_le _, rfl, HH.out⟩
  case round =>
    obtain ⟨t, ht, rfl, hb⟩ := hrel
    have HB := Lib.hid hb
    clear hb
    obtain ⟨p0, p1, p2, p3, -, -, -, -, pz⟩ := blk4 (HB.out.get 0 rfl)
    by_cases hlt : t < 3
    · obtain ⟨xs, hxs⟩ : ∃ xs, xss[t]? = some xs := ⟨_, List.getElem?_eq_getElem (by have := HX3.out; omega)⟩
      have henv : (newK xss).env[t]? = some ⟨xs, -1⟩ := by rw [HEN.out]; unfold envsOf; rw [List.getElem?_map, hxs]; rfl
      obtain ⟨⟨sa, sn, sc⟩, hss⟩ : ∃ s, ss[t]? = some s := ⟨_, List.getElem?_eq_getElem (by have := HUL.out; omega)⟩
      obtain ⟨⟨ta, tn, tc⟩, hpt⟩ : ∃ s, pl[t]? = some s := ⟨_, List.getElem?_eq_getElem (by have := HPL.out; omega)⟩
      have hrs := ((show InO encS 1 9 0 _ _ ss xss from HB.out.get 8 rfl).row t _ xs hss hxs).rd encS_len
      have hrp := ((show InO encS 1 9 0 _ _ pl ((newK xss).env.map (·.rg)) from HB.out.get 5 rfl).row t _ xs hpt (by rw [List.getElem?_map, henv]; rfl)).rd encS_len
      obtain ⟨g1, c1, hv1, -, -, -, -, -, k1⟩ := HB.out.at 7 rfl encL_len hss
      simp only [Value.slice.injEq, Option.some.injEq, Addr.mk.injEq, and_true] at hv1
      obtain ⟨rfl, -, rfl⟩ := hv1
      obtain ⟨g2, c2, hv2, -, -, -, -, -, k2⟩ := HB.out.at 4 rfl encE_len (mkEs_get hpt henv)
      simp only [Value.slice.injEq, Option.some.injEq, Addr.mk.injEq, and_true] at hv2
      obtain ⟨rfl, -, rfl⟩ := hv2
      have e0 := k1 0 _ rfl
      have f0 := k2 0 _ rfl
      have f1 := k2 1 _ rfl
      simp only [Nat.add_zero, Nat.mul_one, slv] at e0 f0 f1 hrs hrp
      have y2 := cell_bel p2
      have z0 := cell_bel e0
      have x0 := cell_bel f0
      have x1 := cell_bel f1
      have HRS := Lib.hid hrs
      have HRP := Lib.hid hrp
      have ht0 : (0 : Int) ≤ (t : Int) := by omega
      have ht1 : (t : Int) < 3 := by omega
      clear k1 k2 hrs hrp hxs henv hss hpt e0 f0 f1 p0 p1 p2 p3 pz
      go_wp2
      refine wp_region_plan [some 10, none, some 10] (by kernel_rfl) (by kernel_rfl) ?_
      change wpQuiet _ _ _ _ [_, _, _, _, _, _, _, _, _, _] _
      repeat (go_big_quiet_step (fail))
      refine wpQuiet_nil ?_
      change wpList _ _ _ [_] _ _
      go_wp2_with fail
      refine (sameTexts_c xs xs _ _ _ (HRP.out.below (bref _).drew) (HRS.out.below (bref _).drew)).mono ?_
      rintro e w2 ⟨rfl, hb2⟩
      rw [decide_eq_true (rfl : xs = xs)]
      have HLL := Lib.hid (bdrew (bref _) hb2)
      have HB2 := Lib.hid (HB.out.call HLL.out)
      clear hb2
      go_wp2
      refine ⟨⟨⟨_, HLL.out⟩, rfl⟩, ?_⟩
      change wpQuiet _ _ _ _ [_, _, _, _, _, _, _, _, _, _] _
      repeat (go_big_quiet_step (fail))
      refine wpQuiet_nil ?_
      refine wpPlan_nil ?_
      (try dsimp only)
      go_wp2
      go_roundw
      case rel => first | exact ⟨t + 1, by omega, by go_num, HB2.out⟩ | ((repeat apply Exists.intro); exact ⟨⟨t + 1, by omega, by go_num, HB2.out⟩, rfl⟩)
      case measure => simp [intOf]; omega
    · obtain rfl : t = 3 := by omega
      go_wp2_with fail
      refine (implKernelValid_c (newK xss) _ _ (⟨_, _, _, _, rfl, HB.out.rdN 1 2 rfl rfl encI_len, HB.out.rd 3 rfl Info.enc_len, HB.out.rdE 4 5 rfl rfl, HB.out.rd 6 rfl Cac.enc_len⟩ : RdK _ _ _) HFI.out.1 HFI.out.2).mono ?_
      rintro e w2 ⟨rfl, hb2⟩
      rw [HKV.out]
      have HB2 := Lib.hid (HB.out.call hb2)
      clear hb2 p0 p1 p2 p3 pz
      obtain ⟨p0, p1, p2, p3, -, -, -, -, pz⟩ := blk4 (HB2.out.get 0 rfl)
      go_wp2_with fail
      refine (implInfosFree_c (newK xss).inf _ _ (HB2.out.rd 3 rfl Info.enc_len) HFI.out.1).mono ?_
      rintro e w3 ⟨rfl, hb3⟩
      rw [HKF.out]
      have HB3 := Lib.hid (HB2.out.call hb3)
      clear hb3 p0 p1 p2 p3 pz
      obtain ⟨p0, p1, p2, p3, -, -, -, -, pz⟩ := blk4 (HB3.out.get 0 rfl)
      go_wp2
      go_ret
      exact ⟨rfl, HB3.out.below⟩

set_option maxRecDepth 100000 in
theorem fnKernelNew_l (os : Os) (started : os.Started) (H : Type) (enc : TypeId × Value → H) :
    ReturnsInHanded {} Tryz.checked os 6 .any (fun w args => (Rows.fnKernelNewSpec.pre enc Tryz.prog Tryz.f6 [] false w args ∧ laidMetH Tryz.prog Rows.fnKernelNewRow.laid w) ∧ sizedMet enc Tryz.prog Tryz.f6 (OpenSpec.ofChange Rows.fnKernelNewSpec) false w args)
      (Rows.fnKernelNewSpec.post enc Tryz.prog Tryz.f6 false true false false) := by
  refine returnsInHanded_of_change_and (C := Tryz.checked) (X := fun w _ => laidMetH Tryz.prog Rows.fnKernelNewRow.laid w) (fun _ _ _ hh h => h.of_heap hh) own started (by kernel_rfl) Tryz.func6
    (ChangeSpec.witness_shaped (enc := enc) (C := Tryz.checked) (os := os) (X := fun w _ => laidMetH Tryz.prog Rows.fnKernelNewRow.laid w) false (World.laidAll Tryz.prog os Rows.fnKernelNewRow.laid) #[.slice none 0 0] 8 (World.laidAll_os _ _ _)
      (World.shaped_of_ZipB (by kernel_rfl) (by kernel_rfl)) (by kernel_rfl) (by kernel_rfl) (by kernel_rfl)
      (by rw [MakeChecks.laidMetH_plain _ _ _ (by kernel_rfl)]; exact laidMet_laidAll _ (by kernel_rfl) (by kernel_rfl))) ?_
  intro W base args ds gs before hval0 hW _ _ _ _
  have hval : ∀ (j : Nat) t v, Tryz.f6.params[j]? = some t → args[j]? = some v → Value.okWide Tryz.prog W .any base t v := hval0
  have hW' := hW
  obtain ⟨p, q, hA0, hV, rfl, _, _⟩ := hW
  have hA : DataW.TrodAll enc Tryz.prog W 0 (fun _ => true) true Tryz.f6.params.toList args.toList ds p := hA0
  rw [Tryz.params6] at hA hval
  obtain ⟨v0, vs0, d0, ds0, p0, q0, hargs, rfl, rfl, h0, r0⟩ := trodAll_cons hA
  obtain ⟨rfl, rfl, rfl⟩ := trodAll_nil r0
  obtain rfl : args = #[v0] := by cases args; simp_all
  obtain ⟨rfl, rfl⟩ := trodVars_none hV
  clear hA0 hval0
  simp only [List.append_nil] at hW'
  have hl0 : ∀ x ∈ p0, x.block < W.heap.size := fun x hx => by simpa using hW'.lt x (by simp [hx])
  obtain ⟨x0, hx0, hg0⟩ := openBytes (hval 0 47 v0 rfl rfl) h0
  refine (fnKernelNew_w x0 v0 W hx0 hg0).mono fun e W' ⟨he, hb⟩ => ?_
  subst he
  refine ⟨_, rfl, _, _, _, [], p0, [], hW', trodAll_cons_mk (shut_bool Tryz.underlying4 _) trodAll_mk0, ?_, rfl, hb.frame _, fun h => by cases h⟩
  have hk := trodAll_cons_mk (Below.trod laidOut (by kernel_rfl) (of_decide_eq_true (by kernel_rfl)) h0 hb hl0) (trodAll_mk0)
  simp only [List.append_nil] at hk
  exact hk

theorem fnKernelNew_row : Rows.FnKernelNewSaid :=
  OpenClaim.holds_of_wide 6 Tryz.f6 rfl rfl rfl rfl rfl rfl rfl ⟨rfl, rfl, rfl, rfl, rfl⟩ rfl rfl rfl rfl rfl (by kernel_rfl) Tryz.func6 (by kernel_rfl)
    (of_decide_eq_true (by kernel_rfl)) (by unfold Func.isWrapper; first | (rw [if_pos (by decide +kernel)]; kernel_rfl) | (rw [if_neg (by decide +kernel)]; exact ⟨rfl, rfl⟩))
    (fun os started H enc _ => fnKernelNew_l os started H enc)

theorem fnKernelNew_holds : Rows.FnKernelNewCardSaid :=
  Claim7.holds_tied_plain_at .later [] [.data, .pinned] true Rows.fnKernelNewCard.stood.harness false fnKernelNew_row (fun _ h => by cases h) (by kernel_rfl) (fun _ h => by cases h) fnKernelNew_row_tie rfl ⟨rfl, rfl⟩ (by kernel_rfl) rfl
    (fun f fn hf hfn => by
      obtain rfl : f = 6 := Option.some.inj ((show Tryz.prog.funcNamed "loop.example/exopager/laws.FnKernelNew" = some 6 by kernel_rfl).symm.trans hf) |>.symm
      obtain rfl : fn = Tryz.f6 := (Option.some.inj (Tryz.func6.symm.trans hfn)).symm
      exact ⟨by kernel_rfl, fun j t ht => by
        rw [Tryz.params6] at ht
        have hm : t ∈ [47] := by simpa using Array.mem_of_getElem? ht
        have hall : ([47].all fun u => !Tryz.prog.wantsStandIn u) = true := by kernel_rfl
        exact (show Tryz.prog.wantsStandIn t = false by simpa using List.all_eq_true.1 hall t hm)⟩)
    (by kernel_rfl)

end Go.Proofs.YtojknkpjnchchaaGreatDoor
