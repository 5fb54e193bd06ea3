/- KernelSees of the program and of the reference. No conditions but the readings of the arguments and the sizes of the texts. -/
import Derived.Test.YtojknkpjnchchaaGreatDoorKeyA
namespace Go.Proofs.YtojknkpjnchchaaGreatDoor
open Go.BigFrame Go.ChangeShapes Go.WideShapes Go.ChangeAt Go.RowKit
set_option linter.all false
set_option maxRecDepth 100000
attribute [local go_sem ↓] Go.wp_at_zero Go.wp_at_succ

theorem results_tmp2 {fn : Func} {t1 t2 : Tmp} (h : fn.results = #[.tmp t1, .tmp t2]) (tmps : Array Value) (P : Program) (w : World) :
    (results fn tmps).run P w = .ok (.tuple #[tmps.getD t1 undef, tmps.getD t2 undef]) w := by
  simp [results, h]
/-- Whether there is a word at an address, and the word. -/
def seeB (k : Kern) (en ad : Int) : Bool := validB k && (btw 0 en 2 && (btw 0 ad 63 && (decide (0 ≤ rootAt k.env en) && !(walkC k.me (rootAt k.env en) ad != 0))))
def seeV (k : Kern) (en ad : Int) : Int := if seeB k en ad then wordAt k.me (walkF k.me (rootAt k.env en) ad) (walkA k.me (rootAt k.env en) ad) else 0
theorem see_no {k : Kern} {en ad : Int} (h : seeB k en ad = false) : seeV k en ad = 0 := by simp [seeV, h]
theorem walk_in {m : List (List Int)} {r ad : Int} (h : walkC m r ad = 0) : (0 ≤ walkF m r ad ∧ walkF m r ad ≤ 11) ∧ (0 ≤ walkA m r ad ∧ walkA m r ad ≤ 3) := by
  have h2 := h
  unfold walkC at h2
  split at h2
  · split at h2
    · rename_i h4
      have h5 := ent_lt h4
      constructor
      · unfold walkF; rw [if_pos h]; exact h5
      · unfold walkA; rw [if_pos h]; omega
    · simp at h2
  · simp at h2

set_option maxHeartbeats 16000000 in
theorem implKernelSees_c (k : Kern) (v : Value) (en ad : Int) (w : World) (hx : RdK w v k) (hf : fitF k.inf) (hfe : fitE k.env) :
    Calls Tryz.prog 13 #[v, .int .i64 en, .int .i64 ad] w fun e w' => e = .returned (.tuple #[.int .i64 (seeV k en ad), .bool (seeB k en ad)]) ∧ Below w.heap.size w w' := by
  have X := Lib.hid hx
  obtain ⟨a, b, c, d, rfl, x1, x2, x3, x4⟩ := hx
  have X1 := Lib.hid x1
  have X3 := Lib.hid x3
  have HFF := Lib.hid hf
  have HFE := Lib.hid hfe
  have HB0 := Lib.hid ((Bun.refl w none).alloc (.cells #[a, b, c, d] 34))
  clear x1 x2 x3 x4 hf hfe
  cases hv : validB k
  · have HV := Lib.hid hv
    have HN := Lib.hid (show seeB k en ad = false by unfold seeB; rw [hv]; rfl)
    clear hv
    obtain ⟨z0, z1, z2, z3, -, -, -, -, zz⟩ := blk4 (HB0.out.get 0 rfl)
    go_enter Tryz.func13, Tryz.ntmps13
    go_wp2_with fail
    refine (implKernelValid_c k _ _ (X.out.below HB0.out.below) HFF.out HFE.out).mono ?_
    rintro e w1 ⟨rfl, hb⟩
    rw [HV.out]
    have HB1 := Lib.hid (HB0.out.call hb)
    clear hb z0 z1 z2 z3 zz
    obtain ⟨z0, z1, z2, z3, -, -, -, -, zz⟩ := blk4 (HB1.out.get 0 rfl)
    go_wp2
    ((try simp only [Exit.inBlock, Exit.then]); refine bodyPost_ret (results_tmp2 rfl _ _ _) rfl ?_)
    rw [HN.out, see_no HN.out]
    exact ⟨rfl, HB1.out.below⟩
  have HV := Lib.hid hv
  cases he : btw 0 en 2
  · have HE := Lib.hid he
    have HN := Lib.hid (show seeB k en ad = false by unfold seeB; rw [he]; simp)
    clear hv he
    obtain ⟨z0, z1, z2, z3, -, -, -, -, zz⟩ := blk4 (HB0.out.get 0 rfl)
    go_enter Tryz.func13, Tryz.ntmps13
    go_wp2_with fail
    refine (implKernelValid_c k _ _ (X.out.below HB0.out.below) HFF.out HFE.out).mono ?_
    rintro e w1 ⟨rfl, hb⟩
    rw [HV.out]
    have HB1 := Lib.hid (HB0.out.call hb)
    clear hb z0 z1 z2 z3 zz
    obtain ⟨z0, z1, z2, z3, -, -, -, -, zz⟩ := blk4 (HB1.out.get 0 rfl)
    go_wp2_with fail
    refine (isEnv_c en _).mono ?_
    rintro e w2 ⟨rfl, rfl⟩
    rw [HE.out]
    go_wp2
    ((try simp only [Exit.inBlock, Exit.then]); refine bodyPost_ret (results_tmp2 rfl _ _ _) rfl ?_)
    rw [HN.out, see_no HN.out]
    exact ⟨rfl, HB1.out.below⟩
  have HE := Lib.hid he
  cases hd : btw 0 ad 63
  · have HD := Lib.hid hd
    have HN := Lib.hid (show seeB k en ad = false by unfold seeB; rw [hd]; simp)
    clear hv he hd
    obtain ⟨z0, z1, z2, z3, -, -, -, -, zz⟩ := blk4 (HB0.out.get 0 rfl)
    go_enter Tryz.func13, Tryz.ntmps13
    go_wp2_with fail
    refine (implKernelValid_c k _ _ (X.out.below HB0.out.below) HFF.out HFE.out).mono ?_
    rintro e w1 ⟨rfl, hb⟩
    rw [HV.out]
    have HB1 := Lib.hid (HB0.out.call hb)
    clear hb z0 z1 z2 z3 zz
    obtain ⟨z0, z1, z2, z3, -, -, -, -, zz⟩ := blk4 (HB1.out.get 0 rfl)
    go_wp2_with fail
    refine (isEnv_c en _).mono ?_
    rintro e w2 ⟨rfl, rfl⟩
    rw [HE.out]
    go_wp2_with fail
    refine (isAddress_c ad _).mono ?_
    rintro e w2 ⟨rfl, rfl⟩
    rw [HD.out]
    go_wp2
    ((try simp only [Exit.inBlock, Exit.then]); refine bodyPost_ret (results_tmp2 rfl _ _ _) rfl ?_)
    rw [HN.out, see_no HN.out]
    exact ⟨rfl, HB1.out.below⟩
  have HD := Lib.hid hd
  obtain ⟨g0, -, -, hel, hea⟩ := valid_parts hv
  obtain ⟨q, x, rfl, hq3, hxq, hroot, hr0, hr1⟩ := rootAt_in hea hel (by simpa [btw] using he)
  have hq0 : (0 : Int) ≤ (q : Int) := by omega
  have hq1 : (q : Int) < 3 := by omega
  have G0 := Lib.hid g0
  obtain ⟨rows, ⟨ae, ce, rfl, e1, e2, -, e3⟩, hin, hrt⟩ := X3.out
  rw [(RdE.len hin).trans hel] at e1 HB0 X ⊢
  obtain ⟨s, hrow, -⟩ := getE hin hrt hxq
  obtain ⟨b5, o5, rfl, hbl5, hc5⟩ := e3 q _ hrow
  have D1 := Lib.hid (hc5 1 _ rfl)
  unfold maxLen at e2
  obtain ⟨r, hr⟩ : ∃ r, x.rt = r := ⟨_, rfl⟩
  rw [hr] at hroot D1 hr0 hr1
  have HSB := Lib.hid (show seeB k (q : Int) ad = (decide (0 ≤ r) && !(walkC k.me r ad != 0)) by unfold seeB; rw [hv, he, hd, hroot]; rfl)
  have HSV := Lib.hid (show seeV k (q : Int) ad = if seeB k (q : Int) ad then wordAt k.me (walkF k.me r ad) (walkA k.me r ad) else 0 by unfold seeV; rw [hroot])
  have HAD := Lib.hid (show 0 ≤ ad ∧ ad ≤ 63 by simpa [btw] using hd)
  clear hv he hd g0 hel hea hxq hroot e3 hin hrt hrow hc5 hr
  by_cases hneg : r < 0
  · have HN := Lib.hid (show seeB k (q : Int) ad = false by rw [HSB.out, decide_eq_false (by omega)]; rfl)
    obtain ⟨z0, z1, z2, z3, -, -, -, -, zz⟩ := blk4 (HB0.out.get 0 rfl)
    go_enter Tryz.func13, Tryz.ntmps13
    go_wp2_with fail
    refine (implKernelValid_c k _ _ (X.out.below HB0.out.below) HFF.out HFE.out).mono ?_
    rintro e w1 ⟨rfl, hb⟩
    rw [HV.out]
    have HB1 := Lib.hid (HB0.out.call hb)
    clear hb z0 z1 z2 z3 zz
    obtain ⟨z0, z1, z2, z3, -, -, -, -, zz⟩ := blk4 (HB1.out.get 0 rfl)
    have d1 := (HB1.out.below.cell (p := ⟨b5, o5 + q * 2 + 1, none⟩) hbl5).trans D1.out
    go_wp2_with fail
    refine (isEnv_c (q : Int) _).mono ?_
    rintro e w2 ⟨rfl, rfl⟩
    rw [HE.out]
    go_wp2_with fail
    refine (isAddress_c ad _).mono ?_
    rintro e w2 ⟨rfl, rfl⟩
    rw [HD.out]
    go_wp2
    ((try simp only [Exit.inBlock, Exit.then]); refine bodyPost_ret (results_tmp2 rfl _ _ _) rfl ?_)
    rw [HN.out, see_no HN.out]
    exact ⟨rfl, HB1.out.below⟩
  have hr00 : 0 ≤ r := by omega
  have HRR := Lib.hid (show 0 ≤ r ∧ r ≤ 11 from ⟨hr00, hr1⟩)
  obtain ⟨C, hC⟩ : ∃ C, C = walkC k.me r ad := ⟨_, rfl⟩
  obtain ⟨F, hF⟩ : ∃ C, C = walkF k.me r ad := ⟨_, rfl⟩
  obtain ⟨W, hW⟩ : ∃ C, C = walkW k.me r ad := ⟨_, rfl⟩
  obtain ⟨A, hA⟩ : ∃ C, C = walkA k.me r ad := ⟨_, rfl⟩
  have HC := Lib.hid hC
  have HF := Lib.hid hF
  have HA := Lib.hid hA
  have HW := Lib.hid hW
  rw [← hC, decide_eq_true hr00] at HSB
  rw [← hF, ← hA] at HSV
  clear hC hF hA hW hneg
  cases h0 : (C != 0)
  all_goals have H0 := Lib.hid h0
  all_goals
    obtain ⟨z0, z1, z2, z3, -, -, -, -, zz⟩ := blk4 (HB0.out.get 0 rfl)
    go_enter Tryz.func13, Tryz.ntmps13
    go_wp2_with fail
    refine (implKernelValid_c k _ _ (X.out.below HB0.out.below) HFF.out HFE.out).mono ?_
    rintro e w1 ⟨rfl, hb⟩
    rw [HV.out]
    have HB1 := Lib.hid (HB0.out.call hb)
    clear hb z0 z1 z2 z3 zz
    obtain ⟨z0, z1, z2, z3, -, -, -, -, zz⟩ := blk4 (HB1.out.get 0 rfl)
    have d1 := (HB1.out.below.cell (p := ⟨b5, o5 + q * 2 + 1, none⟩) hbl5).trans D1.out
    go_wp2_with fail
    refine (isEnv_c (q : Int) _).mono ?_
    rintro e w2 ⟨rfl, rfl⟩
    rw [HE.out]
    go_wp2_with fail
    refine (isAddress_c ad _).mono ?_
    rintro e w2 ⟨rfl, rfl⟩
    rw [HD.out]
    have y0 := cell_bel z0
    have y2 := cell_bel z2
    have y5 := cell_bel d1
    clear h0
    go_wp2
    refine wp_region_steps (by kernel_rfl) 16 (by kernel_rfl) ?_
    refine anyC_reads (by kernel_rfl) (fuel := 7) ⟨⟨_, (bref _).drew⟩, rfl⟩ 9 0 _ _ (by kernel_rfl) ?_
    change wpQuiet _ _ _ _ [_, _, _, _, _, _, _, _, _] _
    repeat (go_big_quiet_step (fail))
    refine wpQuiet_nil ?_
    refine anyC_two 9 13 (fuel := 6) ⟨⟨_, (bref _).drew⟩, rfl⟩ (by kernel_rfl) (by kernel_rfl) ?_ ?_
    · change wpList _ _ _ [_] _ _
      go_wp2_with fail
      refine (walk_c k.me r ad a _ (X1.out.below HB1.out.drew.below) G0.out HRR.out HAD.out).mono ?_
      rintro e w3 ⟨rfl, hb3⟩
      rw [← HC.out, ← HF.out, ← HA.out, ← HW.out]
      have HL3 := Lib.hid (bdrew (bref _) hb3)
      have H3 := Lib.hid (HB1.out.drew.call hb3)
      clear hb3 y0 y2 y5 z0 z1 z2 z3 zz d1
      go_wp2
      refine ⟨⟨⟨_, HL3.out⟩, rfl⟩, ?_⟩
      refine anyC_reads (by kernel_rfl) (fuel := 3) ⟨⟨_, HL3.out⟩, rfl⟩ 3 10 _ _ (by kernel_rfl) ?_
      change wpQuiet _ _ _ _ [_, _, _] _
      repeat (go_big_quiet_step (fail))
      refine wpQuiet_nil ?_
      refine anyC_one 13 (fuel := 2) ⟨⟨_, HL3.out⟩, rfl⟩ (by kernel_rfl) (by kernel_rfl) ?_
      change wpList _ _ _ [_] _ _
      go_wp2
      have h4 := H3.out.alloc (.cells #[.int .i64 0, .int .i64 0, .bool false] 80)
      have hl4 := bnext HL3.out (balloc w3 (.cells #[.int .i64 0, .int .i64 0, .bool false] 80))
      obtain ⟨w4, hw4⟩ : ∃ w4, w4 = w3.alloc (.cells #[.int .i64 0, .int .i64 0, .bool false] 80) := ⟨_, rfl⟩
      obtain ⟨B, hB⟩ : ∃ B, B = w3.heap.size := ⟨_, rfl⟩
      rw [← hw4, ← hB] at h4
      rw [← hw4] at hl4
      rw [← hw4, ← hB]
      have H4 := Lib.hid h4
      have HL4 := Lib.hid hl4
      have HB4 := Lib.hid (show w1.heap.size ≤ B by have := HL3.out.size; omega)
      clear h4 hl4 hw4 hB
      refine ⟨⟨⟨_, HL4.out⟩, rfl⟩, ?_⟩
      refine anyC_one 14 (fuel := 1) ⟨⟨_, HL4.out⟩, rfl⟩ (by kernel_rfl) (by kernel_rfl) ?_
      obtain ⟨p0, p1, p2, pf0, pf1, pf2, pz⟩ := blk3 (H4.out.get 0 rfl)
      have h6 := ((H4.out.put 0 (.int .i64 F)).put 1 (.int .i64 A)).put 2 (.bool W)
      have HL6 := Lib.hid (((HL4.out.setCell (p := ⟨B, 0, none⟩) HB4.out (.int .i64 F)).setCell (p := ⟨B, 1, none⟩) HB4.out (.int .i64 A)).setCell (p := ⟨B, 2, none⟩) HB4.out (.bool W))
      have H6 := Lib.hid h6
      clear h6
      change wpList _ _ _ [_] _ _
      go_wp2
      refine ⟨⟨⟨_, HL6.out⟩, rfl⟩, ?_⟩
      clear p0 p1 p2 pf0 pf1 pf2 pz
      refine anyC_reads (by kernel_rfl) (fuel := 0) ⟨⟨_, HL6.out⟩, rfl⟩ 1 15 _ _ (by kernel_rfl) ?_
      change wpQuiet _ _ _ _ [_] _
      repeat (go_big_quiet_step (fail))
      refine wpQuiet_nil ?_
      refine anyC_done (by kernel_rfl) ?_
      (try dsimp only)
      obtain ⟨w7, hw7⟩ : ∃ w7, w7 = ((w4.setCell ⟨B, 0, none⟩ (.int .i64 F)).setCell ⟨B, 1, none⟩ (.int .i64 A)).setCell ⟨B, 2, none⟩ (.bool W) := ⟨_, rfl⟩
      have h7 := H6.out
      rw [← hw7] at h7
      rw [← hw7]
      have H7 := Lib.hid h7
      clear H6 HL6 h7 hw7
      have h0' := H0.out
      first
        | (have HN := Lib.hid (show seeB k (q : Int) ad = false by rw [HSB.out, show (C != 0) = true from h0']; rfl)
           go_wp2
           ((try simp only [Exit.inBlock, Exit.then]); refine bodyPost_ret (results_tmp2 rfl _ _ _) rfl ?_)
           rw [HN.out, see_no HN.out]
           exact ⟨rfl, H7.out.below⟩)
        | (have hsb : seeB k (q : Int) ad = true := by rw [HSB.out, show (C != 0) = false from h0']; rfl
           have hc0 : walkC k.me r ad = 0 := by rw [← HC.out]; simpa [bne] using h0'
           have hwi := walk_in hc0
           rw [← HF.out, ← HA.out] at hwi
           obtain ⟨f, rfl⟩ := Int.eq_ofNat_of_zero_le hwi.1.1
           obtain ⟨j, rfl⟩ := Int.eq_ofNat_of_zero_le hwi.2.1
           have hf : f < 12 := by omega
           have hj : j < 4 := by omega
           obtain ⟨⟨mb, mo, msp⟩, cm, b2, o2, c2, hva, s1, s2, sp, hbl, hcr, s3, s4, hb2, hw0, -, -⟩ := RdN.word X1.out G0.out hf hj
           subst hva
           simp only at sp hbl hcr
           subst sp
           rw [hsb, if_pos rfl] at HSV
           have HSB2 := Lib.hid hsb
           have HV0 := Lib.hid HSV.out
           obtain ⟨p0, p1, p2, -, -, -, pz⟩ := blk3 (H7.out.get 0 rfl)
           obtain ⟨z0, z1, z2, z3, -, -, -, -, zz⟩ := blk4 (H7.out.get 1 rfl)
           have y0 := cell_bel z0
           have x0 := cell_bel p0
           have x1 := cell_bel p1
           have y3 := cell_bel ((H7.out.below.cell (p := ⟨mb, mo + f, none⟩) hbl).trans hcr)
           have y4 := cell_bel ((H7.out.below.cell (p := ⟨b2, o2 + j, none⟩) hb2).trans hw0)
           unfold maxLen at s2 s4
           have hf0 : (0 : Int) ≤ (f : Int) := by omega
           have hf1 : (f : Int) < 12 := by omega
           have hj0 : (0 : Int) ≤ (j : Int) := by omega
           have hj1 : (j : Int) < 4 := by omega
           clear hwi hc0 hcr hw0 z0 z1 z2 z3 zz p0 p1 p2 pz hsb
           go_wp2
           refine wp_region_bel (by kernel_rfl) (by kernel_rfl) ?_
           repeat (go_big_quiet_step (fail))
           refine wpQuiet_nil ?_
           rintro _ ⟨⟨wz, hbz⟩, rfl⟩
           have HBZ := Lib.hid (H7.out.call hbz)
           clear hbz
           (try dsimp only)
           go_wp2
           ((try simp only [Exit.inBlock, Exit.then]); refine bodyPost_ret (results_tmp2 rfl _ _ _) rfl ?_)
           rw [HV0.out, HSB2.out]
           exact ⟨rfl, HBZ.out.below⟩)
    · change wpList _ _ _ [_] _ _
      go_wp2
      have h4 := HB1.out.drew.alloc (.cells #[.int .i64 0, .int .i64 0, .bool false] 80)
      have hl4 : Below w1.heap.size w1 (w1.drew.alloc (.cells #[.int .i64 0, .int .i64 0, .bool false] 80)) := bnext (bref _).drew (balloc w1.drew _)
      obtain ⟨w4, hw4⟩ : ∃ w4, w4 = w1.drew.alloc (.cells #[.int .i64 0, .int .i64 0, .bool false] 80) := ⟨_, rfl⟩
      obtain ⟨B, hB⟩ : ∃ B, B = w1.heap.size := ⟨_, rfl⟩
      have hw4' : (w1.alloc (.cells #[.int .i64 0, .int .i64 0, .bool false] 80)).drew = w4 := hw4.symm
      rw [← hw4] at h4 hl4
      rw [show w1.drew.heap.size = B from hB.symm] at h4
      rw [hw4', ← hB]
      have H3 := Lib.hid h4
      have HL3 := Lib.hid hl4
      have HB4 := Lib.hid (show w1.heap.size ≤ B by omega)
      clear h4 hl4 hw4 hw4' hB
      refine ⟨⟨⟨_, HL3.out⟩, rfl⟩, ?_⟩
      refine anyC_one 9 (fuel := 5) ⟨⟨_, HL3.out⟩, rfl⟩ (by kernel_rfl) (by kernel_rfl) ?_
      change wpList _ _ _ [_] _ _
      go_wp2_with fail
      refine (walk_c k.me r ad a _ (X1.out.below H3.out.below) G0.out HRR.out HAD.out).mono ?_
      rintro e w3 ⟨rfl, hb3⟩
      rw [← HC.out, ← HF.out, ← HA.out, ← HW.out]
      have HL4 := Lib.hid (bnext HL3.out hb3)
      have H4 := Lib.hid (H3.out.call hb3)
      clear hb3 y0 y2 y5 z0 z1 z2 z3 zz d1 H3 HL3
      go_wp2
      refine ⟨⟨⟨_, HL4.out⟩, rfl⟩, ?_⟩
      refine anyC_reads (by kernel_rfl) (fuel := 2) ⟨⟨_, HL4.out⟩, rfl⟩ 3 10 _ _ (by kernel_rfl) ?_
      change wpQuiet _ _ _ _ [_, _, _] _
      repeat (go_big_quiet_step (fail))
      refine wpQuiet_nil ?_
      refine anyC_one 14 (fuel := 1) ⟨⟨_, HL4.out⟩, rfl⟩ (by kernel_rfl) (by kernel_rfl) ?_
      obtain ⟨p0, p1, p2, pf0, pf1, pf2, pz⟩ := blk3 (H4.out.get 0 rfl)
      have h6 := ((H4.out.put 0 (.int .i64 F)).put 1 (.int .i64 A)).put 2 (.bool W)
      have HL6 := Lib.hid (((HL4.out.setCell (p := ⟨B, 0, none⟩) HB4.out (.int .i64 F)).setCell (p := ⟨B, 1, none⟩) HB4.out (.int .i64 A)).setCell (p := ⟨B, 2, none⟩) HB4.out (.bool W))
      have H6 := Lib.hid h6
      clear h6
      change wpList _ _ _ [_] _ _
      go_wp2
      refine ⟨⟨⟨_, HL6.out⟩, rfl⟩, ?_⟩
      clear p0 p1 p2 pf0 pf1 pf2 pz
      refine anyC_reads (by kernel_rfl) (fuel := 0) ⟨⟨_, HL6.out⟩, rfl⟩ 1 15 _ _ (by kernel_rfl) ?_
      change wpQuiet _ _ _ _ [_] _
      repeat (go_big_quiet_step (fail))
      refine wpQuiet_nil ?_
      refine anyC_done (by kernel_rfl) ?_
      (try dsimp only)
      obtain ⟨w7, hw7⟩ : ∃ w7, w7 = ((w3.setCell ⟨B, 0, none⟩ (.int .i64 F)).setCell ⟨B, 1, none⟩ (.int .i64 A)).setCell ⟨B, 2, none⟩ (.bool W) := ⟨_, rfl⟩
      have h7 := H6.out
      rw [← hw7] at h7
      rw [← hw7]
      have H7 := Lib.hid h7
      clear H6 HL6 h7 hw7
      have h0' := H0.out
      first
        | (have HN := Lib.hid (show seeB k (q : Int) ad = false by rw [HSB.out, show (C != 0) = true from h0']; rfl)
           go_wp2
           ((try simp only [Exit.inBlock, Exit.then]); refine bodyPost_ret (results_tmp2 rfl _ _ _) rfl ?_)
           rw [HN.out, see_no HN.out]
           exact ⟨rfl, H7.out.below⟩)
        | (have hsb : seeB k (q : Int) ad = true := by rw [HSB.out, show (C != 0) = false from h0']; rfl
           have hc0 : walkC k.me r ad = 0 := by rw [← HC.out]; simpa [bne] using h0'
           have hwi := walk_in hc0
           rw [← HF.out, ← HA.out] at hwi
           obtain ⟨f, rfl⟩ := Int.eq_ofNat_of_zero_le hwi.1.1
           obtain ⟨j, rfl⟩ := Int.eq_ofNat_of_zero_le hwi.2.1
           have hf : f < 12 := by omega
           have hj : j < 4 := by omega
           obtain ⟨⟨mb, mo, msp⟩, cm, b2, o2, c2, hva, s1, s2, sp, hbl, hcr, s3, s4, hb2, hw0, -, -⟩ := RdN.word X1.out G0.out hf hj
           subst hva
           simp only at sp hbl hcr
           subst sp
           rw [hsb, if_pos rfl] at HSV
           have HSB2 := Lib.hid hsb
           have HV0 := Lib.hid HSV.out
           obtain ⟨p0, p1, p2, -, -, -, pz⟩ := blk3 (H7.out.get 0 rfl)
           obtain ⟨z0, z1, z2, z3, -, -, -, -, zz⟩ := blk4 (H7.out.get 1 rfl)
           have y0 := cell_bel z0
           have x0 := cell_bel p0
           have x1 := cell_bel p1
           have y3 := cell_bel ((H7.out.below.cell (p := ⟨mb, mo + f, none⟩) hbl).trans hcr)
           have y4 := cell_bel ((H7.out.below.cell (p := ⟨b2, o2 + j, none⟩) hb2).trans hw0)
           unfold maxLen at s2 s4
           have hf0 : (0 : Int) ≤ (f : Int) := by omega
           have hf1 : (f : Int) < 12 := by omega
           have hj0 : (0 : Int) ≤ (j : Int) := by omega
           have hj1 : (j : Int) < 4 := by omega
           clear hwi hc0 hcr hw0 z0 z1 z2 z3 zz p0 p1 p2 pz hsb
           go_wp2
           refine wp_region_bel (by kernel_rfl) (by kernel_rfl) ?_
           repeat (go_big_quiet_step (fail))
           refine wpQuiet_nil ?_
           rintro _ ⟨⟨wz, hbz⟩, rfl⟩
           have HBZ := Lib.hid (H7.out.call hbz)
           clear hbz
           (try dsimp only)
           go_wp2
           ((try simp only [Exit.inBlock, Exit.then]); refine bodyPost_ret (results_tmp2 rfl _ _ _) rfl ?_)
           rw [HV0.out, HSB2.out]
           exact ⟨rfl, HBZ.out.below⟩)

set_option maxHeartbeats 16000000 in
theorem specKernelSees_c (k : Kern) (v : Value) (en ad : Int) (w : World) (hx : RdK w v k) (hf : fitF k.inf) (hfe : fitE k.env) :
    Calls Tryz.prog 12 #[v, .int .i64 en, .int .i64 ad] w fun e w' => e = .returned (.tuple #[.int .i64 (seeV k en ad), .bool (seeB k en ad)]) ∧ Below w.heap.size w w' := by
  have X := Lib.hid hx
  obtain ⟨a, b, c, d, rfl, x1, x2, x3, x4⟩ := hx
  have X1 := Lib.hid x1
  have X3 := Lib.hid x3
  have HFF := Lib.hid hf
  have HFE := Lib.hid hfe
  have HB0 := Lib.hid ((Bun.refl w none).alloc (.cells #[a, b, c, d] 34))
  clear x1 x2 x3 x4 hf hfe
  cases hv : validB k
  · have HV := Lib.hid hv
    have HN := Lib.hid (show seeB k en ad = false by unfold seeB; rw [hv]; rfl)
    clear hv
    obtain ⟨z0, z1, z2, z3, -, -, -, -, zz⟩ := blk4 (HB0.out.get 0 rfl)
    go_enter Tryz.func12, Tryz.ntmps12
    go_wp2_with fail
    refine (specKernelValid_c k _ _ (X.out.below HB0.out.below) HFF.out HFE.out).mono ?_
    rintro e w1 ⟨rfl, hb⟩
    rw [HV.out]
    have HB1 := Lib.hid (HB0.out.call hb)
    clear hb z0 z1 z2 z3 zz
    obtain ⟨z0, z1, z2, z3, -, -, -, -, zz⟩ := blk4 (HB1.out.get 0 rfl)
    go_wp2
    ((try simp only [Exit.inBlock, Exit.then]); refine bodyPost_ret (results_tmp2 rfl _ _ _) rfl ?_)
    rw [HN.out, see_no HN.out]
    exact ⟨rfl, HB1.out.below⟩
  have HV := Lib.hid hv
  cases he : btw 0 en 2
  · have HE := Lib.hid he
    have HN := Lib.hid (show seeB k en ad = false by unfold seeB; rw [he]; simp)
    clear hv he
    obtain ⟨z0, z1, z2, z3, -, -, -, -, zz⟩ := blk4 (HB0.out.get 0 rfl)
    go_enter Tryz.func12, Tryz.ntmps12
    go_wp2_with fail
    refine (specKernelValid_c k _ _ (X.out.below HB0.out.below) HFF.out HFE.out).mono ?_
    rintro e w1 ⟨rfl, hb⟩
    rw [HV.out]
    have HB1 := Lib.hid (HB0.out.call hb)
    clear hb z0 z1 z2 z3 zz
    obtain ⟨z0, z1, z2, z3, -, -, -, -, zz⟩ := blk4 (HB1.out.get 0 rfl)
    go_wp2_with fail
    refine (l4Env_c en _).mono ?_
    rintro e w2 ⟨rfl, rfl⟩
    rw [HE.out]
    go_wp2
    ((try simp only [Exit.inBlock, Exit.then]); refine bodyPost_ret (results_tmp2 rfl _ _ _) rfl ?_)
    rw [HN.out, see_no HN.out]
    exact ⟨rfl, HB1.out.below⟩
  have HE := Lib.hid he
  cases hd : btw 0 ad 63
  · have HD := Lib.hid hd
    have HN := Lib.hid (show seeB k en ad = false by unfold seeB; rw [hd]; simp)
    clear hv he hd
    obtain ⟨z0, z1, z2, z3, -, -, -, -, zz⟩ := blk4 (HB0.out.get 0 rfl)
    go_enter Tryz.func12, Tryz.ntmps12
    go_wp2_with fail
    refine (specKernelValid_c k _ _ (X.out.below HB0.out.below) HFF.out HFE.out).mono ?_
    rintro e w1 ⟨rfl, hb⟩
    rw [HV.out]
    have HB1 := Lib.hid (HB0.out.call hb)
    clear hb z0 z1 z2 z3 zz
    obtain ⟨z0, z1, z2, z3, -, -, -, -, zz⟩ := blk4 (HB1.out.get 0 rfl)
    go_wp2_with fail
    refine (l4Env_c en _).mono ?_
    rintro e w2 ⟨rfl, rfl⟩
    rw [HE.out]
    go_wp2_with fail
    refine (l1Address_c ad _).mono ?_
    rintro e w2 ⟨rfl, rfl⟩
    rw [HD.out]
    go_wp2
    ((try simp only [Exit.inBlock, Exit.then]); refine bodyPost_ret (results_tmp2 rfl _ _ _) rfl ?_)
    rw [HN.out, see_no HN.out]
    exact ⟨rfl, HB1.out.below⟩
  have HD := Lib.hid hd
  obtain ⟨g0, -, -, hel, hea⟩ := valid_parts hv
  obtain ⟨q, x, rfl, hq3, hxq, hroot, hr0, hr1⟩ := rootAt_in hea hel (by simpa [btw] using he)
  have hq0 : (0 : Int) ≤ (q : Int) := by omega
  have hq1 : (q : Int) < 3 := by omega
  have G0 := Lib.hid g0
  obtain ⟨rows, ⟨ae, ce, rfl, e1, e2, -, e3⟩, hin, hrt⟩ := X3.out
  rw [(RdE.len hin).trans hel] at e1 HB0 X ⊢
  obtain ⟨s, hrow, -⟩ := getE hin hrt hxq
  obtain ⟨b5, o5, rfl, hbl5, hc5⟩ := e3 q _ hrow
  have D1 := Lib.hid (hc5 1 _ rfl)
  unfold maxLen at e2
  obtain ⟨r, hr⟩ : ∃ r, x.rt = r := ⟨_, rfl⟩
  rw [hr] at hroot D1 hr0 hr1
  have HSB := Lib.hid (show seeB k (q : Int) ad = (decide (0 ≤ r) && !(walkC k.me r ad != 0)) by unfold seeB; rw [hv, he, hd, hroot]; rfl)
  have HSV := Lib.hid (show seeV k (q : Int) ad = if seeB k (q : Int) ad then wordAt k.me (walkF k.me r ad) (walkA k.me r ad) else 0 by unfold seeV; rw [hroot])
  have HAD := Lib.hid (show 0 ≤ ad ∧ ad ≤ 63 by simpa [btw] using hd)
  clear hv he hd g0 hel hea hxq hroot e3 hin hrt hrow hc5 hr
  by_cases hneg : r < 0
  · have HN := Lib.hid (show seeB k (q : Int) ad = false by rw [HSB.out, decide_eq_false (by omega)]; rfl)
    obtain ⟨z0, z1, z2, z3, -, -, -, -, zz⟩ := blk4 (HB0.out.get 0 rfl)
    go_enter Tryz.func12, Tryz.ntmps12
    go_wp2_with fail
    refine (specKernelValid_c k _ _ (X.out.below HB0.out.below) HFF.out HFE.out).mono ?_
    rintro e w1 ⟨rfl, hb⟩
    rw [HV.out]
    have HB1 := Lib.hid (HB0.out.call hb)
    clear hb z0 z1 z2 z3 zz
    obtain ⟨z0, z1, z2, z3, -, -, -, -, zz⟩ := blk4 (HB1.out.get 0 rfl)
    have d1 := (HB1.out.below.cell (p := ⟨b5, o5 + q * 2 + 1, none⟩) hbl5).trans D1.out
    go_wp2_with fail
    refine (l4Env_c (q : Int) _).mono ?_
    rintro e w2 ⟨rfl, rfl⟩
    rw [HE.out]
    go_wp2_with fail
    refine (l1Address_c ad _).mono ?_
    rintro e w2 ⟨rfl, rfl⟩
    rw [HD.out]
    go_wp2
    ((try simp only [Exit.inBlock, Exit.then]); refine bodyPost_ret (results_tmp2 rfl _ _ _) rfl ?_)
    rw [HN.out, see_no HN.out]
    exact ⟨rfl, HB1.out.below⟩
  have hr00 : 0 ≤ r := by omega
  have HRR := Lib.hid (show 0 ≤ r ∧ r ≤ 11 from ⟨hr00, hr1⟩)
  obtain ⟨C, hC⟩ : ∃ C, C = walkC k.me r ad := ⟨_, rfl⟩
  obtain ⟨F, hF⟩ : ∃ C, C = walkF k.me r ad := ⟨_, rfl⟩
  obtain ⟨W, hW⟩ : ∃ C, C = walkW k.me r ad := ⟨_, rfl⟩
  obtain ⟨A, hA⟩ : ∃ C, C = walkA k.me r ad := ⟨_, rfl⟩
  have HC := Lib.hid hC
  have HF := Lib.hid hF
  have HA := Lib.hid hA
  have HW := Lib.hid hW
  rw [← hC, decide_eq_true hr00] at HSB
  rw [← hF, ← hA] at HSV
  clear hC hF hA hW hneg
  cases h0 : (C != 0)
  all_goals have H0 := Lib.hid h0
  all_goals
    obtain ⟨z0, z1, z2, z3, -, -, -, -, zz⟩ := blk4 (HB0.out.get 0 rfl)
    go_enter Tryz.func12, Tryz.ntmps12
    go_wp2_with fail
    refine (specKernelValid_c k _ _ (X.out.below HB0.out.below) HFF.out HFE.out).mono ?_
    rintro e w1 ⟨rfl, hb⟩
    rw [HV.out]
    have HB1 := Lib.hid (HB0.out.call hb)
    clear hb z0 z1 z2 z3 zz
    obtain ⟨z0, z1, z2, z3, -, -, -, -, zz⟩ := blk4 (HB1.out.get 0 rfl)
    have d1 := (HB1.out.below.cell (p := ⟨b5, o5 + q * 2 + 1, none⟩) hbl5).trans D1.out
    go_wp2_with fail
    refine (l4Env_c (q : Int) _).mono ?_
    rintro e w2 ⟨rfl, rfl⟩
    rw [HE.out]
    go_wp2_with fail
    refine (l1Address_c ad _).mono ?_
    rintro e w2 ⟨rfl, rfl⟩
    rw [HD.out]
    have y0 := cell_bel z0
    have y2 := cell_bel z2
    have y5 := cell_bel d1
    clear h0
    go_wp2
    refine wp_region_steps (by kernel_rfl) 16 (by kernel_rfl) ?_
    refine anyC_reads (by kernel_rfl) (fuel := 7) ⟨⟨_, (bref _).drew⟩, rfl⟩ 9 0 _ _ (by kernel_rfl) ?_
    change wpQuiet _ _ _ _ [_, _, _, _, _, _, _, _, _] _
    repeat (go_big_quiet_step (fail))
    refine wpQuiet_nil ?_
    refine anyC_two 9 13 (fuel := 6) ⟨⟨_, (bref _).drew⟩, rfl⟩ (by kernel_rfl) (by kernel_rfl) ?_ ?_
    · change wpList _ _ _ [_] _ _
      go_wp2_with fail
      refine (l3Walk_c k.me r ad a _ (X1.out.below HB1.out.drew.below) G0.out HRR.out HAD.out).mono ?_
      rintro e w3 ⟨rfl, hb3⟩
      rw [← HC.out, ← HF.out, ← HA.out, ← HW.out]
      have HL3 := Lib.hid (bdrew (bref _) hb3)
      have H3 := Lib.hid (HB1.out.drew.call hb3)
      clear hb3 y0 y2 y5 z0 z1 z2 z3 zz d1
      go_wp2
      refine ⟨⟨⟨_, HL3.out⟩, rfl⟩, ?_⟩
      refine anyC_reads (by kernel_rfl) (fuel := 3) ⟨⟨_, HL3.out⟩, rfl⟩ 3 10 _ _ (by kernel_rfl) ?_
      change wpQuiet _ _ _ _ [_, _, _] _
      repeat (go_big_quiet_step (fail))
      refine wpQuiet_nil ?_
      refine anyC_one 13 (fuel := 2) ⟨⟨_, HL3.out⟩, rfl⟩ (by kernel_rfl) (by kernel_rfl) ?_
      change wpList _ _ _ [_] _ _
      go_wp2
      have h4 := H3.out.alloc (.cells #[.int .i64 0, .int .i64 0, .bool false] 80)
      have hl4 := bnext HL3.out (balloc w3 (.cells #[.int .i64 0, .int .i64 0, .bool false] 80))
      obtain ⟨w4, hw4⟩ : ∃ w4, w4 = w3.alloc (.cells #[.int .i64 0, .int .i64 0, .bool false] 80) := ⟨_, rfl⟩
      obtain ⟨B, hB⟩ : ∃ B, B = w3.heap.size := ⟨_, rfl⟩
      rw [← hw4, ← hB] at h4
      rw [← hw4] at hl4
      rw [← hw4, ← hB]
      have H4 := Lib.hid h4
      have HL4 := Lib.hid hl4
      have HB4 := Lib.hid (show w1.heap.size ≤ B by have := HL3.out.size; omega)
      clear h4 hl4 hw4 hB
      refine ⟨⟨⟨_, HL4.out⟩, rfl⟩, ?_⟩
      refine anyC_one 14 (fuel := 1) ⟨⟨_, HL4.out⟩, rfl⟩ (by kernel_rfl) (by kernel_rfl) ?_
      obtain ⟨p0, p1, p2, pf0, pf1, pf2, pz⟩ := blk3 (H4.out.get 0 rfl)
      have h6 := ((H4.out.put 0 (.int .i64 F)).put 1 (.int .i64 A)).put 2 (.bool W)
      have HL6 := Lib.hid (((HL4.out.setCell (p := ⟨B, 0, none⟩) HB4.out (.int .i64 F)).setCell (p := ⟨B, 1, none⟩) HB4.out (.int .i64 A)).setCell (p := ⟨B, 2, none⟩) HB4.out (.bool W))
      have H6 := Lib.hid h6
      clear h6
      change wpList _ _ _ [_] _ _
      go_wp2
      refine ⟨⟨⟨_, HL6.out⟩, rfl⟩, ?_⟩
      clear p0 p1 p2 pf0 pf1 pf2 pz
      refine anyC_reads (by kernel_rfl) (fuel := 0) ⟨⟨_, HL6.out⟩, rfl⟩ 1 15 _ _ (by kernel_rfl) ?_
      change wpQuiet _ _ _ _ [_] _
      repeat (go_big_quiet_step (fail))
      refine wpQuiet_nil ?_
      refine anyC_done (by kernel_rfl) ?_
      (try dsimp only)
      obtain ⟨w7, hw7⟩ : ∃ w7, w7 = ((w4.setCell ⟨B, 0, none⟩ (.int .i64 F)).setCell ⟨B, 1, none⟩ (.int .i64 A)).setCell ⟨B, 2, none⟩ (.bool W) := ⟨_, rfl⟩
      have h7 := H6.out
      rw [← hw7] at h7
      rw [← hw7]
      have H7 := Lib.hid h7
      clear H6 HL6 h7 hw7
      have h0' := H0.out
      first
        | (have HN := Lib.hid (show seeB k (q : Int) ad = false by rw [HSB.out, show (C != 0) = true from h0']; rfl)
           go_wp2
           ((try simp only [Exit.inBlock, Exit.then]); refine bodyPost_ret (results_tmp2 rfl _ _ _) rfl ?_)
           rw [HN.out, see_no HN.out]
           exact ⟨rfl, H7.out.below⟩)
        | (have hsb : seeB k (q : Int) ad = true := by rw [HSB.out, show (C != 0) = false from h0']; rfl
           have hc0 : walkC k.me r ad = 0 := by rw [← HC.out]; simpa [bne] using h0'
           have hwi := walk_in hc0
           rw [← HF.out, ← HA.out] at hwi
           obtain ⟨f, rfl⟩ := Int.eq_ofNat_of_zero_le hwi.1.1
           obtain ⟨j, rfl⟩ := Int.eq_ofNat_of_zero_le hwi.2.1
           have hf : f < 12 := by omega
           have hj : j < 4 := by omega
           obtain ⟨⟨mb, mo, msp⟩, cm, b2, o2, c2, hva, s1, s2, sp, hbl, hcr, s3, s4, hb2, hw0, -, -⟩ := RdN.word X1.out G0.out hf hj
           subst hva
           simp only at sp hbl hcr
           subst sp
           rw [hsb, if_pos rfl] at HSV
           have HSB2 := Lib.hid hsb
           have HV0 := Lib.hid HSV.out
           obtain ⟨p0, p1, p2, -, -, -, pz⟩ := blk3 (H7.out.get 0 rfl)
           obtain ⟨z0, z1, z2, z3, -, -, -, -, zz⟩ := blk4 (H7.out.get 1 rfl)
           have y0 := cell_bel z0
           have x0 := cell_bel p0
           have x1 := cell_bel p1
           have y3 := cell_bel ((H7.out.below.cell (p := ⟨mb, mo + f, none⟩) hbl).trans hcr)
           have y4 := cell_bel ((H7.out.below.cell (p := ⟨b2, o2 + j, none⟩) hb2).trans hw0)
           unfold maxLen at s2 s4
           have hf0 : (0 : Int) ≤ (f : Int) := by omega
           have hf1 : (f : Int) < 12 := by omega
           have hj0 : (0 : Int) ≤ (j : Int) := by omega
           have hj1 : (j : Int) < 4 := by omega
           clear hwi hc0 hcr hw0 z0 z1 z2 z3 zz p0 p1 p2 pz hsb
           go_wp2
           refine wp_region_bel (by kernel_rfl) (by kernel_rfl) ?_
           repeat (go_big_quiet_step (fail))
           refine wpQuiet_nil ?_
           rintro _ ⟨⟨wz, hbz⟩, rfl⟩
           have HBZ := Lib.hid (H7.out.call hbz)
           clear hbz
           (try dsimp only)
           go_wp2
           ((try simp only [Exit.inBlock, Exit.then]); refine bodyPost_ret (results_tmp2 rfl _ _ _) rfl ?_)
           rw [HV0.out, HSB2.out]
           exact ⟨rfl, HBZ.out.below⟩)
    · change wpList _ _ _ [_] _ _
      go_wp2
      have h4 := HB1.out.drew.alloc (.cells #[.int .i64 0, .int .i64 0, .bool false] 80)
      have hl4 : Below w1.heap.size w1 (w1.drew.alloc (.cells #[.int .i64 0, .int .i64 0, .bool false] 80)) := bnext (bref _).drew (balloc w1.drew _)
      obtain ⟨w4, hw4⟩ : ∃ w4, w4 = w1.drew.alloc (.cells #[.int .i64 0, .int .i64 0, .bool false] 80) := ⟨_, rfl⟩
      obtain ⟨B, hB⟩ : ∃ B, B = w1.heap.size := ⟨_, rfl⟩
      have hw4' : (w1.alloc (.cells #[.int .i64 0, .int .i64 0, .bool false] 80)).drew = w4 := hw4.symm
      rw [← hw4] at h4 hl4
      rw [show w1.drew.heap.size = B from hB.symm] at h4
      rw [hw4', ← hB]
      have H3 := Lib.hid h4
      have HL3 := Lib.hid hl4
      have HB4 := Lib.hid (show w1.heap.size ≤ B by omega)
      clear h4 hl4 hw4 hw4' hB
      refine ⟨⟨⟨_, HL3.out⟩, rfl⟩, ?_⟩
      refine anyC_one 9 (fuel := 5) ⟨⟨_, HL3.out⟩, rfl⟩ (by kernel_rfl) (by kernel_rfl) ?_
      change wpList _ _ _ [_] _ _
      go_wp2_with fail
      refine (l3Walk_c k.me r ad a _ (X1.out.below H3.out.below) G0.out HRR.out HAD.out).mono ?_
      rintro e w3 ⟨rfl, hb3⟩
      rw [← HC.out, ← HF.out, ← HA.out, ← HW.out]
      have HL4 := Lib.hid (bnext HL3.out hb3)
      have H4 := Lib.hid (H3.out.call hb3)
      clear hb3 y0 y2 y5 z0 z1 z2 z3 zz d1 H3 HL3
      go_wp2
      refine ⟨⟨⟨_, HL4.out⟩, rfl⟩, ?_⟩
      refine anyC_reads (by kernel_rfl) (fuel := 2) ⟨⟨_, HL4.out⟩, rfl⟩ 3 10 _ _ (by kernel_rfl) ?_
      change wpQuiet _ _ _ _ [_, _, _] _
      repeat (go_big_quiet_step (fail))
      refine wpQuiet_nil ?_
      refine anyC_one 14 (fuel := 1) ⟨⟨_, HL4.out⟩, rfl⟩ (by kernel_rfl) (by kernel_rfl) ?_
      obtain ⟨p0, p1, p2, pf0, pf1, pf2, pz⟩ := blk3 (H4.out.get 0 rfl)
      have h6 := ((H4.out.put 0 (.int .i64 F)).put 1 (.int .i64 A)).put 2 (.bool W)
      have HL6 := Lib.hid (((HL4.out.setCell (p := ⟨B, 0, none⟩) HB4.out (.int .i64 F)).setCell (p := ⟨B, 1, none⟩) HB4.out (.int .i64 A)).setCell (p := ⟨B, 2, none⟩) HB4.out (.bool W))
      have H6 := Lib.hid h6
      clear h6
      change wpList _ _ _ [_] _ _
      go_wp2
      refine ⟨⟨⟨_, HL6.out⟩, rfl⟩, ?_⟩
      clear p0 p1 p2 pf0 pf1 pf2 pz
      refine anyC_reads (by kernel_rfl) (fuel := 0) ⟨⟨_, HL6.out⟩, rfl⟩ 1 15 _ _ (by kernel_rfl) ?_
      change wpQuiet _ _ _ _ [_] _
      repeat (go_big_quiet_step (fail))
      refine wpQuiet_nil ?_
      refine anyC_done (by kernel_rfl) ?_
      (try dsimp only)
      obtain ⟨w7, hw7⟩ : ∃ w7, w7 = ((w3.setCell ⟨B, 0, none⟩ (.int .i64 F)).setCell ⟨B, 1, none⟩ (.int .i64 A)).setCell ⟨B, 2, none⟩ (.bool W) := ⟨_, rfl⟩
      have h7 := H6.out
      rw [← hw7] at h7
      rw [← hw7]
      have H7 := Lib.hid h7
      clear H6 HL6 h7 hw7
      have h0' := H0.out
      first
        | (have HN := Lib.hid (show seeB k (q : Int) ad = false by rw [HSB.out, show (C != 0) = true from h0']; rfl)
           go_wp2
           ((try simp only [Exit.inBlock, Exit.then]); refine bodyPost_ret (results_tmp2 rfl _ _ _) rfl ?_)
           rw [HN.out, see_no HN.out]
           exact ⟨rfl, H7.out.below⟩)
        | (have hsb : seeB k (q : Int) ad = true := by rw [HSB.out, show (C != 0) = false from h0']; rfl
           have hc0 : walkC k.me r ad = 0 := by rw [← HC.out]; simpa [bne] using h0'
           have hwi := walk_in hc0
           rw [← HF.out, ← HA.out] at hwi
           obtain ⟨f, rfl⟩ := Int.eq_ofNat_of_zero_le hwi.1.1
           obtain ⟨j, rfl⟩ := Int.eq_ofNat_of_zero_le hwi.2.1
           have hf : f < 12 := by omega
           have hj : j < 4 := by omega
           obtain ⟨⟨mb, mo, msp⟩, cm, b2, o2, c2, hva, s1, s2, sp, hbl, hcr, s3, s4, hb2, hw0, -, -⟩ := RdN.word X1.out G0.out hf hj
           subst hva
           simp only at sp hbl hcr
           subst sp
           rw [hsb, if_pos rfl] at HSV
           have HSB2 := Lib.hid hsb
           have HV0 := Lib.hid HSV.out
           obtain ⟨p0, p1, p2, -, -, -, pz⟩ := blk3 (H7.out.get 0 rfl)
           obtain ⟨z0, z1, z2, z3, -, -, -, -, zz⟩ := blk4 (H7.out.get 1 rfl)
           have y0 := cell_bel z0
           have x0 := cell_bel p0
           have x1 := cell_bel p1
           have y3 := cell_bel ((H7.out.below.cell (p := ⟨mb, mo + f, none⟩) hbl).trans hcr)
           have y4 := cell_bel ((H7.out.below.cell (p := ⟨b2, o2 + j, none⟩) hb2).trans hw0)
           unfold maxLen at s2 s4
           have hf0 : (0 : Int) ≤ (f : Int) := by omega
           have hf1 : (f : Int) < 12 := by omega
           have hj0 : (0 : Int) ≤ (j : Int) := by omega
           have hj1 : (j : Int) < 4 := by omega
           clear hwi hc0 hcr hw0 z0 z1 z2 z3 zz p0 p1 p2 pz hsb
           go_wp2
           refine wp_region_bel (by kernel_rfl) (by kernel_rfl) ?_
           repeat (go_big_quiet_step (fail))
           refine wpQuiet_nil ?_
           rintro _ ⟨⟨wz, hbz⟩, rfl⟩
           have HBZ := Lib.hid (H7.out.call hbz)
           clear hbz
           (try dsimp only)
           go_wp2
           ((try simp only [Exit.inBlock, Exit.then]); refine bodyPost_ret (results_tmp2 rfl _ _ _) rfl ?_)
           rw [HV0.out, HSB2.out]
           exact ⟨rfl, HBZ.out.below⟩)
end Go.Proofs.YtojknkpjnchchaaGreatDoor
