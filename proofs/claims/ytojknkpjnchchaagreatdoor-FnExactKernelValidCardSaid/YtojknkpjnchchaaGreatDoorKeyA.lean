/- KernelReach of the program and of the reference. No conditions but the readings of the arguments and the sizes of the texts. -/
import Derived.Test.YtojknkpjnchchaaGreatDoorKerX
import Derived.Test.YtojknkpjnchchaaGreatDoorKerY
import Derived.Test.YtojknkpjnchchaaGreatDoorKerZ
namespace Go.Proofs.YtojknkpjnchchaaGreatDoor
open Go.BigFrame Go.ChangeShapes Go.WideShapes Go.ChangeAt Go.RowKit
set_option linter.all false
set_option maxRecDepth 100000
attribute [local go_sem ↓] Go.wp_at_zero Go.wp_at_succ

theorem valid_parts {k : Kern} (h : validB k = true) : memOk k.me = true ∧ infosOk k.inf = true ∧ cachB k.ca = true ∧ k.env.length = 3 ∧ k.env.all (envOk k.me k.inf) = true := by
  simp only [validB, headB, Bool.and_eq_true] at h
  obtain ⟨⟨h1, h2, h3⟩, h4, -⟩ := h
  exact ⟨h1, h2, h3, (envs_parts h4).1, (envs_parts h4).2⟩
/-- The frames that an environment can reach. -/
def reachK (k : Kern) (en : Int) : List Int := if validB k && btw 0 en 2 then reachL k.me (rootAt k.env en) else []
theorem reachK_no {k : Kern} {en : Int} (h : (validB k && btw 0 en 2) = false) : reachK k en = [] := by simp [reachK, h]
theorem reachK_yes {k : Kern} {en r : Int} (h : (validB k && btw 0 en 2) = true) (hr : rootAt k.env en = r) : reachK k en = reachL k.me r := by simp only [reachK, h, if_true, hr]

set_option maxHeartbeats 4000000 in
theorem implKernelReach_c (k : Kern) (v : Value) (en : Int) (w : World) (hx : RdK w v k) (hf : fitF k.inf) (hfe : fitE k.env) :
    Calls Tryz.prog 15 #[v, .int .i64 en] w fun e w' => ∃ u, e = .returned u ∧ OwI w.heap.size w' u (reachK k en) ∧ Below w.heap.size w w' := by
  have X := Lib.hid hx
  obtain ⟨a, b, c, d, rfl, x1, x2, x3, x4⟩ := hx
  have X1 := Lib.hid x1
  have X3 := Lib.hid x3
  have HFF := Lib.hid hf
  have HFE := Lib.hid hfe
  have HB0 := Lib.hid ((Bun.refl w none).alloc (.cells #[a, b, c, d] 34))
  clear x1 x2 x3 x4 hf hfe
  cases hv : validB k
  · have HV := Lib.hid hv
    have HN := Lib.hid (reachK_no (k := k) (en := en) (by rw [hv]; rfl))
    clear hv
    obtain ⟨z0, z1, z2, z3, -, -, -, -, zz⟩ := blk4 (HB0.out.get 0 rfl)
    go_enter Tryz.func15, Tryz.ntmps15
    go_wp2_with fail
    refine (implKernelValid_c k _ _ (X.out.below HB0.out.below) HFF.out HFE.out).mono ?_
    rintro e w1 ⟨rfl, hb⟩
    rw [HV.out]
    have HB1 := Lib.hid (HB0.out.call hb)
    clear hb z0 z1 z2 z3 zz
    go_wp2
    go_ret
    exact ⟨_, rfl, by rw [HN.out]; exact World.ownsRow_nil _ _ _ _, HB1.out.below⟩
  have HV := Lib.hid hv
  cases he : btw 0 en 2
  · have HE := Lib.hid he
    have HN := Lib.hid (reachK_no (k := k) (en := en) (by rw [he]; simp))
    clear hv he
    obtain ⟨z0, z1, z2, z3, -, -, -, -, zz⟩ := blk4 (HB0.out.get 0 rfl)
    go_enter Tryz.func15, Tryz.ntmps15
    go_wp2_with fail
    refine (implKernelValid_c k _ _ (X.out.below HB0.out.below) HFF.out HFE.out).mono ?_
    rintro e w1 ⟨rfl, hb⟩
    rw [HV.out]
    have HB1 := Lib.hid (HB0.out.call hb)
    clear hb z0 z1 z2 z3 zz
    go_wp2_with fail
    refine (isEnv_c en _).mono ?_
    rintro e w2 ⟨rfl, rfl⟩
    rw [HE.out]
    go_wp2
    go_ret
    exact ⟨_, rfl, by rw [HN.out]; exact World.ownsRow_nil _ _ _ _, HB1.out.below⟩
  have HE := Lib.hid he
  obtain ⟨g0, -, -, hel, hea⟩ := valid_parts hv
  obtain ⟨q, x, rfl, hq3, hxq, hroot, hr0, hr1⟩ := rootAt_in hea hel (by simpa [btw] using he)
  have HN := Lib.hid (reachK_yes (k := k) (by rw [hv, he]; rfl) hroot)
  have hq0 : (0 : Int) ≤ (q : Int) := by omega
  have hq1 : (q : Int) < 3 := by omega
  have G0 := Lib.hid g0
  obtain ⟨rows, ⟨ae, ce, rfl, e1, e2, -, e3⟩, hin, hrt⟩ := X3.out
  rw [(RdE.len hin).trans hel] at e1 HB0 X ⊢
  obtain ⟨s, hrow, -⟩ := getE hin hrt hxq
  obtain ⟨b5, o5, rfl, hbl5, hc5⟩ := e3 q _ hrow
  have D1 := Lib.hid (hc5 1 _ rfl)
  unfold maxLen at e2
  obtain ⟨r, hr⟩ : ∃ r, x.rt = r := ⟨_, rfl⟩
  rw [hr] at HN D1 hr0 hr1
  have HRR := Lib.hid (show -1 ≤ r ∧ r ≤ 11 from ⟨hr0, hr1⟩)
  clear hv he g0 hel hea hxq hroot hr0 hr1 e3 hin hrt hrow hc5 hr
  obtain ⟨z0, z1, z2, z3, -, -, -, -, zz⟩ := blk4 (HB0.out.get 0 rfl)
  go_enter Tryz.func15, Tryz.ntmps15
  go_wp2_with fail
  refine (implKernelValid_c k _ _ (X.out.below HB0.out.below) HFF.out HFE.out).mono ?_
  rintro e w1 ⟨rfl, hb⟩
  rw [HV.out]
  have HB1 := Lib.hid (HB0.out.call hb)
  clear hb z0 z1 z2 z3 zz
  go_wp2_with fail
  refine (isEnv_c (q : Int) _).mono ?_
  rintro e w2 ⟨rfl, rfl⟩
  rw [HE.out]
  obtain ⟨z0, z1, z2, z3, -, -, -, -, zz⟩ := blk4 (HB1.out.get 0 rfl)
  have d1 := (HB1.out.below.cell (p := ⟨b5, o5 + q * 2 + 1, none⟩) hbl5).trans D1.out
  have y0 := cell_bel z0
  have y2 := cell_bel z2
  have y5 := cell_bel d1
  clear z0 z1 z2 z3 d1
  go_wp2
  refine wp_region_plan [some 8, none, some 1] (by kernel_rfl) (by kernel_rfl) ?_
  change wpQuiet _ _ _ _ [_, _, _, _, _, _, _, _] _
  repeat (go_big_quiet_step (fail))
  refine wpQuiet_nil ?_
  change wpList _ _ _ [_] _ _
  go_wp2_with fail
  refine (reached_c k.me r a _ (X1.out.below HB1.out.drew.below) G0.out HRR.out).mono ?_
  rintro e w3 ⟨u, rfl, ho, hb⟩
  have H2 := Lib.hid (HB1.out.drew.addT ho hb)
  have HL := Lib.hid (bdrew (bref _) hb)
  clear ho hb
  go_wp2
  refine ⟨⟨⟨_, HL.out⟩, rfl⟩, ?_⟩
  change wpQuiet _ _ _ _ [_] _
  repeat (go_big_quiet_step (fail))
  refine wpQuiet_nil ?_
  refine wpPlan_nil ?_
  (try dsimp only)
  go_wp2
  go_ret
  exact ⟨_, rfl, by rw [HN.out]; exact H2.out.ow 0 rfl, H2.out.below⟩

set_option maxHeartbeats 4000000 in
theorem specKernelReach_c (k : Kern) (v : Value) (en : Int) (w : World) (hx : RdK w v k) (hf : fitF k.inf) (hfe : fitE k.env) :
    Calls Tryz.prog 14 #[v, .int .i64 en] w fun e w' => ∃ u, e = .returned u ∧ OwI w.heap.size w' u (reachK k en) ∧ Below w.heap.size w w' := by
  have X := Lib.hid hx
  obtain ⟨a, b, c, d, rfl, x1, x2, x3, x4⟩ := hx
  have X1 := Lib.hid x1
  have X3 := Lib.hid x3
  have HFF := Lib.hid hf
  have HFE := Lib.hid hfe
  have HB0 := Lib.hid ((Bun.refl w none).alloc (.cells #[a, b, c, d] 34))
  clear x1 x2 x3 x4 hf hfe
  cases hv : validB k
  · have HV := Lib.hid hv
    have HN := Lib.hid (reachK_no (k := k) (en := en) (by rw [hv]; rfl))
    clear hv
    obtain ⟨z0, z1, z2, z3, -, -, -, -, zz⟩ := blk4 (HB0.out.get 0 rfl)
    go_enter Tryz.func14, Tryz.ntmps14
    go_wp2_with fail
    refine (specKernelValid_c k _ _ (X.out.below HB0.out.below) HFF.out HFE.out).mono ?_
    rintro e w1 ⟨rfl, hb⟩
    rw [HV.out]
    have HB1 := Lib.hid (HB0.out.call hb)
    clear hb z0 z1 z2 z3 zz
    go_wp2
    go_ret
    exact ⟨_, rfl, by rw [HN.out]; exact (HB1.out.lits eltInt #[] [] 0 rfl rfl (by omega)).ow 0 rfl, (HB1.out.over _).below⟩
  have HV := Lib.hid hv
  cases he : btw 0 en 2
  · have HE := Lib.hid he
    have HN := Lib.hid (reachK_no (k := k) (en := en) (by rw [he]; simp))
    clear hv he
    obtain ⟨z0, z1, z2, z3, -, -, -, -, zz⟩ := blk4 (HB0.out.get 0 rfl)
    go_enter Tryz.func14, Tryz.ntmps14
    go_wp2_with fail
    refine (specKernelValid_c k _ _ (X.out.below HB0.out.below) HFF.out HFE.out).mono ?_
    rintro e w1 ⟨rfl, hb⟩
    rw [HV.out]
    have HB1 := Lib.hid (HB0.out.call hb)
    clear hb z0 z1 z2 z3 zz
    go_wp2_with fail
    refine (l4Env_c en _).mono ?_
    rintro e w2 ⟨rfl, rfl⟩
    rw [HE.out]
    go_wp2
    go_ret
    exact ⟨_, rfl, by rw [HN.out]; exact (HB1.out.lits eltInt #[] [] 0 rfl rfl (by omega)).ow 0 rfl, (HB1.out.over _).below⟩
  have HE := Lib.hid he
  obtain ⟨g0, -, -, hel, hea⟩ := valid_parts hv
  obtain ⟨q, x, rfl, hq3, hxq, hroot, hr0, hr1⟩ := rootAt_in hea hel (by simpa [btw] using he)
  have HN := Lib.hid (reachK_yes (k := k) (by rw [hv, he]; rfl) hroot)
  have hq0 : (0 : Int) ≤ (q : Int) := by omega
  have hq1 : (q : Int) < 3 := by omega
  have G0 := Lib.hid g0
  obtain ⟨rows, ⟨ae, ce, rfl, e1, e2, -, e3⟩, hin, hrt⟩ := X3.out
  rw [(RdE.len hin).trans hel] at e1 HB0 X ⊢
  obtain ⟨s, hrow, -⟩ := getE hin hrt hxq
  obtain ⟨b5, o5, rfl, hbl5, hc5⟩ := e3 q _ hrow
  have D1 := Lib.hid (hc5 1 _ rfl)
  unfold maxLen at e2
  obtain ⟨r, hr⟩ : ∃ r, x.rt = r := ⟨_, rfl⟩
  rw [hr] at HN D1 hr0 hr1
  have HRR := Lib.hid (show -1 ≤ r ∧ r ≤ 11 from ⟨hr0, hr1⟩)
  clear hv he g0 hel hea hxq hroot hr0 hr1 e3 hin hrt hrow hc5 hr
  obtain ⟨z0, z1, z2, z3, -, -, -, -, zz⟩ := blk4 (HB0.out.get 0 rfl)
  go_enter Tryz.func14, Tryz.ntmps14
  go_wp2_with fail
  refine (specKernelValid_c k _ _ (X.out.below HB0.out.below) HFF.out HFE.out).mono ?_
  rintro e w1 ⟨rfl, hb⟩
  rw [HV.out]
  have HB1 := Lib.hid (HB0.out.call hb)
  clear hb z0 z1 z2 z3 zz
  go_wp2_with fail
  refine (l4Env_c (q : Int) _).mono ?_
  rintro e w2 ⟨rfl, rfl⟩
  rw [HE.out]
  obtain ⟨z0, z1, z2, z3, -, -, -, -, zz⟩ := blk4 (HB1.out.get 0 rfl)
  have d1 := (HB1.out.below.cell (p := ⟨b5, o5 + q * 2 + 1, none⟩) hbl5).trans D1.out
  have y0 := cell_bel z0
  have y2 := cell_bel z2
  have y5 := cell_bel d1
  clear z0 z1 z2 z3 d1
  go_wp2
  refine wp_region_plan [some 8, none, some 1] (by kernel_rfl) (by kernel_rfl) ?_
  change wpQuiet _ _ _ _ [_, _, _, _, _, _, _, _] _
  repeat (go_big_quiet_step (fail))
  refine wpQuiet_nil ?_
  change wpList _ _ _ [_] _ _
  go_wp2_with fail
  refine (l21Reach_c k.me r a _ (X1.out.below HB1.out.drew.below) G0.out HRR.out).mono ?_
  rintro e w3 ⟨u, rfl, ho, hb⟩
  have H2 := Lib.hid (HB1.out.drew.addT ho hb)
  have HL := Lib.hid (bdrew (bref _) hb)
  clear ho hb
  go_wp2
  refine ⟨⟨⟨_, HL.out⟩, rfl⟩, ?_⟩
  change wpQuiet _ _ _ _ [_] _
  repeat (go_big_quiet_step (fail))
  refine wpQuiet_nil ?_
  refine wpPlan_nil ?_
  (try dsimp only)
  go_wp2
  go_ret
  exact ⟨_, rfl, by rw [HN.out]; exact H2.out.ow 0 rfl, H2.out.below⟩
end Go.Proofs.YtojknkpjnchchaaGreatDoor
