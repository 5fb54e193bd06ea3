/- The program's check of a kernel. No conditions but the readings of the arguments and the sizes of the texts. -/
import Derived.Test.YtojknkpjnchchaaGreatDoorKerT
import Derived.Test.YtojknkpjnchchaaGreatDoorKerU
import Derived.Test.YtojknkpjnchchaaGreatDoorKerV
import Derived.Test.YtojknkpjnchchaaGreatDoorKerW
namespace Go.Proofs.YtojknkpjnchchaaGreatDoor
open Go.BigFrame Go.ChangeShapes Go.WideShapes Go.ChangeAt Go.RowKit
set_option linter.all false
set_option maxRecDepth 100000
attribute [local go_sem ↓] Go.wp_at_zero Go.wp_at_succ

theorem rtOk_one (xs : List Info) : rtOk xs (-1) = true := by simp [rtOk, btw]
theorem rtOk_far {xs : List Info} {r : Int} (h1 : ¬ r = -1) (h2 : btw 0 r 11 = false) : rtOk xs r = false := by
  have h3 : btw (-1) r 11 = false := by
    simp only [btw, decide_eq_false_iff_not] at h2 ⊢
    omega
  simp [rtOk, h3]
theorem rtOk_at {xs : List Info} {f : Nat} {x : Info} (hf : f < 12) (h : xs[f]? = some x) : rtOk xs (f : Int) = !(x.kd != 3) :=
  rtOk_pos (by simp only [btw, decide_eq_true_eq]; omega) h

set_option maxHeartbeats 40000000 in
theorem implKernelValid_c (k : Kern) (v : Value) (w : World) (hx : RdK w v k) (hf : fitF k.inf) (hfe : ∀ e ∈ k.env, fitS e.rg) :
    Calls Tryz.prog 10 #[v] w fun e w' => e = .returned (.bool (validB k)) ∧ Below w.heap.size w w' := by
  obtain ⟨a, b, c, d, rfl, x1, x2, x3, x4⟩ := hx
  have X1 := Lib.hid x1
  have HFF := Lib.hid hf
  have HFE := Lib.hid hfe
  obtain ⟨rows, ⟨ae, ce, rfl, e1, e2, -, e3⟩, hin, hrt⟩ := x3
  obtain ⟨ne, hne⟩ : ∃ ne, ne = k.env.length := ⟨_, rfl⟩
  rw [(RdE.len hin).trans hne.symm] at e1 ⊢
  have HNE := Lib.hid hne
  have HIN := Lib.hid hin
  have HRT := Lib.hid hrt
  have E3 := Lib.hid e3
  have X2 := Lib.hid x2
  obtain ⟨ai, ci, rfl, t1, t2, -, t3⟩ := x2
  obtain ⟨ni, hni⟩ : ∃ ni, ni = k.inf.length := ⟨_, rfl⟩
  rw [← hni] at t1 X2 ⊢
  have HNI := Lib.hid hni
  have T3 := Lib.hid t3
  have X4 := Lib.hid x4
  obtain ⟨ac, cc, rfl, s1, s2, -, s3⟩ := x4
  obtain ⟨n, hn⟩ : ∃ n, n = k.ca.length := ⟨_, rfl⟩
  rw [← hn] at s1 X4 ⊢
  have HN := Lib.hid hn
  have S3 := Lib.hid s3
  unfold maxLen at t2 e2 s2
  have HV := Lib.hid (show validB k = ((memOk k.me && (infosOk k.inf && cachB k.ca)) && (envsB k && (tablesB k && (refsB k && casB k)))) from rfl)
  have HB0 := Lib.hid ((Bun.refl w none).alloc (.cells #[a, .slice ai ni ci, .slice ae ne ce, .slice ac n cc] 34))
  clear x1 e3 hin hrt hne t3 hni s3 hn hf hfe
  cases g0 : memOk k.me
  · have G0 := Lib.hid g0
    clear g0
    obtain ⟨z0, z1, z2, z3, -, -, -, -, zz⟩ := blk4 (HB0.out.get 0 rfl)
    go_enter Tryz.func10, Tryz.ntmps10
    go_wp2_with fail
    refine (implMemoryValid_c k.me a _ (X1.out.below HB0.out.below)).mono ?_
    rintro e w1 ⟨rfl, hb⟩
    rw [G0.out]
    have HB1 := Lib.hid (HB0.out.call hb)
    clear z0 z1 z2 z3 zz hb
    obtain ⟨z0, z1, z2, z3, -, -, -, -, zz⟩ := blk4 (HB1.out.get 0 rfl)
    go_wp2
    go_ret
    exact ⟨ret_bool (by rw [HV.out, G0.out]; simp), HB1.out.below⟩
  have G0 := Lib.hid g0
  clear g0
  cases g1 : infosOk k.inf
  · have G1 := Lib.hid g1
    clear g1
    obtain ⟨z0, z1, z2, z3, -, -, -, -, zz⟩ := blk4 (HB0.out.get 0 rfl)
    go_enter Tryz.func10, Tryz.ntmps10
    go_wp2_with fail
    refine (implMemoryValid_c k.me a _ (X1.out.below HB0.out.below)).mono ?_
    rintro e w1 ⟨rfl, hb⟩
    rw [G0.out]
    have HB1 := Lib.hid (HB0.out.call hb)
    clear z0 z1 z2 z3 zz hb
    obtain ⟨z0, z1, z2, z3, -, -, -, -, zz⟩ := blk4 (HB1.out.get 0 rfl)
    go_wp2_with fail
    refine (implInfosValid_c k.inf _ _ (X2.out.below HB1.out.below) HFF.out).mono ?_
    rintro e w2 ⟨rfl, hb⟩
    rw [G1.out]
    have HB2 := Lib.hid (HB1.out.call hb)
    clear z0 z1 z2 z3 zz hb
    obtain ⟨z0, z1, z2, z3, -, -, -, -, zz⟩ := blk4 (HB2.out.get 0 rfl)
    go_wp2
    go_ret
    exact ⟨ret_bool (by rw [HV.out, G0.out, G1.out]; simp), HB2.out.below⟩
  have G1 := Lib.hid g1
  clear g1
  cases g2 : cachB k.ca
  · have G2 := Lib.hid g2
    clear g2
    obtain ⟨z0, z1, z2, z3, -, -, -, -, zz⟩ := blk4 (HB0.out.get 0 rfl)
    go_enter Tryz.func10, Tryz.ntmps10
    go_wp2_with fail
    refine (implMemoryValid_c k.me a _ (X1.out.below HB0.out.below)).mono ?_
    rintro e w1 ⟨rfl, hb⟩
    rw [G0.out]
    have HB1 := Lib.hid (HB0.out.call hb)
    clear z0 z1 z2 z3 zz hb
    obtain ⟨z0, z1, z2, z3, -, -, -, -, zz⟩ := blk4 (HB1.out.get 0 rfl)
    go_wp2_with fail
    refine (implInfosValid_c k.inf _ _ (X2.out.below HB1.out.below) HFF.out).mono ?_
    rintro e w2 ⟨rfl, hb⟩
    rw [G1.out]
    have HB2 := Lib.hid (HB1.out.call hb)
    clear z0 z1 z2 z3 zz hb
    obtain ⟨z0, z1, z2, z3, -, -, -, -, zz⟩ := blk4 (HB2.out.get 0 rfl)
    go_wp2_with fail
    refine (implCacheValid_c k.ca _ _ (X4.out.below HB2.out.below)).mono ?_
    rintro e w3 ⟨rfl, hb⟩
    rw [G2.out]
    have HB3 := Lib.hid (HB2.out.call hb)
    clear z0 z1 z2 z3 zz hb
    obtain ⟨z0, z1, z2, z3, -, -, -, -, zz⟩ := blk4 (HB3.out.get 0 rfl)
    go_wp2
    go_ret
    exact ⟨ret_bool (by rw [HV.out, G0.out, G1.out, G2.out]; simp), HB3.out.below⟩
  have G2 := Lib.hid g2
  clear g2
  by_cases h3 : ne = 3
  rotate_left
  · have h3b : ((ne : Int) != 3) = true := by rw [bne_iff_ne]; omega
    have HE0 := Lib.hid (show envsB k = false by unfold envsB; rw [← HNE.out]; simp [h3])
    clear h3
    obtain ⟨z0, z1, z2, z3, -, -, -, -, zz⟩ := blk4 (HB0.out.get 0 rfl)
    go_enter Tryz.func10, Tryz.ntmps10
    go_wp2_with fail
    refine (implMemoryValid_c k.me a _ (X1.out.below HB0.out.below)).mono ?_
    rintro e w1 ⟨rfl, hb⟩
    rw [G0.out]
    have HB1 := Lib.hid (HB0.out.call hb)
    clear z0 z1 z2 z3 zz hb
    obtain ⟨z0, z1, z2, z3, -, -, -, -, zz⟩ := blk4 (HB1.out.get 0 rfl)
    go_wp2_with fail
    refine (implInfosValid_c k.inf _ _ (X2.out.below HB1.out.below) HFF.out).mono ?_
    rintro e w2 ⟨rfl, hb⟩
    rw [G1.out]
    have HB2 := Lib.hid (HB1.out.call hb)
    clear z0 z1 z2 z3 zz hb
    obtain ⟨z0, z1, z2, z3, -, -, -, -, zz⟩ := blk4 (HB2.out.get 0 rfl)
    go_wp2_with fail
    refine (implCacheValid_c k.ca _ _ (X4.out.below HB2.out.below)).mono ?_
    rintro e w3 ⟨rfl, hb⟩
    rw [G2.out]
    have HB3 := Lib.hid (HB2.out.call hb)
    clear z0 z1 z2 z3 zz hb
    obtain ⟨z0, z1, z2, z3, -, -, -, -, zz⟩ := blk4 (HB3.out.get 0 rfl)
    go_wp2
    go_ret
    exact ⟨ret_bool (by rw [HV.out, HE0.out]; simp), HB3.out.below⟩
  subst h3
  obtain rfl : ni = 12 := HNI.out.trans (infosOk_len G1.out)
  obtain ⟨z0, z1, z2, z3, -, -, -, -, zz⟩ := blk4 (HB0.out.get 0 rfl)
  go_enter Tryz.func10, Tryz.ntmps10
  go_wp2_with fail
  refine (implMemoryValid_c k.me a _ (X1.out.below HB0.out.below)).mono ?_
  rintro e w1 ⟨rfl, hb⟩
  rw [G0.out]
  have HB1 := Lib.hid (HB0.out.call hb)
  clear z0 z1 z2 z3 zz hb
  obtain ⟨z0, z1, z2, z3, -, -, -, -, zz⟩ := blk4 (HB1.out.get 0 rfl)
  go_wp2_with fail
  refine (implInfosValid_c k.inf _ _ (X2.out.below HB1.out.below) HFF.out).mono ?_
  rintro e w2 ⟨rfl, hb⟩
  rw [G1.out]
  have HB2 := Lib.hid (HB1.out.call hb)
  clear z0 z1 z2 z3 zz hb
  obtain ⟨z0, z1, z2, z3, -, -, -, -, zz⟩ := blk4 (HB2.out.get 0 rfl)
  go_wp2_with fail
  refine (implCacheValid_c k.ca _ _ (X4.out.below HB2.out.below)).mono ?_
  rintro e w3 ⟨rfl, hb⟩
  rw [G2.out]
  have HB3 := Lib.hid (HB2.out.call hb)
  clear z0 z1 z2 z3 zz hb
  obtain ⟨z0, z1, z2, z3, -, -, -, -, zz⟩ := blk4 (HB3.out.get 0 rfl)
  go_wp2_with fail
  refine (counted_c k.me k.inf a _ _ (X1.out.below HB3.out.below) (X2.out.below HB3.out.below) G0.out HNI.out.symm).mono ?_
  rintro e w4 ⟨u, rfl, ho, hb1⟩
  have h1 := HB3.out.addT ho hb1
  rw [← usedTo_zero k.me k.inf k.env] at h1
  obtain ⟨g, cg, rfl, -, i1, i2, -, -, -⟩ := h1.at 0 rfl encI_len (usedTo_get k.me k.inf k.env 0 (f := 0) (by omega))
  rw [usedTo_len] at h1 i1 ⊢
  unfold maxLen at i2
  obtain ⟨B, hB⟩ : ∃ B, B = w.heap.size := ⟨_, rfl⟩
  rw [← hB] at h1 ⊢
  have H1 := Lib.hid h1
  clear hB ho hb1 h1 HB3 HB2 HB1 HB0 z0 z1 z2 z3 zz
  obtain ⟨z0, z1, z2, z3, -, -, -, -, zz⟩ := blk4 (H1.out.get 1 rfl)
  go_wp2
  go_loopw [43] (fun i wr => ∃ t : Nat, t ≤ 3 ∧ i = .int .i64 t ∧ Bun w none wr [Res.row encI 1 3 (.slice (some ⟨g, 0, none⟩) 12 cg) (usedTo k.me k.inf k.env t), Res.blk B (.cells #[a, .slice ai 12 ci, .slice ae 3 ce, .slice ac n cc] 34)] ∧ Hid ((k.env.take t).all (envOk k.me k.inf) = true)) (fun i _ => 3 - (intOf i).toNat)
  case atStart => exact ⟨0, Nat.zero_le _, rfl, H1.out, by simp [Hid]⟩
  case round =>
    obtain ⟨t, ht, rfl, hb, hok⟩ := hrel
    have HB := Lib.hid hb
    have HOK := Lib.hid hok.out
    clear hb hok z0 z1 z2 z3 zz
    obtain ⟨z0, z1, z2, z3, -, -, -, -, zz⟩ := blk4 (HB.out.get 1 rfl)
    by_cases hlt : t < 3
    · obtain ⟨⟨e_rg, r⟩, heq⟩ : ∃ e, k.env[t]? = some e := ⟨_, List.getElem?_eq_getElem (by have := HNE.out; omega)⟩
      obtain ⟨s, hrow, hrd⟩ := getE HIN.out HRT.out heq
      obtain ⟨b5, o5, rfl, hbl5, hc5⟩ := E3.out t _ hrow
      have d0 := (HB.out.below.cell (p := ⟨b5, o5 + t * 2 + 0, none⟩) hbl5).trans (hc5 0 _ rfl)
      have d1 := (HB.out.below.cell (p := ⟨b5, o5 + t * 2 + 1, none⟩) hbl5).trans (hc5 1 _ rfl)
      simp only [Nat.add_zero] at d0 d1
      obtain ⟨sa, sn, sc⟩ := s
      simp only [slv] at d0 hrd
      have HRD := Lib.hid hrd
      have HFT := Lib.hid (HFE.out _ (List.mem_of_getElem? heq))
      have HE := Lib.hid heq
      have HOE := Lib.hid (show envOk k.me k.inf ⟨e_rg, r⟩ = (rightsOk e_rg && (rtOk k.inf r && allowB k.inf e_rg (reachL k.me r))) from rfl)
      have H2 := Lib.hid (HB.out.alloc (.cells #[.slice sa sn sc, .int .i64 r] 55))
      obtain ⟨y0, y1, -, -, yz⟩ := blk2 (H2.out.get 0 rfl)
      obtain ⟨v0, v1, v2, v3, -, -, -, -, vz⟩ := blk4 (H2.out.get 2 rfl)
      have g0 := cell_bel y0
      have g1 := cell_bel y1
      have p0 := cell_bel v0
      have p1 := cell_bel v1
      have ht0 : (0 : Int) ≤ (t : Int) := by omega
      have ht1 : (t : Int) < 3 := by omega
      have HCR := Lib.hid (fun p : Bel (wr.alloc (.cells #[.slice sa sn sc, .int .i64 r] 55)) => implRightsValid_c e_rg _ p.wd (HRD.out.below (H2.out.call p.below).below) HFT.out)
      have HC6 := Lib.hid (fun p : Bel (wr.alloc (.cells #[.slice sa sn sc, .int .i64 r] 55)) => isFrame_c r p.wd)
      clear hrow hc5 heq hrd
      cases hro : rightsOk e_rg
      · rw [hro] at HCR
        have H8 := Lib.hid (show envOk k.me k.inf ⟨e_rg, r⟩ = false by rw [HOE.out, hro]; rfl)
        clear hro
        go_wp2
        refine wp_region_bel (by kernel_rfl) (by kernel_rfl) ?_
        repeat (go_big_quiet_step (first
          | (go_at_call 45; exact Calls.bel_of (HCR.out _))
          | (go_at_call 46; exact Calls.bel_same (HC6.out _))))
        refine wpQuiet_nil ?_
        rintro _ ⟨⟨wz, hbz⟩, rfl⟩
        have HBZ := Lib.hid (H2.out.call hbz)
        clear hbz
        (try dsimp only)
        go_wp2
        go_ret
        exact ⟨ret_bool (by rw [HV.out, show envsB k = false by unfold envsB; rw [all_bad HE.out H8.out]; simp]; simp), HBZ.out.below⟩
      rw [hro] at HCR
      have HRO := Lib.hid hro
      clear hro
      by_cases hneg : r = -1
      · subst hneg
        have HGQ := Lib.hid trivial
        have HG3 := Lib.hid trivial
        have HRR := Lib.hid (show (-1 : Int) ≤ -1 ∧ (-1 : Int) ≤ 11 by omega)
        clear HCR HC6
        have HS := Lib.hid (usedTo_skip (m := k.me) (xs := k.inf) HE.out (show (-1 : Int) < 0 by omega))
        go_wp2
        refine wp_region_plan [some 2, none, some 8, none, some 20, none, none, some 2] (by kernel_rfl) (by kernel_rfl) ?_
        change wpQuiet _ _ _ _ [_, _] _
        repeat (go_big_quiet_step (fail))
        refine wpQuiet_nil ?_
        change wpList _ _ _ [_] _ _
        go_wp2_with fail
        refine (implRightsValid_c e_rg _ _ (HRD.out.below H2.out.drew.below) HFT.out).mono ?_
        rintro e1_ w3 ⟨rfl, hb3⟩
        rw [HRO.out]
        have H3 := Lib.hid (H2.out.drew.call hb3)
        have HL3 := Lib.hid (bdrew (bref _) hb3)
        clear hb3
        go_wp2
        refine ⟨⟨⟨_, HL3.out⟩, rfl⟩, ?_⟩
        have hgq := HGQ.out
        change wpQuiet _ _ _ _ [_, _, _, _, _, _, _, _] _
        repeat (go_big_quiet_step (fail))
        refine wpQuiet_nil ?_
        change wpList _ _ _ [_] _ _
        go_wp2
        refine ⟨⟨⟨_, HL3.out⟩, rfl⟩, ?_⟩
        have hg3 := HG3.out
        change wpQuiet _ _ _ _ [_, _, _, _, _, _, _, _, _, _, _, _, _, _, _, _, _, _, _, _] _
        repeat (go_big_quiet_step (fail))
        refine wpQuiet_nil ?_
        change wpList _ _ _ [_] _ _
        go_wp2_with fail
        refine (reached_c k.me (-1) a _ (X1.out.below H3.out.below) G0.out HRR.out).mono ?_
        rintro e3_ w5 ⟨u, rfl, ho5, hb5⟩
        have H5 := Lib.hid (H3.out.addT ho5 hb5)
        have HL5 := Lib.hid (bnext HL3.out hb5)
        clear ho5 hb5
        go_wp2
        refine ⟨⟨⟨_, HL5.out⟩, rfl⟩, ?_⟩
        change wpList _ _ _ [_] _ _
        go_wp2_with fail
        refine (allowed_c k.inf e_rg (reachL k.me (-1)) _ _ _ B _ (X2.out.below H5.out.below) (HRD.out.below H5.out.below) (H5.out.rd 0 rfl encI_len) HNI.out.symm reach_in (blk4 (H5.out.get 3 rfl)).2.1).mono ?_
        rintro e4_ w6 ⟨rfl, hb6⟩
        have HBZ := Lib.hid (H5.out.drop.call hb6)
        have HL6 := Lib.hid (bnext HL5.out hb6)
        clear H5 H3 hb6
        obtain ⟨k0, k1, -, -, kz⟩ := blk2 (HBZ.out.get 0 rfl)
        obtain ⟨z0', z1', z2', z3', -, -, -, -, zz'⟩ := blk4 (HBZ.out.get 2 rfl)
        cases hq : allowB k.inf e_rg (reachL k.me (-1))
        all_goals
          have HQ := Lib.hid hq
          clear hq
          go_wp2
          refine ⟨⟨⟨_, HL6.out⟩, rfl⟩, ?_⟩
          change wpQuiet _ _ _ _ [_, _] _
          repeat (go_big_quiet_step (fail))
          refine wpQuiet_nil ?_
          refine wpPlan_nil ?_
          (try dsimp only)
        · go_wp2
          go_ret
          exact ⟨ret_bool (by rw [HV.out, show envsB k = false by unfold envsB; rw [all_bad HE.out (by rw [HOE.out, HQ.out]; simp)]; simp]; simp), HBZ.out.below⟩
        · have HBE := Lib.hid HBZ.out.drop
          have HOK4 := Lib.hid (show (k.env.take (t + 1)).all (envOk k.me k.inf) = true from all_take_succ HE.out HOK.out (by rw [HOE.out, HRO.out, rtOk_one, HQ.out]; rfl))
          go_wp2
          go_roundw
          case rel => exact ⟨t + 1, by omega, by go_num, by rw [← HS.out]; exact HBE.out, HOK4.out⟩
          case measure => simp [intOf]; omega
      have hneb : (r != -1) = true := bne_iff_ne.2 hneg
      cases hbt : btw 0 r 11
      · rw [hbt] at HC6
        have H8 := Lib.hid (show envOk k.me k.inf ⟨e_rg, r⟩ = false by rw [HOE.out, rtOk_far hneg hbt]; simp)
        clear hbt hneg
        go_wp2
        refine wp_region_bel (by kernel_rfl) (by kernel_rfl) ?_
        repeat (go_big_quiet_step (first
          | (go_at_call 45; exact Calls.bel_of (HCR.out _))
          | (go_at_call 46; exact Calls.bel_same (HC6.out _))))
        refine wpQuiet_nil ?_
        rintro _ ⟨⟨wz, hbz⟩, rfl⟩
        have HBZ := Lib.hid (H2.out.call hbz)
        clear hbz
        (try dsimp only)
        go_wp2
        go_ret
        exact ⟨ret_bool (by rw [HV.out, show envsB k = false by unfold envsB; rw [all_bad HE.out H8.out]; simp]; simp), HBZ.out.below⟩
      rw [hbt] at HC6
      have hrr : 0 ≤ r ∧ r ≤ 11 := by simpa [btw] using hbt
      obtain ⟨f, rfl⟩ := Int.eq_ofNat_of_zero_le hrr.1
      have hf : f < 12 := by omega
      have hf0 : (0 : Int) ≤ (f : Int) := by omega
      have hf1 : (f : Int) < 12 := by omega
      have HRR := Lib.hid (show (-1 : Int) ≤ (f : Int) ∧ (f : Int) ≤ 11 by omega)
      have HBT := Lib.hid hbt
      obtain ⟨x, hx⟩ : ∃ x, k.inf[f]? = some x := ⟨_, List.getElem?_eq_getElem (by have := HNI.out; omega)⟩
      obtain ⟨bb, o, rfl, hbl, hc⟩ := T3.out f x hx
      have q0 := (H2.out.below.cell (p := ⟨bb, o + f * 3 + 0, none⟩) hbl).trans (hc 0 _ rfl)
      simp only [Nat.add_zero] at q0
      have q1 := cell_bel q0
      have HRT3 := Lib.hid (rtOk_at hf hx)
      have HGQ := Lib.hid hneb
      clear hc hx hneg hbt hrr
      cases h3 : (x.kd != 3)
      rotate_left
      · have H8 := Lib.hid (show envOk k.me k.inf ⟨e_rg, (f : Int)⟩ = false by rw [HOE.out, HRT3.out, h3]; simp)
        go_wp2
        refine wp_region_bel (by kernel_rfl) (by kernel_rfl) ?_
        repeat (go_big_quiet_step (first
          | (go_at_call 45; exact Calls.bel_of (HCR.out _))
          | (go_at_call 46; exact Calls.bel_same (HC6.out _))))
        refine wpQuiet_nil ?_
        rintro _ ⟨⟨wz, hbz⟩, rfl⟩
        have HBZ := Lib.hid (H2.out.call hbz)
        clear hbz
        (try dsimp only)
        go_wp2
        go_ret
        exact ⟨ret_bool (by rw [HV.out, show envsB k = false by unfold envsB; rw [all_bad HE.out H8.out]; simp]; simp), HBZ.out.below⟩
      have HRT2 := Lib.hid (show rtOk k.inf (f : Int) = true by rw [HRT3.out, h3]; rfl)
      have HG3 := Lib.hid h3
      clear h3 HCR HC6
      have hg1 := usedTo_get k.me k.inf k.env t hf
      obtain ⟨g', c', e1', -, -, -, -, -, -⟩ := HB.out.at 0 rfl encI_len hg1
      have HU := Lib.hid (used_in (xs := k.inf) (es := k.env) G0.out t f (by omega))
      clear hg1 e1' g' c'
      go_wp2
      refine wp_region_plan [some 2, none, some 8, none, some 20, none, none, some 2] (by kernel_rfl) (by kernel_rfl) ?_
      change wpQuiet _ _ _ _ [_, _] _
      repeat (go_big_quiet_step (fail))
      refine wpQuiet_nil ?_
      change wpList _ _ _ [_] _ _
      go_wp2_with fail
      refine (implRightsValid_c e_rg _ _ (HRD.out.below H2.out.drew.below) HFT.out).mono ?_
      rintro e1_ w3 ⟨rfl, hb3⟩
      rw [HRO.out]
      have H3 := Lib.hid (H2.out.drew.call hb3)
      have HL3 := Lib.hid (bdrew (bref _) hb3)
      clear hb3
      go_wp2
      refine ⟨⟨⟨_, HL3.out⟩, rfl⟩, ?_⟩
      have hgq := HGQ.out
      change wpQuiet _ _ _ _ [_, _, _, _, _, _, _, _] _
      repeat (go_big_quiet_step (fail))
      refine wpQuiet_nil ?_
      change wpList _ _ _ [_] _ _
      go_wp2_with fail
      refine (isFrame_c (f : Int) _).mono ?_
      rintro e2_ w4 ⟨rfl, rfl⟩
      rw [HBT.out]
      go_wp2
      refine ⟨⟨⟨_, HL3.out⟩, rfl⟩, ?_⟩
      have hg3 := HG3.out
      change wpQuiet _ _ _ _ [_, _, _, _, _, _, _, _, _, _, _, _, _, _, _, _, _, _, _, _] _
      repeat (go_big_quiet_step (fail))
      refine wpQuiet_nil ?_
      change wpList _ _ _ [_] _ _
      go_wp2_with fail
      refine (reached_c k.me (f : Int) a _ (X1.out.below H3.out.below) G0.out HRR.out).mono ?_
      rintro e3_ w5 ⟨u, rfl, ho5, hb5⟩
      have H5 := Lib.hid (H3.out.addT ho5 hb5)
      have HL5 := Lib.hid (bnext HL3.out hb5)
      clear ho5 hb5
      go_wp2
      refine ⟨⟨⟨_, HL5.out⟩, rfl⟩, ?_⟩
      change wpList _ _ _ [_] _ _
      go_wp2_with fail
      refine (allowed_c k.inf e_rg (reachL k.me (f : Int)) _ _ _ B _ (X2.out.below H5.out.below) (HRD.out.below H5.out.below) (H5.out.rd 0 rfl encI_len) HNI.out.symm reach_in (blk4 (H5.out.get 3 rfl)).2.1).mono ?_
      rintro e4_ w6 ⟨rfl, hb6⟩
      have HBZ := Lib.hid (H5.out.drop.call hb6)
      have HL6 := Lib.hid (bnext HL5.out hb6)
      clear H5 H3 hb6
      obtain ⟨k0, k1, -, -, kz⟩ := blk2 (HBZ.out.get 0 rfl)
      obtain ⟨z0', z1', z2', z3', -, -, -, -, zz'⟩ := blk4 (HBZ.out.get 2 rfl)
      cases hq : allowB k.inf e_rg (reachL k.me (f : Int))
      all_goals
        have HQ := Lib.hid hq
        clear hq
        go_wp2
        refine ⟨⟨⟨_, HL6.out⟩, rfl⟩, ?_⟩
        change wpQuiet _ _ _ _ [_, _] _
        repeat (go_big_quiet_step (fail))
        refine wpQuiet_nil ?_
        refine wpPlan_nil ?_
        (try dsimp only)
      · go_wp2
        go_ret
        exact ⟨ret_bool (by rw [HV.out, show envsB k = false by unfold envsB; rw [all_bad HE.out (by rw [HOE.out, HQ.out]; simp)]; simp]; simp), HBZ.out.below⟩
      · have HOK4 := Lib.hid (show (k.env.take (t + 1)).all (envOk k.me k.inf) = true from all_take_succ HE.out HOK.out (by rw [HOE.out, HRO.out, HRT2.out, HQ.out]; rfl))
        have hg1 := usedTo_get k.me k.inf k.env t hf
        obtain ⟨g', c', e1', -, -, -, -, hfz, hcs⟩ := HBZ.out.at 1 rfl encI_len hg1
        simp only [Value.slice.injEq, Option.some.injEq, Addr.mk.injEq, and_true] at e1'
        obtain ⟨rfl, -, rfl⟩ := e1'
        have q0' := hcs 0 _ rfl
        have f0' := hfz f
        have H4 := Lib.hid (HBZ.out.drop.store encI_len (j := 0) (x' := cntTo k.me k.inf 12 f + cntI (rootsTo k.env t) f + 1) (u := .int .i64 (cntTo k.me k.inf 12 f + cntI (rootsTo k.env t) f + 1)) hg1 (by omega) rfl)
        rw [usedTo_bump HE.out rfl] at H4
        simp only [Nat.mul_one, Nat.add_zero] at q0' H4
        generalize cntTo k.me k.inf 12 f + cntI (rootsTo k.env t) f = q at *
        obtain ⟨hq0, hq1⟩ := HU.out
        clear hfz hcs hg1
        go_wp2
        go_roundw
        case rel => exact ⟨t + 1, by omega, by go_num, H4.out, HOK4.out⟩
        case measure => simp [intOf]; omega
    · obtain rfl : t = 3 := by omega
      have HEA := Lib.hid (show envsB k = true by unfold envsB; rw [← HNE.out, all_upto (by have := HNE.out; omega) HOK.out]; rfl)
      go_wp2
      go_loopw [97] (fun i wr => ∃ f : Nat, f ≤ 12 ∧ i = .int .i64 f ∧ Bun w none wr [Res.row encI 1 3 (.slice (some ⟨g, 0, none⟩) 12 cg) (usedTo k.me k.inf k.env 3), Res.blk B (.cells #[a, .slice ai 12 ci, .slice ae 3 ce, .slice ac n cc] 34)] ∧ Hid (∀ j, j < f → tableOk k.me k.inf j = true) ∧ Hid (∀ j, j < f → refOk k.me k.inf k.env j = true)) (fun i _ => 12 - (intOf i).toNat)
      case atStart => exact ⟨0, Nat.zero_le _, rfl, HB.out, by intro i hi; omega, by intro i hi; omega⟩
      case round =>
        obtain ⟨f, hf, rfl, hb, hok1, hok2⟩ := hrel
        have HB2 := Lib.hid hb
        have HT := Lib.hid hok1.out
        have HR := Lib.hid hok2.out
        clear hb hok1 hok2 z0 z1 z2 z3 zz
        obtain ⟨z0, z1, z2, z3, -, -, -, -, zz⟩ := blk4 (HB2.out.get 1 rfl)
        by_cases hlt2 : f < 12
        · obtain ⟨⟨kd, gd, rf⟩, hx⟩ : ∃ x, k.inf[f]? = some x := ⟨_, List.getElem?_eq_getElem (by have := HNI.out; omega)⟩
          obtain ⟨bb, o, rfl, hbl, hc⟩ := T3.out f _ hx
          have c0 := (HB2.out.below.cell (p := ⟨bb, o + f * 3 + 0, none⟩) hbl).trans (hc 0 _ rfl)
          have c1 := (HB2.out.below.cell (p := ⟨bb, o + f * 3 + 1, none⟩) hbl).trans (hc 1 _ rfl)
          have c2 := (HB2.out.below.cell (p := ⟨bb, o + f * 3 + 2, none⟩) hbl).trans (hc 2 _ rfl)
          simp only [Nat.add_zero] at c0 c1 c2
          have H2 := Lib.hid (HB2.out.alloc (.cells #[.int .i64 kd, tv gd, .int .i64 rf] 73))
          have hg1 := usedTo_get k.me k.inf k.env 3 hlt2
          obtain ⟨g', c', e1', -, -, -, -, -, hcs⟩ := H2.out.at 1 rfl encI_len hg1
          simp only [Value.slice.injEq, Option.some.injEq, Addr.mk.injEq, and_true] at e1'
          obtain ⟨rfl, -, rfl⟩ := e1'
          have q0 := hcs 0 _ rfl
          simp only [Nat.mul_one, Nat.add_zero] at q0
          have HTE := Lib.hid (tableOk_eq (m := k.me) hx)
          have HRE := Lib.hid (refOk_eq (m := k.me) (es := k.env) hx)
          simp only at HTE HRE
          generalize cntTo k.me k.inf 12 f + cntI (rootsTo k.env 3) f = q at *
          obtain ⟨y0, y1, y2, -, -, -, yz⟩ := blk3 (H2.out.get 0 rfl)
          obtain ⟨v0, v1, v2, v3, -, -, -, -, vz⟩ := blk4 (H2.out.get 2 rfl)
          have a0 := cell_bel y0
          have a2 := cell_bel y2
          have p0 := cell_bel v0
          have p1 := cell_bel v1
          have r0 := cell_bel q0
          have hf0 : (0 : Int) ≤ (f : Int) := by omega
          have hf1 : (f : Int) < 12 := by omega
          have HCT := Lib.hid (fun p : Bel (wr.alloc (.cells #[.int .i64 kd, tv gd, .int .i64 rf] 73)) => isTable_c kd p.wd)
          clear hc hcs hg1 hx
          cases hk : tabK kd
          · rw [hk] at HCT
            have HT8 := Lib.hid (show tableOk k.me k.inf f = true by rw [HTE.out, hk]; rfl)
            clear hk
            cases hq : (rf != q)
            all_goals
              have HQ := Lib.hid hq
              go_wp2
              refine wp_region_bel (by kernel_rfl) (by kernel_rfl) ?_
              repeat (go_big_quiet_step (first
                | (go_at_call 49; exact Calls.bel_same (HCT.out _))))
              refine wpQuiet_nil ?_
              rintro _ ⟨⟨wz, hbz⟩, rfl⟩
              have HBZ := Lib.hid (H2.out.call hbz)
              clear hbz
              (try dsimp only)
              go_wp2
            · go_roundw
              case rel => first | exact ⟨f + 1, by omega, by go_num, HBZ.out.drop, upto_succ HT.out HT8.out, upto_succ HR.out (by rw [HRE.out, HQ.out]; rfl)⟩ | ((repeat apply Exists.intro); exact ⟨⟨f + 1, by omega, by go_num, HBZ.out.drop, upto_succ HT.out HT8.out, upto_succ HR.out (by rw [HRE.out, HQ.out]; rfl)⟩, rfl⟩)
              case measure => simp [intOf]; omega
            · go_ret
              exact ⟨ret_bool (by rw [HV.out, show refsB k = false from range_bad hlt2 (by rw [HRE.out, HQ.out]; rfl)]; simp), HBZ.out.below⟩
          rw [hk] at HCT
          have HK := Lib.hid hk
          have HTG := Lib.hid (show tableOk k.me k.inf f = goodB k.me k.inf (f : Int) kd [[]] by rw [HTE.out, hk]; rfl)
          clear hk
          have H5 := Lib.hid ((H2.out.lits eltStr #[.string ⟨#[]⟩] [[]] 1 rfl rfl (by omega)).drew)
          have HL5 := Lib.hid (show Below (wr.alloc (.cells #[.int .i64 kd, tv gd, .int .i64 rf] 73)).heap.size (wr.alloc (.cells #[.int .i64 kd, tv gd, .int .i64 rf] 73)) ((wr.alloc (.cells #[.int .i64 kd, tv gd, .int .i64 rf] 73)).alloc (.cells #[.string ⟨#[]⟩] 9)).drew from (balloc _ _).drew)
          simp only [World.size_alloc] at H5
          go_wp2
          refine wp_region_plan [some 2, none, some 8, none, none, some 11] (by kernel_rfl) (by kernel_rfl) ?_
          change wpQuiet _ _ _ _ [_, _] _
          repeat (go_big_quiet_step (fail))
          refine wpQuiet_nil ?_
          change wpList _ _ _ [_] _ _
          go_wp2_with fail
          refine (isTable_c kd _).mono ?_
          rintro e1_ w3 ⟨rfl, rfl⟩
          rw [HK.out]
          go_wp2
          refine ⟨⟨⟨_, (bref _).drew⟩, rfl⟩, ?_⟩
          change wpQuiet _ _ _ _ [_, _, _, _, _, _, _, _] _
          repeat (go_big_quiet_step (fail))
          refine wpQuiet_nil ?_
          change wpList _ _ _ [_] _ _
          go_wp2
          refine ⟨⟨⟨_, (balloc _ _).drew⟩, rfl⟩, ?_⟩
          change wpList _ _ _ [_] _ _
          go_wp2_with fail
          refine (good_c k.me k.inf a _ _ (f : Int) kd [[]] _ (X1.out.below H5.out.below) (X2.out.below H5.out.below) HFF.out (H5.out.rd 0 rfl encS_len) (by intro y hy; simp at hy; subst hy; simp) (argB_of G0.out G1.out hlt2)).mono ?_
          rintro e2_ w4 ⟨rfl, hb4⟩
          rw [← HTG.out]
          have HBZ := Lib.hid (H5.out.drop.call hb4)
          have HL6 := Lib.hid (bnext HL5.out hb4)
          clear H5 hb4
          cases ht8 : tableOk k.me k.inf f
          · have HT8 := Lib.hid ht8
            clear ht8
            go_wp2
            refine ⟨⟨⟨_, HL6.out⟩, rfl⟩, ?_⟩
            change wpQuiet _ _ _ _ [_, _, _, _, _, _, _, _, _, _, _] _
            repeat (go_big_quiet_step (fail))
            refine wpQuiet_nil ?_
            refine wpPlan_nil ?_
            (try dsimp only)
            go_wp2
            go_ret
            exact ⟨ret_bool (by rw [HV.out, show tablesB k = false from range_bad hlt2 HT8.out]; simp), HBZ.out.below⟩
          have HT8 := Lib.hid ht8
          clear ht8
          cases hq : (rf != q)
          all_goals
            have HQ := Lib.hid hq
            go_wp2
            refine ⟨⟨⟨_, HL6.out⟩, rfl⟩, ?_⟩
            have hq' := HQ.out
            change wpQuiet _ _ _ _ [_, _, _, _, _, _, _, _, _, _, _] _
            repeat (go_big_quiet_step (fail))
            refine wpQuiet_nil ?_
            refine wpPlan_nil ?_
            (try dsimp only)
            go_wp2
          · go_roundw
            case rel => first | exact ⟨f + 1, by omega, by go_num, HBZ.out.drop, upto_succ HT.out HT8.out, upto_succ HR.out (by rw [HRE.out, HQ.out]; rfl)⟩ | ((repeat apply Exists.intro); exact ⟨⟨f + 1, by omega, by go_num, HBZ.out.drop, upto_succ HT.out HT8.out, upto_succ HR.out (by rw [HRE.out, HQ.out]; rfl)⟩, rfl⟩)
            case measure => simp [intOf]; omega
          · go_ret
            exact ⟨ret_bool (by rw [HV.out, show refsB k = false from range_bad hlt2 (by rw [HRE.out, HQ.out]; rfl)]; simp), HBZ.out.below⟩
        · obtain rfl : f = 12 := by omega
          have HTA := Lib.hid (show tablesB k = true from range_good HT.out)
          have HRA := Lib.hid (show refsB k = true from range_good HR.out)
          go_wp2
          go_loopw [130] (fun i wr => ∃ t : Nat, t ≤ n ∧ i = .int .i64 t ∧ Bun w none wr [Res.blk B (.cells #[a, .slice ai 12 ci, .slice ae 3 ce, .slice ac n cc] 34)] ∧ Hid ((k.ca.take t).all (caOk k.me k.env) = true)) (fun i _ => n - (intOf i).toNat)
          case atStart => exact ⟨0, Nat.zero_le _, rfl, HB2.out.drop, by simp [Hid]⟩
          case round =>
            obtain ⟨t, ht, rfl, hb, hok⟩ := hrel
            have HB3 := Lib.hid hb
            have HOK3 := Lib.hid hok.out
            clear hb hok z0 z1 z2 z3 zz
            obtain ⟨z0, z1, z2, z3, -, -, -, -, zz⟩ := blk4 (HB3.out.get 0 rfl)
            by_cases hlt3 : t < n
            · obtain ⟨⟨en, pg, fr, wrt⟩, hx⟩ : ∃ x, k.ca[t]? = some x := ⟨_, List.getElem?_eq_getElem (by have := HN.out; omega)⟩
              obtain ⟨bb, o, rfl, hbl, hcc⟩ := S3.out t _ hx
              have c0 := (HB3.out.below.cell (p := ⟨bb, o + t * 4 + 0, none⟩) hbl).trans (hcc 0 _ rfl)
              have c1 := (HB3.out.below.cell (p := ⟨bb, o + t * 4 + 1, none⟩) hbl).trans (hcc 1 _ rfl)
              have c2 := (HB3.out.below.cell (p := ⟨bb, o + t * 4 + 2, none⟩) hbl).trans (hcc 2 _ rfl)
              have c3 := (HB3.out.below.cell (p := ⟨bb, o + t * 4 + 3, none⟩) hbl).trans (hcc 3 _ rfl)
              simp only [Nat.add_zero] at c0 c1 c2 c3
              obtain ⟨m0, m1, m2, m3, m4, m5⟩ := cachB_mem G2.out (List.mem_of_getElem? hx)
              simp only at m0 m1 m2 m3 m4 m5
              obtain ⟨q, e, hq, hq3, heq, hroot, hr0, hr1⟩ := rootAt_in (envs_parts HEA.out).2 HNE.out.symm ⟨m0, m1⟩
              subst hq
              obtain ⟨s, hrow, -⟩ := getE HIN.out HRT.out heq
              obtain ⟨b5, o5, rfl, hbl5, hc5⟩ := E3.out q _ hrow
              have H1 := Lib.hid (HB3.out.alloc (.cells #[.int .i64 q, .int .i64 pg, .int .i64 fr, .bool wrt] 78))
              obtain ⟨y0, y1, y2, y3, -, -, -, -, yz⟩ := blk4 (H1.out.get 0 rfl)
              obtain ⟨v0, v1, v2, v3, -, -, -, -, vz⟩ := blk4 (H1.out.get 1 rfl)
              have d1 := (H1.out.below.cell (p := ⟨b5, o5 + q * 2 + 1, none⟩) hbl5).trans (hc5 1 _ rfl)
              obtain ⟨r, hr⟩ : ∃ r, r = e.rt := ⟨_, rfl⟩
              rw [← hr] at hr0 hr1 hroot
              have d1' : (wr.alloc (.cells #[.int .i64 q, .int .i64 pg, .int .i64 fr, .bool wrt] 78)).cell? ⟨b5, o5 + q * 2 + 1, none⟩ = some (.int .i64 r) := by rw [hr]; exact d1
              have hq0 : (0 : Int) ≤ (q : Int) := by omega
              have hq1 : (q : Int) < 3 := by omega
              have ht0 : (0 : Int) ≤ (t : Int) := by omega
              have ht1 : (t : Int) < (n : Int) := by omega
              have HX := Lib.hid hx
              have HROOT := Lib.hid hroot
              clear hcc hx hc5 hrow heq d1 hr hroot e
              by_cases hneg : r < 0
              · have H8 := Lib.hid (show casB k = false from all_bad (p := caOk k.me k.env) HX.out (by unfold caOk; rw [show rootAt k.env (Cac.mk (q : Int) pg fr wrt).en = r from HROOT.out]; simp; omega))
                go_wp2
                go_ret
                exact ⟨ret_bool (by rw [HV.out, H8.out]; simp), H1.out.below⟩
              · have hr0' : 0 ≤ r := by omega
                have HCON := Lib.hid (walk_c k.me r (pg * 4) a _ (X1.out.below H1.out.below) G0.out ⟨hr0', hr1⟩ (by omega))
                obtain ⟨C, hC⟩ : ∃ C, walkC k.me r (pg * 4) = C := ⟨_, rfl⟩
                obtain ⟨F, hF⟩ : ∃ C, walkF k.me r (pg * 4) = C := ⟨_, rfl⟩
                obtain ⟨W, hW⟩ : ∃ C, walkW k.me r (pg * 4) = C := ⟨_, rfl⟩
                obtain ⟨A, hA⟩ : ∃ C, walkA k.me r (pg * 4) = C := ⟨_, rfl⟩
                have HOE := Lib.hid (caOk_eq (x := Cac.mk (q : Int) pg fr wrt) HROOT.out hC hF hW)
                rw [hC, hF, hW, hA] at HCON
                rw [decide_eq_true hr0'] at HOE
                simp only at HOE
                clear hC hF hW hA
                cases h1 : (C != 0) <;> cases h2 : (F != fr) <;> cases h3 : (W != wrt)
                all_goals
                  have G1' := Lib.hid h1
                  have G2' := Lib.hid h2
                  have G3' := Lib.hid h3
                  have h3' : (W == wrt) = !(W != wrt) := by simp [bne]
                  rw [h3] at h3'
                  simp only [Bool.not_true, Bool.not_false] at h3'
                  go_wp2_with fail
                  refine HCON.out.mono ?_
                  rintro e w2 ⟨rfl, hb2⟩
                  have H2 := Lib.hid ((H1.out.call hb2).alloc (.cells #[.int .i64 F, .int .i64 A, .bool W] 80))
                  obtain ⟨p0, p1, p2, -, -, -, pz⟩ := blk3 (H2.out.get 0 rfl)
                  obtain ⟨y0', y1', y2', y3', -, -, -, -, yz'⟩ := blk4 (H2.out.get 1 rfl)
                  clear hb2 y0 y1 y2 y3 v0 v1 v2 v3 z0 z1 z2 z3 c0 c1 c2 c3
                  go_wp2
                  first
                    | (go_ret
                       exact ⟨ret_bool (by rw [HV.out, show casB k = false from all_bad HX.out (by rw [HOE.out, G1'.out, G2'.out, G3'.out]; rfl)]; simp), H2.out.below⟩)
                    | (go_roundw
                       case rel => (repeat apply Exists.intro); exact ⟨⟨t + 1, by omega, by go_num, H2.out.drop.drop, all_take_succ HX.out HOK3.out (by rw [HOE.out, G1'.out, G2'.out, G3'.out]; rfl)⟩, rfl⟩
                       case measure => simp [intOf]; omega)
            · have HA := Lib.hid (show casB k = true from all_upto (by have := HN.out; omega) HOK3.out)
              go_wp2
              go_ret
              exact ⟨ret_bool (by rw [HV.out, G0.out, G1.out, G2.out, HEA.out, HTA.out, HRA.out, HA.out]; rfl), HB3.out.below⟩
end Go.Proofs.YtojknkpjnchchaaGreatDoor
