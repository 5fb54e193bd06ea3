/- The reference's check of the environments of a kernel. No conditions but the readings of the arguments and the sizes of the texts. -/
import Derived.Test.YtojknkpjnchchaaGreatDoorKerS
namespace Go.Proofs.YtojknkpjnchchaaGreatDoor
open Go.BigFrame Go.ChangeShapes Go.WideShapes Go.ChangeAt Go.RowKit
set_option linter.all false
set_option maxRecDepth 100000
attribute [local go_sem ↓] Go.wp_at_zero Go.wp_at_succ

theorem rtOk_neg {xs : List Info} {r : Int} (h1 : btw (-1) r 11 = true) (h2 : r < 0) : rtOk xs r = true := by simp [rtOk, h1, h2]
theorem rtOk_pos {xs : List Info} {f : Nat} {x : Info} (h1 : btw (-1) (f : Int) 11 = true) (h : xs[f]? = some x) : rtOk xs (f : Int) = !(x.kd != 3) := by
  unfold rtOk
  have h2 : ¬ ((f : Int) < 0) := by omega
  rw [h1, kd_at h, decide_eq_false h2]
  by_cases h3 : x.kd = 3 <;> simp [h3, bne]
theorem rtOk_out {xs : List Info} {r : Int} (h1 : btw (-1) r 11 = false) : rtOk xs r = false := by simp [rtOk, h1]

set_option maxHeartbeats 16000000 in
theorem l21Envs_c (k : Kern) (v : Value) (w : World) (hx : RdK w v k) (hf : fitF k.inf) (hfe : ∀ e ∈ k.env, fitS e.rg) (hm : memOk k.me = true) (hi : k.inf.length = 12) :
    Calls Tryz.prog 33 #[v] w fun e w' => e = .returned (.bool (envsB k)) ∧ Below w.heap.size w w' := by
  obtain ⟨a, b, c, d, rfl, x1, x2, x3, x4⟩ := hx
  have X1 := Lib.hid x1
  have HMO := Lib.hid hm
  have HXL := Lib.hid hi
  have HFF := Lib.hid hf
  have HFE := Lib.hid hfe
  obtain ⟨rows, ⟨ae, ce, rfl, e1, e2, -, e3⟩, hin, hrt⟩ := x3
  obtain ⟨n, hn⟩ : ∃ n, n = k.env.length := ⟨_, rfl⟩
  rw [(RdE.len hin).trans hn.symm] at e1 ⊢
  have HN := Lib.hid hn
  have HIN := Lib.hid hin
  have HRT := Lib.hid hrt
  have E3 := Lib.hid e3
  have X2 := Lib.hid x2
  obtain ⟨ai, ci, rfl, t1, t2, -, t3⟩ := x2
  rw [hi] at t1 X2 ⊢
  have T3 := Lib.hid t3
  unfold maxLen at t2 e2
  have HB0 := Lib.hid ((Bun.refl w none).alloc (.cells #[a, .slice ai 12 ci, .slice ae n ce, d] 34))
  clear x1 x4 e3 hin hrt hn t3 hi hm hf hfe
  go_enter Tryz.func33, Tryz.ntmps33
  go_wp2
  obtain ⟨B, hB⟩ : ∃ B, B = w.heap.size := ⟨_, rfl⟩
  rw [← hB] at HB0 ⊢
  clear hB
  go_loopw [3] (fun i wr => ∃ t : Nat, t ≤ n ∧ i = .int .i64 t ∧ Bun w none wr [Res.blk B (.cells #[a, .slice ai 12 ci, .slice ae n ce, d] 34)] ∧ Hid ((k.env.take t).all (envOk k.me k.inf) = true)) (fun i _ => n - (intOf i).toNat)
  case atStart => exact ⟨0, Nat.zero_le _, rfl, HB0.out, by simp [Hid]⟩
  case round =>
    obtain ⟨t, ht, rfl, hb, hok⟩ := hrel
    have HB := Lib.hid hb
    have HOK := Lib.hid hok.out
    clear hb hok
    obtain ⟨z0, z1, z2, z3, -, -, -, -, zz⟩ := blk4 (HB.out.get 0 rfl)
    by_cases hlt : t < n
    · obtain ⟨⟨e_rg, r⟩, heq⟩ : ∃ e, k.env[t]? = some e := ⟨_, List.getElem?_eq_getElem (by have := HN.out; omega)⟩
      obtain ⟨s, hrow, hrd⟩ := getE HIN.out HRT.out heq
      obtain ⟨b5, o5, rfl, hbl5, hc5⟩ := E3.out t _ hrow
      have d0 := (HB.out.below.cell (p := ⟨b5, o5 + t * 2 + 0, none⟩) hbl5).trans (hc5 0 _ rfl)
      have d1 := (HB.out.below.cell (p := ⟨b5, o5 + t * 2 + 1, none⟩) hbl5).trans (hc5 1 _ rfl)
      simp only [Nat.add_zero] at d0 d1
      obtain ⟨sa, sn, sc⟩ := s
      simp only [slv] at d0 hrd
      have HRD := Lib.hid hrd
      have HFT := Lib.hid (HFE.out _ (List.mem_of_getElem? heq))
      have HE := Lib.hid heq
      have HOE := Lib.hid (show envOk k.me k.inf ⟨e_rg, r⟩ = (rightsOk e_rg && (rtOk k.inf r && allowB k.inf e_rg (reachL k.me r))) from rfl)
      have H1 := Lib.hid (HB.out.alloc (.cells #[.slice sa sn sc, .int .i64 r] 55))
      obtain ⟨y0, y1, -, -, yz⟩ := blk2 (H1.out.get 0 rfl)
      obtain ⟨v0, v1, v2, v3, -, -, -, -, vz⟩ := blk4 (H1.out.get 1 rfl)
      have g0 := cell_bel y0
      have g1 := cell_bel y1
      have p0 := cell_bel v0
      have p1 := cell_bel v1
      have ht0 : (0 : Int) ≤ (t : Int) := by omega
      have ht1 : (t : Int) < (n : Int) := by omega
      have HCR := Lib.hid (fun p : Bel (wr.alloc (.cells #[.slice sa sn sc, .int .i64 r] 55)) => specRightsValid_c e_rg _ p.wd (HRD.out.below (H1.out.call p.below).below) HFT.out)
      have HC6 := Lib.hid (fun p : Bel (wr.alloc (.cells #[.slice sa sn sc, .int .i64 r] 55)) => l6In_c r (-1) 11 p.wd)
      clear hrow hc5 heq hrd
      cases hro : rightsOk e_rg
      · rw [hro] at HCR
        have H8 := Lib.hid (show envOk k.me k.inf ⟨e_rg, r⟩ = false by rw [HOE.out, hro]; rfl)
        clear hro
        go_wp2
        refine wp_region_bel (by kernel_rfl) (by kernel_rfl) ?_
        repeat (go_big_quiet_step (first
          | (go_at_call 73; exact Calls.bel_of (HCR.out _))
          | (go_at_call 86; exact Calls.bel_same (HC6.out _))))
        refine wpQuiet_nil ?_
        rintro _ ⟨⟨wz, hbz⟩, rfl⟩
        have HBZ := Lib.hid (H1.out.call hbz)
        clear hbz
        (try dsimp only)
        go_wp2
        go_ret
        exact ⟨ret_bool (by unfold envsB; rw [all_bad HE.out H8.out]; simp), HBZ.out.below⟩
      rw [hro] at HCR
      have HRO := Lib.hid hro
      cases hbt : btw (-1) r 11
      · rw [hbt] at HC6
        have H8 := Lib.hid (show envOk k.me k.inf ⟨e_rg, r⟩ = false by rw [HOE.out, rtOk_out hbt]; simp)
        clear hbt hro
        go_wp2
        refine wp_region_bel (by kernel_rfl) (by kernel_rfl) ?_
        repeat (go_big_quiet_step (first
          | (go_at_call 73; exact Calls.bel_of (HCR.out _))
          | (go_at_call 86; exact Calls.bel_same (HC6.out _))))
        refine wpQuiet_nil ?_
        rintro _ ⟨⟨wz, hbz⟩, rfl⟩
        have HBZ := Lib.hid (H1.out.call hbz)
        clear hbz
        (try dsimp only)
        go_wp2
        go_ret
        exact ⟨ret_bool (by unfold envsB; rw [all_bad HE.out H8.out]; simp), HBZ.out.below⟩
      rw [hbt] at HC6
      have HBT := Lib.hid hbt
      have HRR := Lib.hid (show -1 ≤ r ∧ r ≤ 11 by simpa [btw] using hbt)
      clear hro hbt
      by_cases hneg : r < 0
      · have HGQ := Lib.hid (show decide (0 ≤ r) = false from decide_eq_false (by omega))
        have HG3 := Lib.hid trivial
        have HRT2 := Lib.hid (rtOk_neg (xs := k.inf) HBT.out hneg)
        clear hneg HCR HC6
        go_wp2
        refine wp_region_swap [some 2, none, some 4, none, some 26, none, none, some 2] 32 2 (by kernel_rfl) (by kernel_rfl) (by kernel_rfl) (by kernel_rfl) ?_
        change wpQuiet _ _ _ _ [_, _] _
        repeat (go_big_quiet_step (fail))
        refine wpQuiet_nil ?_
        change wpList _ _ _ [_] _ _
        go_wp2_with fail
        refine (specRightsValid_c e_rg _ _ (HRD.out.below H1.out.drew.below) HFT.out).mono ?_
        rintro e1_ w3 ⟨rfl, hb3⟩
        rw [HRO.out]
        have H3 := Lib.hid (H1.out.drew.call hb3)
        have HL3 := Lib.hid (bdrew (bref _) hb3)
        clear hb3
        go_wp2
        refine ⟨⟨⟨_, HL3.out⟩, rfl⟩, ?_⟩
        change wpQuiet _ _ _ _ [_, _, _, _] _
        repeat (go_big_quiet_step (fail))
        refine wpQuiet_nil ?_
        change wpList _ _ _ [_] _ _
        go_wp2_with fail
        refine (l6In_c r _ _ _).mono ?_
        rintro e2_ w4 ⟨rfl, rfl⟩
        rw [HBT.out]
        go_wp2
        refine ⟨⟨⟨_, HL3.out⟩, rfl⟩, ?_⟩
        have hgq := HGQ.out
        have hg3 := HG3.out
        change wpQuiet _ _ _ _ [_, _, _, _, _, _, _, _, _, _, _, _, _, _, _, _, _, _, _, _, _, _, _, _, _, _] _
        repeat (go_big_quiet_step (fail))
        refine wpQuiet_nil ?_
        change wpList _ _ _ [_] _ _
        go_wp2_with fail
        refine (l21Reach_c k.me r a _ (X1.out.below H3.out.below) HMO.out HRR.out).mono ?_
        rintro e3_ w5 ⟨u, rfl, ho5, hb5⟩
        have H5 := Lib.hid (H3.out.addT ho5 hb5)
        have HL5 := Lib.hid (bnext HL3.out hb5)
        clear ho5 hb5
        go_wp2
        refine ⟨⟨⟨_, HL5.out⟩, rfl⟩, ?_⟩
        change wpList _ _ _ [_] _ _
        go_wp2_with fail
        refine (l21Allowed_c k.inf e_rg (reachL k.me r) _ _ _ _ (X2.out.below H5.out.below) HFF.out (HRD.out.below H5.out.below) HFT.out (H5.out.rd 0 rfl encI_len) HXL.out reach_in).mono ?_
        rintro e4_ w6 ⟨rfl, rfl⟩
        have HBZ := Lib.hid H5.out.drop.drop
        clear H5 H3
        cases hq : allowB k.inf e_rg (reachL k.me r)
        all_goals
          have HQ := Lib.hid hq
          clear hq
          go_wp2
          refine ⟨⟨⟨_, HL5.out⟩, rfl⟩, ?_⟩
          change wpQuiet _ _ _ _ [_, _] _
          repeat (go_big_quiet_step (fail))
          refine wpQuiet_nil ?_
          refine wpPlan_nil ?_
          (try dsimp only)
          go_wp2
        · go_ret
          exact ⟨ret_bool (by unfold envsB; rw [all_bad HE.out (by rw [HOE.out, HQ.out]; simp)]; simp), HBZ.out.below⟩
        · go_roundw
          case rel => exact ⟨t + 1, by omega, by go_num, HBZ.out, all_take_succ HE.out HOK.out (by rw [HOE.out, HRO.out, HRT2.out, HQ.out]; rfl)⟩
          case measure => simp [intOf]; omega
      · obtain ⟨f, rfl⟩ := Int.eq_ofNat_of_zero_le (show 0 ≤ r by omega)
        have hf : f < 12 := by have := HRR.out; omega
        have hf0 : (0 : Int) ≤ (f : Int) := by omega
        have hf1 : (f : Int) < 12 := by omega
        have HGQ := Lib.hid (show decide ((0 : Int) ≤ (f : Int)) = true from decide_eq_true hf0)
        obtain ⟨x, hx⟩ : ∃ x, k.inf[f]? = some x := ⟨_, List.getElem?_eq_getElem (by have := HXL.out; omega)⟩
        obtain ⟨bb, o, rfl, hbl, hc⟩ := T3.out f x hx
        have q0 := (H1.out.below.cell (p := ⟨bb, o + f * 3 + 0, none⟩) hbl).trans (hc 0 _ rfl)
        simp only [Nat.add_zero] at q0
        have q1 := cell_bel q0
        have HRT3 := Lib.hid (rtOk_pos HBT.out hx)
        clear hc hx hneg
        cases h3 : (x.kd != 3)
        rotate_left
        · have H8 := Lib.hid (show envOk k.me k.inf ⟨e_rg, (f : Int)⟩ = false by rw [HOE.out, HRT3.out, h3]; simp)
          go_wp2
          refine wp_region_bel (by kernel_rfl) (by kernel_rfl) ?_
          repeat (go_big_quiet_step (first
            | (go_at_call 73; exact Calls.bel_of (HCR.out _))
            | (go_at_call 86; exact Calls.bel_same (HC6.out _))))
          refine wpQuiet_nil ?_
          rintro _ ⟨⟨wz, hbz⟩, rfl⟩
          have HBZ := Lib.hid (H1.out.call hbz)
          clear hbz
          (try dsimp only)
          go_wp2
          go_ret
          exact ⟨ret_bool (by unfold envsB; rw [all_bad HE.out H8.out]; simp), HBZ.out.below⟩
        have HRT2 := Lib.hid (show rtOk k.inf (f : Int) = true by rw [HRT3.out, h3]; rfl)
        have HG3 := Lib.hid h3
        clear h3
        clear HCR HC6
        go_wp2
        refine wp_region_swap [some 2, none, some 4, none, some 26, none, none, some 2] 32 2 (by kernel_rfl) (by kernel_rfl) (by kernel_rfl) (by kernel_rfl) ?_
        change wpQuiet _ _ _ _ [_, _] _
        repeat (go_big_quiet_step (fail))
        refine wpQuiet_nil ?_
        change wpList _ _ _ [_] _ _
        go_wp2_with fail
        refine (specRightsValid_c e_rg _ _ (HRD.out.below H1.out.drew.below) HFT.out).mono ?_
        rintro e1_ w3 ⟨rfl, hb3⟩
        rw [HRO.out]
        have H3 := Lib.hid (H1.out.drew.call hb3)
        have HL3 := Lib.hid (bdrew (bref _) hb3)
        clear hb3
        go_wp2
        refine ⟨⟨⟨_, HL3.out⟩, rfl⟩, ?_⟩
        change wpQuiet _ _ _ _ [_, _, _, _] _
        repeat (go_big_quiet_step (fail))
        refine wpQuiet_nil ?_
        change wpList _ _ _ [_] _ _
        go_wp2_with fail
        refine (l6In_c (f : Int) _ _ _).mono ?_
        rintro e2_ w4 ⟨rfl, rfl⟩
        rw [HBT.out]
        go_wp2
        refine ⟨⟨⟨_, HL3.out⟩, rfl⟩, ?_⟩
        have hgq := HGQ.out
        have hg3 := HG3.out
        change wpQuiet _ _ _ _ [_, _, _, _, _, _, _, _, _, _, _, _, _, _, _, _, _, _, _, _, _, _, _, _, _, _] _
        repeat (go_big_quiet_step (fail))
        refine wpQuiet_nil ?_
        change wpList _ _ _ [_] _ _
        go_wp2_with fail
        refine (l21Reach_c k.me (f : Int) a _ (X1.out.below H3.out.below) HMO.out HRR.out).mono ?_
        rintro e3_ w5 ⟨u, rfl, ho5, hb5⟩
        have H5 := Lib.hid (H3.out.addT ho5 hb5)
        have HL5 := Lib.hid (bnext HL3.out hb5)
        clear ho5 hb5
        go_wp2
        refine ⟨⟨⟨_, HL5.out⟩, rfl⟩, ?_⟩
        change wpList _ _ _ [_] _ _
        go_wp2_with fail
        refine (l21Allowed_c k.inf e_rg (reachL k.me (f : Int)) _ _ _ _ (X2.out.below H5.out.below) HFF.out (HRD.out.below H5.out.below) HFT.out (H5.out.rd 0 rfl encI_len) HXL.out reach_in).mono ?_
        rintro e4_ w6 ⟨rfl, rfl⟩
        have HBZ := Lib.hid H5.out.drop.drop
        clear H5 H3
        cases hq : allowB k.inf e_rg (reachL k.me (f : Int))
        all_goals
          have HQ := Lib.hid hq
          clear hq
          go_wp2
          refine ⟨⟨⟨_, HL5.out⟩, rfl⟩, ?_⟩
          change wpQuiet _ _ _ _ [_, _] _
          repeat (go_big_quiet_step (fail))
          refine wpQuiet_nil ?_
          refine wpPlan_nil ?_
          (try dsimp only)
          go_wp2
        · go_ret
          exact ⟨ret_bool (by unfold envsB; rw [all_bad HE.out (by rw [HOE.out, HQ.out]; simp)]; simp), HBZ.out.below⟩
        · go_roundw
          case rel => exact ⟨t + 1, by omega, by go_num, HBZ.out, all_take_succ HE.out HOK.out (by rw [HOE.out, HRO.out, HRT2.out, HQ.out]; rfl)⟩
          case measure => simp [intOf]; omega
    · have HA := Lib.hid (all_upto (p := envOk k.me k.inf) (by have := HN.out; omega) HOK.out)
      by_cases h3 : n = 3
      · subst h3
        go_wp2
        go_ret
        exact ⟨ret_bool (by unfold envsB; rw [HA.out, ← HN.out]; rfl), HB.out.below⟩
      · have h3b : ((n : Int) == 3) = false := by rw [beq_eq_false_iff_ne]; omega
        go_wp2
        go_ret
        exact ⟨ret_bool (by unfold envsB; rw [HA.out, ← HN.out]; simp [h3]), HB.out.below⟩
end Go.Proofs.YtojknkpjnchchaaGreatDoor
