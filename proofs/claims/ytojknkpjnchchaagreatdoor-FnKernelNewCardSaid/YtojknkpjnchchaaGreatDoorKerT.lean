/- The reference's check of tables in a kernel. No conditions but the readings of the arguments and the sizes of the texts. -/
import Derived.Test.YtojknkpjnchchaaGreatDoorKerS
namespace Go.Proofs.YtojknkpjnchchaaGreatDoor
open Go.BigFrame Go.ChangeShapes Go.WideShapes Go.ChangeAt Go.RowKit
set_option linter.all false
set_option maxRecDepth 100000
attribute [local go_sem ↓] Go.wp_at_zero Go.wp_at_succ

theorem upto_succ {p : Nat → Bool} {t : Nat} (h : ∀ j, j < t → p j = true) (h2 : p t = true) : ∀ j, j < t + 1 → p j = true := by
  intro j hj
  by_cases hjt : j = t
  · rw [hjt]; exact h2
  · exact h j (by omega)
theorem tableOk_eq {m : List (List Int)} {xs : List Info} {k : Nat} {x : Info} (h : xs[k]? = some x) : tableOk m xs k = (!tabK x.kd || goodB m xs (k : Int) x.kd [[]]) := by
  unfold tableOk; rw [kd_at h]

set_option maxHeartbeats 4000000 in
theorem l21Tables_c (k : Kern) (v : Value) (w : World) (hx : RdK w v k) (hf : fitF k.inf) (hm : memOk k.me = true) (hi : infosOk k.inf = true) :
    Calls Tryz.prog 34 #[v] w fun e w' => e = .returned (.bool (tablesB k)) ∧ Below w.heap.size w w' := by
  obtain ⟨a, b, c, d, rfl, x1, x2, x3, x4⟩ := hx
  have X1 := Lib.hid x1
  have X2 := Lib.hid x2
  have HXL := Lib.hid (infosOk_len hi)
  have HMO := Lib.hid hm
  have HIO := Lib.hid hi
  have HFF := Lib.hid hf
  obtain ⟨ai, ci, rfl, t1, t2, -, t3⟩ := x2
  rw [HXL.out] at t1 X2 ⊢
  have HB0 := Lib.hid ((Bun.refl w none).alloc (.cells #[a, .slice ai 12 ci, c, d] 34))
  have T3 := Lib.hid t3
  unfold maxLen at t2
  clear x1 x3 x4 t3 hm hi hf
  go_enter Tryz.func34, Tryz.ntmps34
  go_wp2
  obtain ⟨B, hB⟩ : ∃ B, B = w.heap.size := ⟨_, rfl⟩
  rw [← hB] at HB0 ⊢
  clear hB
  go_loopw [3] (fun i wr => ∃ t : Nat, t ≤ 12 ∧ i = .int .i64 t ∧ Bun w none wr [Res.blk B (.cells #[a, .slice ai 12 ci, c, d] 34)] ∧ Hid (∀ j, j < t → tableOk k.me k.inf j = true)) (fun i _ => 12 - (intOf i).toNat)
  case atStart => exact ⟨0, Nat.zero_le _, rfl, HB0.out, by intro i hi; omega⟩
  case round =>
    obtain ⟨t, ht, rfl, hb, hok⟩ := hrel
    have HB := Lib.hid hb
    have HOK := Lib.hid hok.out
    clear hb hok
    by_cases hlt : t < 12
    · obtain ⟨x, hx⟩ : ∃ x, k.inf[t]? = some x := ⟨_, List.getElem?_eq_getElem (by have := HXL.out; omega)⟩
      obtain ⟨bb, o, rfl, hbl, hc⟩ := T3.out t x hx
      have c0 := (HB.out.below.cell (p := ⟨bb, o + t * 3 + 0, none⟩) hbl).trans (hc 0 _ rfl)
      simp only [Nat.add_zero] at c0
      obtain ⟨z0, z1, z2, z3, -, -, -, -, -⟩ := blk4 (HB.out.get 0 rfl)
      have y0 := cell_bel z0
      have y1 := cell_bel z1
      have yk := cell_bel c0
      have HOE := Lib.hid (tableOk_eq (m := k.me) hx)
      have hk0 : (0 : Int) ≤ (t : Int) := by omega
      have hk1 : (t : Int) < 12 := by omega
      clear hc hx z0 z1 z2 z3 c0
      have HCON := Lib.hid (fun p : Bel wr => l13Table_c x.kd p.wd)
      cases hk : tabK x.kd
      · rw [hk] at HCON
        have H8 := Lib.hid (show tableOk k.me k.inf t = true by rw [HOE.out, hk]; rfl)
        clear hk
        go_wp2
        refine wp_region_bel (by kernel_rfl) (by kernel_rfl) ?_
        repeat (go_big_quiet_step (first
          | (go_at_call 88; exact Calls.bel_same (HCON.out _))))
        refine wpQuiet_nil ?_
        rintro _ ⟨⟨wz, hbz⟩, rfl⟩
        have HBZ := Lib.hid (HB.out.call hbz)
        clear hbz
        (try dsimp only)
        go_wp2
        go_roundw
        case rel => exact ⟨t + 1, by omega, by go_num, HBZ.out, upto_succ HOK.out H8.out⟩
        case measure => simp [intOf]; omega
      · rw [hk] at HCON
        have HK := Lib.hid hk
        have HE := Lib.hid (show tableOk k.me k.inf t = goodB k.me k.inf (t : Int) x.kd [[]] by rw [HOE.out, hk]; rfl)
        clear hk
        go_wp2
        refine wp_region_plan [some 6, none, some 12, none, none, some 2] (by kernel_rfl) (by kernel_rfl) ?_
        change wpQuiet _ _ _ _ [_, _, _, _, _, _] _
        repeat (go_big_quiet_step (fail))
        refine wpQuiet_nil ?_
        change wpList _ _ _ [_] _ _
        go_wp2_with fail
        refine (l13Table_c x.kd _).mono ?_
        rintro e w1 ⟨rfl, rfl⟩
        rw [HK.out]
        go_wp2
        refine ⟨⟨⟨_, (bref _).drew⟩, rfl⟩, ?_⟩
        change wpQuiet _ _ _ _ [_, _, _, _, _, _, _, _, _, _, _, _] _
        repeat (go_big_quiet_step (fail))
        refine wpQuiet_nil ?_
        change wpList _ _ _ [_] _ _
        go_wp2
        refine ⟨⟨⟨_, (balloc _ _).drew⟩, rfl⟩, ?_⟩
        have H5 := Lib.hid ((HB.out.lits eltStr #[.string ⟨#[]⟩] [[]] 1 rfl rfl (by omega)).drew)
        change wpList _ _ _ [_] _ _
        go_wp2_with fail
        refine (l13Ok_c k.me k.inf a _ _ (t : Int) x.kd [[]] _ (X1.out.below H5.out.below) (X2.out.below H5.out.below) HFF.out (H5.out.rd 0 rfl encS_len) (by intro y hy; simp at hy; subst hy; simp) (argB_of HMO.out HIO.out hlt) HK.out).mono ?_
        rintro e w1 ⟨rfl, rfl⟩
        rw [← HE.out]
        have HBZ := Lib.hid H5.out.drop
        have HBEL := Lib.hid (show Below wr.heap.size wr (wr.alloc (.cells #[.string ⟨#[]⟩] 9)).drew from (balloc _ _).drew)
        clear H5
        cases hq : tableOk k.me k.inf t
        all_goals
          have HQ := Lib.hid hq
          clear hq
          go_wp2
          refine ⟨⟨⟨_, HBEL.out⟩, rfl⟩, ?_⟩
          change wpQuiet _ _ _ _ [_, _] _
          repeat (go_big_quiet_step (fail))
          refine wpQuiet_nil ?_
          refine wpPlan_nil ?_
          (try dsimp only)
          go_wp2
        · go_ret
          exact ⟨ret_bool (by unfold tablesB; rw [range_bad hlt HQ.out]), HBZ.out.below⟩
        · go_roundw
          case rel => exact ⟨t + 1, by omega, by go_num, HBZ.out, upto_succ HOK.out HQ.out⟩
          case measure => simp [intOf]; omega
    · obtain rfl : t = 12 := by omega
      go_wp2
      go_ret
      exact ⟨ret_bool (by unfold tablesB; rw [range_good HOK.out]), HB.out.below⟩
end Go.Proofs.YtojknkpjnchchaaGreatDoor
