/- The reference's check of the uses of frames in a kernel. No conditions but the readings of the arguments. -/
import Derived.Test.YtojknkpjnchchaaGreatDoorKerT
namespace Go.Proofs.YtojknkpjnchchaaGreatDoor
open Go.BigFrame Go.ChangeShapes Go.WideShapes Go.ChangeAt Go.RowKit
set_option linter.all false
set_option maxRecDepth 100000
attribute [local go_sem ↓] Go.wp_at_zero Go.wp_at_succ

theorem envs_parts {k : Kern} (h : envsB k = true) : k.env.length = 3 ∧ k.env.all (envOk k.me k.inf) = true := by
  simp only [envsB, Bool.and_eq_true, decide_eq_true_eq] at h
  exact h
theorem refOk_eq {m : List (List Int)} {xs : List Info} {es : List Env} {f : Nat} {x : Info} (h : xs[f]? = some x) : refOk m xs es f = !(x.rf != cntTo m xs 12 f + cntI (rootsTo es 3) f) := by
  unfold refOk
  rw [rf_at h]
  by_cases h : x.rf = cntTo m xs 12 f + cntI (rootsTo es 3) f <;> simp [h, bne]

set_option maxHeartbeats 4000000 in
theorem l21Refs_c (k : Kern) (v : Value) (w : World) (hx : RdK w v k) (hm : memOk k.me = true) (hi : k.inf.length = 12) (hl : k.env.length = 3) (he : k.env.all (envOk k.me k.inf) = true) :
    Calls Tryz.prog 35 #[v] w fun e w' => e = .returned (.bool (refsB k)) ∧ Below w.heap.size w w' := by
  obtain ⟨a, b, c, d, rfl, x1, x2, x3, x4⟩ := hx
  have X1 := Lib.hid x1
  have HMO := Lib.hid hm
  have HEA := Lib.hid he
  have HXL := Lib.hid hi
  obtain ⟨rows, ⟨ae, ce, rfl, e1, e2, -, e3⟩, hin, hrt⟩ := x3
  rw [(RdE.len hin).trans hl] at e1 ⊢
  have HIN := Lib.hid hin
  have HRT := Lib.hid hrt
  have HEL := Lib.hid hl
  have E3 := Lib.hid e3
  have X2 := Lib.hid x2
  obtain ⟨ai, ci, rfl, t1, t2, -, t3⟩ := x2
  rw [hi] at t1 X2 ⊢
  have T3 := Lib.hid t3
  unfold maxLen at t2 e2
  have HB0 := Lib.hid ((Bun.refl w none).alloc (.cells #[a, .slice ai 12 ci, .slice ae 3 ce, d] 34))
  clear x1 x4 e3 hin hrt hl t3 hi hm he
  go_enter Tryz.func35, Tryz.ntmps35
  go_wp2_with fail
  refine (l13Count_c k.me k.inf a _ _ (X1.out.below HB0.out.below) (X2.out.below HB0.out.below) HMO.out HXL.out).mono ?_
  rintro e w1 ⟨u, rfl, ho, hb1⟩
  have h1 := HB0.out.addT ho hb1
  rw [← usedTo_zero k.me k.inf k.env] at h1
  obtain ⟨g, cg, rfl, -, i1, i2, -, -, -⟩ := h1.at 0 rfl encI_len (usedTo_get k.me k.inf k.env 0 (f := 0) (by omega))
  rw [usedTo_len] at h1 i1 ⊢
  unfold maxLen at i2
  obtain ⟨B, hB⟩ : ∃ B, B = w.heap.size := ⟨_, rfl⟩
  rw [← hB] at h1 ⊢
  have H1 := Lib.hid h1
  clear hB ho hb1 h1 HB0
  go_wp2
  go_loopw [4] (fun i wr => ∃ t : Nat, t ≤ 3 ∧ i = .int .i64 t ∧ Bun w none wr [Res.row encI 1 3 (.slice (some ⟨g, 0, none⟩) 12 cg) (usedTo k.me k.inf k.env t), Res.blk B (.cells #[a, .slice ai 12 ci, .slice ae 3 ce, d] 34)]) (fun i _ => 3 - (intOf i).toNat)
  case atStart => exact ⟨0, Nat.zero_le _, rfl, H1.out⟩
  case round =>
    obtain ⟨t, ht, rfl, hb⟩ := hrel
    have HB := Lib.hid hb
    clear hb
    obtain ⟨z0, z1, z2, z3, -, -, -, -, zz⟩ := blk4 (HB.out.get 1 rfl)
    by_cases hlt : t < 3
    · obtain ⟨e, heq⟩ : ∃ e, k.env[t]? = some e := ⟨_, List.getElem?_eq_getElem (by have := HEL.out; omega)⟩
      obtain ⟨s, hrow, -⟩ := getE HIN.out HRT.out heq
      obtain ⟨b5, o5, rfl, hbl5, hc5⟩ := E3.out t _ hrow
      have d1 := (HB.out.below.cell (p := ⟨b5, o5 + t * 2 + 1, none⟩) hbl5).trans (hc5 1 _ rfl)
      have hin2 := envOk_in (List.all_eq_true.1 HEA.out e (List.mem_of_getElem? heq))
      have HEQ := Lib.hid heq
      obtain ⟨r, hr⟩ : ∃ r, r = e.rt := ⟨_, rfl⟩
      have HR := Lib.hid hr
      have d1' : wr.cell? ⟨b5, o5 + t * 2 + 1, none⟩ = some (.int .i64 r) := by rw [hr]; exact d1
      rw [← hr] at hin2
      have ht0 : (0 : Int) ≤ (t : Int) := by omega
      have ht1 : (t : Int) < 3 := by omega
      clear d1 hrow hc5 heq hr
      by_cases hneg : r < 0
      · have HS := Lib.hid (usedTo_skip (m := k.me) (xs := k.inf) HEQ.out (by have := HR.out; omega))
        go_wp2
        go_roundw
        case rel => exact ⟨t + 1, by omega, by go_num, by rw [← HS.out]; exact HB.out⟩
        case measure => simp [intOf]; omega
      · obtain ⟨f, rfl⟩ := Int.eq_ofNat_of_zero_le (show 0 ≤ r by omega)
        have hf : f < 12 := by omega
        have hf0 : (0 : Int) ≤ (f : Int) := by omega
        have hf1 : (f : Int) < 12 := by omega
        have hg1 := usedTo_get k.me k.inf k.env t hf
        obtain ⟨g', c', e1', -, -, -, -, hfz, hcs⟩ := HB.out.at 0 rfl encI_len hg1
        simp only [Value.slice.injEq, Option.some.injEq, Addr.mk.injEq, and_true] at e1'
        obtain ⟨rfl, -, rfl⟩ := e1'
        have q0 := hcs 0 _ rfl
        have f0 := hfz f
        have hu := used_in (xs := k.inf) (es := k.env) HMO.out t f (by omega)
        have H4 := Lib.hid (HB.out.drew.store encI_len (j := 0) (x' := cntTo k.me k.inf 12 f + cntI (rootsTo k.env t) f + 1) (u := .int .i64 (cntTo k.me k.inf 12 f + cntI (rootsTo k.env t) f + 1)) hg1 (by omega) rfl)
        rw [usedTo_bump HEQ.out (HR.out.symm)] at H4
        simp only [Nat.mul_one, Nat.add_zero] at q0 H4
        generalize cntTo k.me k.inf 12 f + cntI (rootsTo k.env t) f = q at *
        obtain ⟨hq0, hq1⟩ := hu
        clear hfz hcs hg1
        go_wp2
        go_still_tail 18, (by kernel_rfl)
        go_wp2
        go_roundw
        case rel => exact ⟨t + 1, by omega, by go_num, H4.out⟩
        case measure => simp [intOf]; omega
    · obtain rfl : t = 3 := by omega
      go_wp2
      go_loopw [5] (fun i wr => ∃ f : Nat, f ≤ 12 ∧ i = .int .i64 f ∧ Bun w none wr [Res.row encI 1 3 (.slice (some ⟨g, 0, none⟩) 12 cg) (usedTo k.me k.inf k.env 3), Res.blk B (.cells #[a, .slice ai 12 ci, .slice ae 3 ce, d] 34)] ∧ Hid (∀ j, j < f → refOk k.me k.inf k.env j = true)) (fun i _ => 12 - (intOf i).toNat)
      case atStart => exact ⟨0, Nat.zero_le _, rfl, HB.out, by intro i hi; omega⟩
      case round =>
        obtain ⟨f, hf, rfl, hb, hok⟩ := hrel
        have HB2 := Lib.hid hb
        have HOK := Lib.hid hok.out
        clear hb hok z0 z1 z2 z3 zz
        obtain ⟨z0, z1, z2, z3, -, -, -, -, zz⟩ := blk4 (HB2.out.get 1 rfl)
        by_cases hlt2 : f < 12
        · obtain ⟨x, hx⟩ : ∃ x, k.inf[f]? = some x := ⟨_, List.getElem?_eq_getElem (by have := HXL.out; omega)⟩
          obtain ⟨bb, o, rfl, hbl, hc⟩ := T3.out f x hx
          have c2 := (HB2.out.below.cell (p := ⟨bb, o + f * 3 + 2, none⟩) hbl).trans (hc 2 _ rfl)
          have hg1 := usedTo_get k.me k.inf k.env 3 hlt2
          obtain ⟨g', c', e1', -, -, -, -, -, hcs⟩ := HB2.out.at 0 rfl encI_len hg1
          simp only [Value.slice.injEq, Option.some.injEq, Addr.mk.injEq, and_true] at e1'
          obtain ⟨rfl, -, rfl⟩ := e1'
          have q0 := hcs 0 _ rfl
          simp only [Nat.mul_one, Nat.add_zero] at q0
          have HOE := Lib.hid (refOk_eq (m := k.me) (es := k.env) hx)
          generalize cntTo k.me k.inf 12 f + cntI (rootsTo k.env 3) f = q at *
          have hf0 : (0 : Int) ≤ (f : Int) := by omega
          have hf1 : (f : Int) < 12 := by omega
          clear hc hcs hg1 hx
          cases hq : (x.rf != q)
          all_goals
            have HQ := Lib.hid hq
            go_wp2
            go_quiet (fail)
            go_wp2
          · go_roundw
            case rel => exact ⟨f + 1, by omega, by go_num, HB2.out.call (below_drewN (bref _) _), upto_succ HOK.out (by rw [HOE.out, HQ.out]; rfl)⟩
            case measure => simp [intOf]; omega
          · go_ret
            exact ⟨ret_bool (by unfold refsB; rw [range_bad hlt2 (by rw [HOE.out, HQ.out]; rfl)]), (HB2.out.call (below_drewN (bref _) _)).below⟩
        · obtain rfl : f = 12 := by omega
          go_wp2
          go_ret
          exact ⟨ret_bool (by unfold refsB; rw [range_good HOK.out]), HB2.out.below⟩
end Go.Proofs.YtojknkpjnchchaaGreatDoor
