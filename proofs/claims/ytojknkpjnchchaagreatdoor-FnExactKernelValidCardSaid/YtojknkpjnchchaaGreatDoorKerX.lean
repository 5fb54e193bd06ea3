/- The reference's check of a kernel. No conditions but the readings of the arguments and the sizes of the texts. -/
import Derived.Test.YtojknkpjnchchaaGreatDoorKerT
import Derived.Test.YtojknkpjnchchaaGreatDoorKerU
import Derived.Test.YtojknkpjnchchaaGreatDoorKerV
import Derived.Test.YtojknkpjnchchaaGreatDoorKerW
namespace Go.Proofs.YtojknkpjnchchaaGreatDoor
open Go.ChangeShapes Go.WideShapes Go.ChangeAt Go.RowKit
set_option linter.all false
set_option maxRecDepth 100000
attribute [local go_sem ↓] Go.wp_at_zero Go.wp_at_succ

set_option maxHeartbeats 16000000 in
theorem specKernelValid_c (k : Kern) (v : Value) (w : World) (hx : RdK w v k) (hf : fitF k.inf) (hfe : ∀ e ∈ k.env, fitS e.rg) :
    Calls Tryz.prog 8 #[v] w fun e w' => e = .returned (.bool (validB k)) ∧ Below w.heap.size w w' := by
  have X := Lib.hid hx
  obtain ⟨a, b, c, d, rfl, x1, x2, x3, x4⟩ := hx
  have X1 := Lib.hid x1
  have X2 := Lib.hid x2
  have X4 := Lib.hid x4
  have HFF := Lib.hid hf
  have HFE := Lib.hid hfe
  have HV := Lib.hid (show validB k = ((memOk k.me && (infosOk k.inf && cachB k.ca)) && (envsB k && (tablesB k && (refsB k && casB k)))) from rfl)
  have HB0 := Lib.hid ((Bun.refl w none).alloc (.cells #[a, b, c, d] 34))
  clear x1 x2 x3 x4 hf hfe
  cases g0 : memOk k.me
  · have G0 := Lib.hid g0
    clear g0
    obtain ⟨z0, z1, z2, z3, -, -, -, -, zz⟩ := blk4 (HB0.out.get 0 rfl)
    go_enter Tryz.func8, Tryz.ntmps8
    go_wp2_with fail
    refine (specMemoryValid_c k.me a _ (X1.out.below HB0.out.below)).mono ?_
    rintro e w1 ⟨rfl, hb⟩
    rw [G0.out]
    have HB1 := Lib.hid (HB0.out.call hb)
    clear z0 z1 z2 z3 zz hb
    obtain ⟨z0, z1, z2, z3, -, -, -, -, zz⟩ := blk4 (HB1.out.get 0 rfl)
    go_wp2
    go_ret
    exact ⟨ret_bool (by rw [HV.out, G0.out]; simp), HB1.out.below⟩
  have G0 := Lib.hid g0
  clear g0
  cases g1 : infosOk k.inf
  · have G1 := Lib.hid g1
    clear g1
    obtain ⟨z0, z1, z2, z3, -, -, -, -, zz⟩ := blk4 (HB0.out.get 0 rfl)
    go_enter Tryz.func8, Tryz.ntmps8
    go_wp2_with fail
    refine (specMemoryValid_c k.me a _ (X1.out.below HB0.out.below)).mono ?_
    rintro e w1 ⟨rfl, hb⟩
    rw [G0.out]
    have HB1 := Lib.hid (HB0.out.call hb)
    clear z0 z1 z2 z3 zz hb
    obtain ⟨z0, z1, z2, z3, -, -, -, -, zz⟩ := blk4 (HB1.out.get 0 rfl)
    go_wp2_with fail
    refine (specInfosValid_c k.inf b _ (X2.out.below HB1.out.below) HFF.out).mono ?_
    rintro e w2 ⟨rfl, hb⟩
    rw [G1.out]
    have HB2 := Lib.hid (HB1.out.call hb)
    clear z0 z1 z2 z3 zz hb
    obtain ⟨z0, z1, z2, z3, -, -, -, -, zz⟩ := blk4 (HB2.out.get 0 rfl)
    go_wp2
    go_ret
    exact ⟨ret_bool (by rw [HV.out, G0.out, G1.out]; simp), HB2.out.below⟩
  have G1 := Lib.hid g1
  clear g1
  cases g2 : cachB k.ca
  · have G2 := Lib.hid g2
    clear g2
    obtain ⟨z0, z1, z2, z3, -, -, -, -, zz⟩ := blk4 (HB0.out.get 0 rfl)
    go_enter Tryz.func8, Tryz.ntmps8
    go_wp2_with fail
    refine (specMemoryValid_c k.me a _ (X1.out.below HB0.out.below)).mono ?_
    rintro e w1 ⟨rfl, hb⟩
    rw [G0.out]
    have HB1 := Lib.hid (HB0.out.call hb)
    clear z0 z1 z2 z3 zz hb
    obtain ⟨z0, z1, z2, z3, -, -, -, -, zz⟩ := blk4 (HB1.out.get 0 rfl)
    go_wp2_with fail
    refine (specInfosValid_c k.inf b _ (X2.out.below HB1.out.below) HFF.out).mono ?_
    rintro e w2 ⟨rfl, hb⟩
    rw [G1.out]
    have HB2 := Lib.hid (HB1.out.call hb)
    clear z0 z1 z2 z3 zz hb
    obtain ⟨z0, z1, z2, z3, -, -, -, -, zz⟩ := blk4 (HB2.out.get 0 rfl)
    go_wp2_with fail
    refine (specCacheValid_c k.ca d _ (X4.out.below HB2.out.below)).mono ?_
    rintro e w3 ⟨rfl, hb⟩
    rw [G2.out]
    have HB3 := Lib.hid (HB2.out.call hb)
    clear z0 z1 z2 z3 zz hb
    obtain ⟨z0, z1, z2, z3, -, -, -, -, zz⟩ := blk4 (HB3.out.get 0 rfl)
    go_wp2
    go_ret
    exact ⟨ret_bool (by rw [HV.out, G0.out, G1.out, G2.out]; simp), HB3.out.below⟩
  have G2 := Lib.hid g2
  clear g2
  cases g3 : envsB k
  · have G3 := Lib.hid g3
    clear g3
    obtain ⟨z0, z1, z2, z3, -, -, -, -, zz⟩ := blk4 (HB0.out.get 0 rfl)
    go_enter Tryz.func8, Tryz.ntmps8
    go_wp2_with fail
    refine (specMemoryValid_c k.me a _ (X1.out.below HB0.out.below)).mono ?_
    rintro e w1 ⟨rfl, hb⟩
    rw [G0.out]
    have HB1 := Lib.hid (HB0.out.call hb)
    clear z0 z1 z2 z3 zz hb
    obtain ⟨z0, z1, z2, z3, -, -, -, -, zz⟩ := blk4 (HB1.out.get 0 rfl)
    go_wp2_with fail
    refine (specInfosValid_c k.inf b _ (X2.out.below HB1.out.below) HFF.out).mono ?_
    rintro e w2 ⟨rfl, hb⟩
    rw [G1.out]
    have HB2 := Lib.hid (HB1.out.call hb)
    clear z0 z1 z2 z3 zz hb
    obtain ⟨z0, z1, z2, z3, -, -, -, -, zz⟩ := blk4 (HB2.out.get 0 rfl)
    go_wp2_with fail
    refine (specCacheValid_c k.ca d _ (X4.out.below HB2.out.below)).mono ?_
    rintro e w3 ⟨rfl, hb⟩
    rw [G2.out]
    have HB3 := Lib.hid (HB2.out.call hb)
    clear z0 z1 z2 z3 zz hb
    obtain ⟨z0, z1, z2, z3, -, -, -, -, zz⟩ := blk4 (HB3.out.get 0 rfl)
    go_wp2_with fail
    refine (l21Envs_c k _ _ (X.out.below HB3.out.below) HFF.out HFE.out G0.out (infosOk_len G1.out)).mono ?_
    rintro e w4 ⟨rfl, hb⟩
    rw [G3.out]
    have HB4 := Lib.hid (HB3.out.call hb)
    clear z0 z1 z2 z3 zz hb
    obtain ⟨z0, z1, z2, z3, -, -, -, -, zz⟩ := blk4 (HB4.out.get 0 rfl)
    go_wp2
    go_ret
    exact ⟨ret_bool (by rw [HV.out, G0.out, G1.out, G2.out, G3.out]; simp), HB4.out.below⟩
  have G3 := Lib.hid g3
  clear g3
  cases g4 : tablesB k
  · have G4 := Lib.hid g4
    clear g4
    obtain ⟨z0, z1, z2, z3, -, -, -, -, zz⟩ := blk4 (HB0.out.get 0 rfl)
    go_enter Tryz.func8, Tryz.ntmps8
    go_wp2_with fail
    refine (specMemoryValid_c k.me a _ (X1.out.below HB0.out.below)).mono ?_
    rintro e w1 ⟨rfl, hb⟩
    rw [G0.out]
    have HB1 := Lib.hid (HB0.out.call hb)
    clear z0 z1 z2 z3 zz hb
    obtain ⟨z0, z1, z2, z3, -, -, -, -, zz⟩ := blk4 (HB1.out.get 0 rfl)
    go_wp2_with fail
    refine (specInfosValid_c k.inf b _ (X2.out.below HB1.out.below) HFF.out).mono ?_
    rintro e w2 ⟨rfl, hb⟩
    rw [G1.out]
    have HB2 := Lib.hid (HB1.out.call hb)
    clear z0 z1 z2 z3 zz hb
    obtain ⟨z0, z1, z2, z3, -, -, -, -, zz⟩ := blk4 (HB2.out.get 0 rfl)
    go_wp2_with fail
    refine (specCacheValid_c k.ca d _ (X4.out.below HB2.out.below)).mono ?_
    rintro e w3 ⟨rfl, hb⟩
    rw [G2.out]
    have HB3 := Lib.hid (HB2.out.call hb)
    clear z0 z1 z2 z3 zz hb
    obtain ⟨z0, z1, z2, z3, -, -, -, -, zz⟩ := blk4 (HB3.out.get 0 rfl)
    go_wp2_with fail
    refine (l21Envs_c k _ _ (X.out.below HB3.out.below) HFF.out HFE.out G0.out (infosOk_len G1.out)).mono ?_
    rintro e w4 ⟨rfl, hb⟩
    rw [G3.out]
    have HB4 := Lib.hid (HB3.out.call hb)
    clear z0 z1 z2 z3 zz hb
    obtain ⟨z0, z1, z2, z3, -, -, -, -, zz⟩ := blk4 (HB4.out.get 0 rfl)
    go_wp2_with fail
    refine (l21Tables_c k _ _ (X.out.below HB4.out.below) HFF.out G0.out G1.out).mono ?_
    rintro e w5 ⟨rfl, hb⟩
    rw [G4.out]
    have HB5 := Lib.hid (HB4.out.call hb)
    clear z0 z1 z2 z3 zz hb
    obtain ⟨z0, z1, z2, z3, -, -, -, -, zz⟩ := blk4 (HB5.out.get 0 rfl)
    go_wp2
    go_ret
    exact ⟨ret_bool (by rw [HV.out, G0.out, G1.out, G2.out, G3.out, G4.out]; simp), HB5.out.below⟩
  have G4 := Lib.hid g4
  clear g4
  cases g5 : refsB k
  · have G5 := Lib.hid g5
    clear g5
    obtain ⟨z0, z1, z2, z3, -, -, -, -, zz⟩ := blk4 (HB0.out.get 0 rfl)
    go_enter Tryz.func8, Tryz.ntmps8
    go_wp2_with fail
    refine (specMemoryValid_c k.me a _ (X1.out.below HB0.out.below)).mono ?_
    rintro e w1 ⟨rfl, hb⟩
    rw [G0.out]
    have HB1 := Lib.hid (HB0.out.call hb)
    clear z0 z1 z2 z3 zz hb
    obtain ⟨z0, z1, z2, z3, -, -, -, -, zz⟩ := blk4 (HB1.out.get 0 rfl)
    go_wp2_with fail
    refine (specInfosValid_c k.inf b _ (X2.out.below HB1.out.below) HFF.out).mono ?_
    rintro e w2 ⟨rfl, hb⟩
    rw [G1.out]
    have HB2 := Lib.hid (HB1.out.call hb)
    clear z0 z1 z2 z3 zz hb
    obtain ⟨z0, z1, z2, z3, -, -, -, -, zz⟩ := blk4 (HB2.out.get 0 rfl)
    go_wp2_with fail
    refine (specCacheValid_c k.ca d _ (X4.out.below HB2.out.below)).mono ?_
    rintro e w3 ⟨rfl, hb⟩
    rw [G2.out]
    have HB3 := Lib.hid (HB2.out.call hb)
    clear z0 z1 z2 z3 zz hb
    obtain ⟨z0, z1, z2, z3, -, -, -, -, zz⟩ := blk4 (HB3.out.get 0 rfl)
    go_wp2_with fail
    refine (l21Envs_c k _ _ (X.out.below HB3.out.below) HFF.out HFE.out G0.out (infosOk_len G1.out)).mono ?_
    rintro e w4 ⟨rfl, hb⟩
    rw [G3.out]
    have HB4 := Lib.hid (HB3.out.call hb)
    clear z0 z1 z2 z3 zz hb
    obtain ⟨z0, z1, z2, z3, -, -, -, -, zz⟩ := blk4 (HB4.out.get 0 rfl)
    go_wp2_with fail
    refine (l21Tables_c k _ _ (X.out.below HB4.out.below) HFF.out G0.out G1.out).mono ?_
    rintro e w5 ⟨rfl, hb⟩
    rw [G4.out]
    have HB5 := Lib.hid (HB4.out.call hb)
    clear z0 z1 z2 z3 zz hb
    obtain ⟨z0, z1, z2, z3, -, -, -, -, zz⟩ := blk4 (HB5.out.get 0 rfl)
    go_wp2_with fail
    refine (l21Refs_c k _ _ (X.out.below HB5.out.below) G0.out (infosOk_len G1.out) (envs_parts G3.out).1 (envs_parts G3.out).2).mono ?_
    rintro e w6 ⟨rfl, hb⟩
    rw [G5.out]
    have HB6 := Lib.hid (HB5.out.call hb)
    clear z0 z1 z2 z3 zz hb
    obtain ⟨z0, z1, z2, z3, -, -, -, -, zz⟩ := blk4 (HB6.out.get 0 rfl)
    go_wp2
    go_ret
    exact ⟨ret_bool (by rw [HV.out, G0.out, G1.out, G2.out, G3.out, G4.out, G5.out]; simp), HB6.out.below⟩
  have G5 := Lib.hid g5
  clear g5
  cases g6 : casB k
  · have G6 := Lib.hid g6
    clear g6
    obtain ⟨z0, z1, z2, z3, -, -, -, -, zz⟩ := blk4 (HB0.out.get 0 rfl)
    go_enter Tryz.func8, Tryz.ntmps8
    go_wp2_with fail
    refine (specMemoryValid_c k.me a _ (X1.out.below HB0.out.below)).mono ?_
    rintro e w1 ⟨rfl, hb⟩
    rw [G0.out]
    have HB1 := Lib.hid (HB0.out.call hb)
    clear z0 z1 z2 z3 zz hb
    obtain ⟨z0, z1, z2, z3, -, -, -, -, zz⟩ := blk4 (HB1.out.get 0 rfl)
    go_wp2_with fail
    refine (specInfosValid_c k.inf b _ (X2.out.below HB1.out.below) HFF.out).mono ?_
    rintro e w2 ⟨rfl, hb⟩
    rw [G1.out]
    have HB2 := Lib.hid (HB1.out.call hb)
    clear z0 z1 z2 z3 zz hb
    obtain ⟨z0, z1, z2, z3, -, -, -, -, zz⟩ := blk4 (HB2.out.get 0 rfl)
    go_wp2_with fail
    refine (specCacheValid_c k.ca d _ (X4.out.below HB2.out.below)).mono ?_
    rintro e w3 ⟨rfl, hb⟩
    rw [G2.out]
    have HB3 := Lib.hid (HB2.out.call hb)
    clear z0 z1 z2 z3 zz hb
    obtain ⟨z0, z1, z2, z3, -, -, -, -, zz⟩ := blk4 (HB3.out.get 0 rfl)
    go_wp2_with fail
    refine (l21Envs_c k _ _ (X.out.below HB3.out.below) HFF.out HFE.out G0.out (infosOk_len G1.out)).mono ?_
    rintro e w4 ⟨rfl, hb⟩
    rw [G3.out]
    have HB4 := Lib.hid (HB3.out.call hb)
    clear z0 z1 z2 z3 zz hb
    obtain ⟨z0, z1, z2, z3, -, -, -, -, zz⟩ := blk4 (HB4.out.get 0 rfl)
    go_wp2_with fail
    refine (l21Tables_c k _ _ (X.out.below HB4.out.below) HFF.out G0.out G1.out).mono ?_
    rintro e w5 ⟨rfl, hb⟩
    rw [G4.out]
    have HB5 := Lib.hid (HB4.out.call hb)
    clear z0 z1 z2 z3 zz hb
    obtain ⟨z0, z1, z2, z3, -, -, -, -, zz⟩ := blk4 (HB5.out.get 0 rfl)
    go_wp2_with fail
    refine (l21Refs_c k _ _ (X.out.below HB5.out.below) G0.out (infosOk_len G1.out) (envs_parts G3.out).1 (envs_parts G3.out).2).mono ?_
    rintro e w6 ⟨rfl, hb⟩
    rw [G5.out]
    have HB6 := Lib.hid (HB5.out.call hb)
    clear z0 z1 z2 z3 zz hb
    obtain ⟨z0, z1, z2, z3, -, -, -, -, zz⟩ := blk4 (HB6.out.get 0 rfl)
    go_wp2_with fail
    refine (l21Cache_c k _ _ (X.out.below HB6.out.below) G0.out G2.out (envs_parts G3.out).1 (envs_parts G3.out).2).mono ?_
    rintro e w7 ⟨rfl, hb⟩
    rw [G6.out]
    have HB7 := Lib.hid (HB6.out.call hb)
    clear z0 z1 z2 z3 zz hb
    obtain ⟨z0, z1, z2, z3, -, -, -, -, zz⟩ := blk4 (HB7.out.get 0 rfl)
    go_wp2
    go_ret
    exact ⟨ret_bool (by rw [HV.out, G0.out, G1.out, G2.out, G3.out, G4.out, G5.out, G6.out]; simp), HB7.out.below⟩
  have G6 := Lib.hid g6
  clear g6
  obtain ⟨z0, z1, z2, z3, -, -, -, -, zz⟩ := blk4 (HB0.out.get 0 rfl)
  go_enter Tryz.func8, Tryz.ntmps8
  go_wp2_with fail
  refine (specMemoryValid_c k.me a _ (X1.out.below HB0.out.below)).mono ?_
  rintro e w1 ⟨rfl, hb⟩
  rw [G0.out]
  have HB1 := Lib.hid (HB0.out.call hb)
  clear z0 z1 z2 z3 zz hb
  obtain ⟨z0, z1, z2, z3, -, -, -, -, zz⟩ := blk4 (HB1.out.get 0 rfl)
  go_wp2_with fail
  refine (specInfosValid_c k.inf b _ (X2.out.below HB1.out.below) HFF.out).mono ?_
  rintro e w2 ⟨rfl, hb⟩
  rw [G1.out]
  have HB2 := Lib.hid (HB1.out.call hb)
  clear z0 z1 z2 z3 zz hb
  obtain ⟨z0, z1, z2, z3, -, -, -, -, zz⟩ := blk4 (HB2.out.get 0 rfl)
  go_wp2_with fail
  refine (specCacheValid_c k.ca d _ (X4.out.below HB2.out.below)).mono ?_
  rintro e w3 ⟨rfl, hb⟩
  rw [G2.out]
  have HB3 := Lib.hid (HB2.out.call hb)
  clear z0 z1 z2 z3 zz hb
  obtain ⟨z0, z1, z2, z3, -, -, -, -, zz⟩ := blk4 (HB3.out.get 0 rfl)
  go_wp2_with fail
  refine (l21Envs_c k _ _ (X.out.below HB3.out.below) HFF.out HFE.out G0.out (infosOk_len G1.out)).mono ?_
  rintro e w4 ⟨rfl, hb⟩
  rw [G3.out]
  have HB4 := Lib.hid (HB3.out.call hb)
  clear z0 z1 z2 z3 zz hb
  obtain ⟨z0, z1, z2, z3, -, -, -, -, zz⟩ := blk4 (HB4.out.get 0 rfl)
  go_wp2_with fail
  refine (l21Tables_c k _ _ (X.out.below HB4.out.below) HFF.out G0.out G1.out).mono ?_
  rintro e w5 ⟨rfl, hb⟩
  rw [G4.out]
  have HB5 := Lib.hid (HB4.out.call hb)
  clear z0 z1 z2 z3 zz hb
  obtain ⟨z0, z1, z2, z3, -, -, -, -, zz⟩ := blk4 (HB5.out.get 0 rfl)
  go_wp2_with fail
  refine (l21Refs_c k _ _ (X.out.below HB5.out.below) G0.out (infosOk_len G1.out) (envs_parts G3.out).1 (envs_parts G3.out).2).mono ?_
  rintro e w6 ⟨rfl, hb⟩
  rw [G5.out]
  have HB6 := Lib.hid (HB5.out.call hb)
  clear z0 z1 z2 z3 zz hb
  obtain ⟨z0, z1, z2, z3, -, -, -, -, zz⟩ := blk4 (HB6.out.get 0 rfl)
  go_wp2_with fail
  refine (l21Cache_c k _ _ (X.out.below HB6.out.below) G0.out G2.out (envs_parts G3.out).1 (envs_parts G3.out).2).mono ?_
  rintro e w7 ⟨rfl, hb⟩
  rw [G6.out]
  have HB7 := Lib.hid (HB6.out.call hb)
  clear z0 z1 z2 z3 zz hb
  obtain ⟨z0, z1, z2, z3, -, -, -, -, zz⟩ := blk4 (HB7.out.get 0 rfl)
  go_wp2
  go_ret
  exact ⟨ret_bool (by rw [HV.out, G0.out, G1.out, G2.out, G3.out, G4.out, G5.out, G6.out]; simp), HB7.out.below⟩
end Go.Proofs.YtojknkpjnchchaaGreatDoor
