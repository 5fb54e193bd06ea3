/- Contracts of the functions that pin and unpin tables. No conditions but the readings of the arguments and the sizes of the texts. -/
import Derived.Test.YtklphfmjdgnpnaaDoorTabK
namespace Go.Proofs.YtklphfmjdgnpnaaDoor
open Go.ChangeShapes Go.WideShapes Go.RowKit
set_option linter.all false
set_option maxRecDepth 100000
attribute [local go_sem ↓] Go.wp_at_zero Go.wp_at_succ

set_option maxHeartbeats 8000000 in
theorem implTablePin_c (m : List (List Int)) (xs : List Info) (v v2 : Value) (v3 : Value) (f kind : Int) (rs : List Txt) (w : World) (hm : RdII w v m) (hx : RdF w v2 xs) (hff : fitF xs) (hr : RdS w v3 rs) (hfr : fitS rs) :
    Calls Tryd.prog 35 #[v, v2, .int .i64 f, .int .i64 kind, v3] w fun e w' => ∃ u, e = .returned (.tuple #[u, .int .i64 (pinC m xs f kind rs)]) ∧ OwFr w.heap.size w' u (pinL m xs f kind rs) ∧ Below w.heap.size w w' := by
  have HM := Lib.hid hm
  have HX := Lib.hid hx
  have HR := Lib.hid hr
  clear hm hx hr
  cases d0 : memOk m
  · have C0 := Lib.hid d0
    clear d0
    go_enter Tryd.func35, Tryd.ntmps35
    go_wp2_with fail
    refine (implMemoryValid_c m v _ (HM.out.below (bref _))).mono ?_
    rintro e v0 ⟨rfl, hb0⟩
    rw [C0.out]
    go_wp2
    go_ret2
    have hz := pinC_bad (show pinA m xs f kind rs = false by simp [pinA, argB, C0.out])
    rw [hz.1, hz.2]
    exact ⟨_, rfl, World.ownsRow_nil _ _ _ _, hb0⟩
  cases d1 : infosOk xs
  · have C0 := Lib.hid d0
    have C1 := Lib.hid d1
    clear d0 d1
    go_enter Tryd.func35, Tryd.ntmps35
    go_wp2_with fail
    refine (implMemoryValid_c m v _ (HM.out.below (bref _))).mono ?_
    rintro e v0 ⟨rfl, hb0⟩
    rw [C0.out]
    go_wp2_with fail
    refine (implInfosValid_c xs v2 _ (HX.out.below hb0) hff).mono ?_
    rintro e v1 ⟨rfl, hb1⟩
    have hb1 := bnext hb0 hb1
    rw [C1.out]
    go_wp2
    go_ret2
    have hz := pinC_bad (show pinA m xs f kind rs = false by simp [pinA, argB, C0.out, C1.out])
    rw [hz.1, hz.2]
    exact ⟨_, rfl, World.ownsRow_nil _ _ _ _, hb1⟩
  cases d2 : btw 0 f 11
  · have C0 := Lib.hid d0
    have C1 := Lib.hid d1
    have C2 := Lib.hid d2
    clear d0 d1 d2
    go_enter Tryd.func35, Tryd.ntmps35
    go_wp2_with fail
    refine (implMemoryValid_c m v _ (HM.out.below (bref _))).mono ?_
    rintro e v0 ⟨rfl, hb0⟩
    rw [C0.out]
    go_wp2_with fail
    refine (implInfosValid_c xs v2 _ (HX.out.below hb0) hff).mono ?_
    rintro e v1 ⟨rfl, hb1⟩
    have hb1 := bnext hb0 hb1
    rw [C1.out]
    go_wp2_with fail
    refine (isFrame_c f _).mono ?_
    rintro e v2 ⟨rfl, rfl⟩
    rw [C2.out]
    go_wp2
    go_ret2
    have hz := pinC_bad (show pinA m xs f kind rs = false by simp [pinA, argB, C0.out, C1.out, C2.out])
    rw [hz.1, hz.2]
    exact ⟨_, rfl, World.ownsRow_nil _ _ _ _, hb1⟩
  cases d3 : tabK kind
  · have C0 := Lib.hid d0
    have C1 := Lib.hid d1
    have C2 := Lib.hid d2
    have C3 := Lib.hid d3
    clear d0 d1 d2 d3
    go_enter Tryd.func35, Tryd.ntmps35
    go_wp2_with fail
    refine (implMemoryValid_c m v _ (HM.out.below (bref _))).mono ?_
    rintro e v0 ⟨rfl, hb0⟩
    rw [C0.out]
    go_wp2_with fail
    refine (implInfosValid_c xs v2 _ (HX.out.below hb0) hff).mono ?_
    rintro e v1 ⟨rfl, hb1⟩
    have hb1 := bnext hb0 hb1
    rw [C1.out]
    go_wp2_with fail
    refine (isFrame_c f _).mono ?_
    rintro e v2 ⟨rfl, rfl⟩
    rw [C2.out]
    go_wp2_with fail
    refine (isTable_c kind _).mono ?_
    rintro e v3 ⟨rfl, rfl⟩
    rw [C3.out]
    go_wp2
    go_ret2
    have hz := pinC_bad (show pinA m xs f kind rs = false by simp [pinA, argB, C0.out, C1.out, C2.out, C3.out])
    rw [hz.1, hz.2]
    exact ⟨_, rfl, World.ownsRow_nil _ _ _ _, hb1⟩
  cases d4 : rightsOk rs
  · have C0 := Lib.hid d0
    have C1 := Lib.hid d1
    have C2 := Lib.hid d2
    have C3 := Lib.hid d3
    have C4 := Lib.hid d4
    clear d0 d1 d2 d3 d4
    go_enter Tryd.func35, Tryd.ntmps35
    go_wp2_with fail
    refine (implMemoryValid_c m v _ (HM.out.below (bref _))).mono ?_
    rintro e v0 ⟨rfl, hb0⟩
    rw [C0.out]
    go_wp2_with fail
    refine (implInfosValid_c xs v2 _ (HX.out.below hb0) hff).mono ?_
    rintro e v1 ⟨rfl, hb1⟩
    have hb1 := bnext hb0 hb1
    rw [C1.out]
    go_wp2_with fail
    refine (isFrame_c f _).mono ?_
    rintro e v2 ⟨rfl, rfl⟩
    rw [C2.out]
    go_wp2_with fail
    refine (isTable_c kind _).mono ?_
    rintro e v3 ⟨rfl, rfl⟩
    rw [C3.out]
    go_wp2_with fail
    refine (implRightsValid_c rs v3 _ (HR.out.below hb1) hfr).mono ?_
    rintro e v4 ⟨rfl, hb4⟩
    have hb4 := bnext hb1 hb4
    rw [C4.out]
    go_wp2
    go_ret2
    have hz := pinC_bad (show pinA m xs f kind rs = false by simp [pinA, argB, C0.out, C1.out, C2.out, C3.out, C4.out])
    rw [hz.1, hz.2]
    exact ⟨_, rfl, World.ownsRow_nil _ _ _ _, hb4⟩
  have ha : argB m xs f = true := by simp [argB, d0, d1, d2]
  have HA := Lib.hid ha
  have hpa : pinA m xs f kind rs = true := by simp [pinA, ha, d3, d4]
  have C0 := Lib.hid d0
  have C1 := Lib.hid d1
  have C2 := Lib.hid d2
  have C3 := Lib.hid d3
  have C4 := Lib.hid d4
  clear d0 d1 d2 d3 d4
  obtain ⟨hmo, hio, k, rfl, hk, -, x, hxk, hxo, hat⟩ := arg_parts ha
  have HMO := Lib.hid hmo
  have HXL := Lib.hid (infosOk_len hio)
  have HRF := Lib.hid (fun y (hy : y ∈ xs) => infoOk_refs (infosOk_all hio hy))
  have hxr := infoOk_refs hxo
  have HXK := Lib.hid hxk
  have HAT := Lib.hid hat
  obtain ⟨a, c, rfl, t1, t2, -, t3⟩ := HX.out
  obtain ⟨b, o, rfl, hbl, hc⟩ := t3 k x hxk
  have k0 := hc 0 _ rfl
  have k2 := hc 2 _ rfl
  simp only [Nat.add_zero] at k0
  have C0' := Lib.hid k0
  have C2' := Lib.hid k2
  rw [HXL.out] at t1 HX ⊢
  unfold maxLen at t2
  have hk0 : (0 : Int) ≤ (k : Int) := by omega
  have hk1 : (k : Int) < 12 := by omega
  have HFU := Lib.hid (fitF_set (k := k) (y := ⟨kind, x.gd, x.rf + 1 * cntI (names (rowAt m (k : Int))) k⟩) (fitF_addR (fun i => 1 * cntI (names (rowAt m (k : Int))) i) hff) (hff x (List.mem_of_getElem? hxk)))
  have HU := Lib.hid (show (addR xs (fun i => 1 * cntI (names (rowAt m (k : Int))) i)).set k ⟨kind, x.gd, x.rf + 1 * cntI (names (rowAt m (k : Int))) k⟩ = pinned m xs (k : Int) kind by simp [pinned, setK, infAt_addR hxk])
  rw [HU.out] at HFU
  clear hmo hio hxk hxo hat t3 hc k0 k2
  have HPA := Lib.hid hpa
  have R1 := Lib.hid (fun (hb : busyB xs (k : Int) = true) => (show pinC m xs (k : Int) kind rs = 1 ∧ pinL m xs (k : Int) kind rs = xs by simp [pinC, pinL, hpa, hb]))
  have R2 := Lib.hid (fun (hb : busyB xs (k : Int) = false) (hg : goodB m xs (k : Int) kind rs = false) => (show pinC m xs (k : Int) kind rs = 2 ∧ pinL m xs (k : Int) kind rs = xs by simp [pinC, pinL, hpa, hb, hg]))
  have R3 := Lib.hid (fun (hb : busyB xs (k : Int) = false) (hg : goodB m xs (k : Int) kind rs = true) (hi : infosOk (pinned m xs (k : Int) kind) = false) => (show pinC m xs (k : Int) kind rs = 1 ∧ pinL m xs (k : Int) kind rs = xs by simp [pinC, pinL, hpa, hb, hg, hi]))
  have R4 := Lib.hid (fun (hb : busyB xs (k : Int) = false) (hg : goodB m xs (k : Int) kind rs = true) (hi : infosOk (pinned m xs (k : Int) kind) = true) => (show pinC m xs (k : Int) kind rs = 0 ∧ pinL m xs (k : Int) kind rs = pinned m xs (k : Int) kind by simp [pinC, pinL, hpa, hb, hg, hi]))
  clear hpa ha
  go_enter Tryd.func35, Tryd.ntmps35
  go_wp2_with fail
  refine (implMemoryValid_c m v _ (HM.out.below (bref _))).mono ?_
  rintro e v0 ⟨rfl, hb0⟩
  rw [C0.out]
  go_wp2_with fail
  refine (implInfosValid_c xs _ _ (HX.out.below hb0) hff).mono ?_
  rintro e v1 ⟨rfl, hb1⟩
  have hb1 := bnext hb0 hb1
  rw [C1.out]
  go_wp2_with fail
  refine (isFrame_c _ _).mono ?_
  rintro e v2 ⟨rfl, rfl⟩
  rw [C2.out]
  go_wp2_with fail
  refine (isTable_c kind _).mono ?_
  rintro e v3 ⟨rfl, rfl⟩
  rw [C3.out]
  go_wp2_with fail
  refine (implRightsValid_c rs v3 _ (HR.out.below hb1) hfr).mono ?_
  rintro e v4 ⟨rfl, hb4⟩
  have hb4 := bnext hb1 hb4
  rw [C4.out]
  have c0 := ((hb4).cell (p := ⟨b, o + k * 3, none⟩) hbl).trans C0'.out
  have c2 := ((hb4).cell (p := ⟨b, o + k * 3 + 2, none⟩) hbl).trans C2'.out
  by_cases hkd : x.kd = 1
  rotate_left
  · have hkb : (x.kd != 1) = true := bne_iff_ne.2 hkd
    have HRES := Lib.hid (R1.out (by simp [busyB, HAT.out, hkd]))
    clear R1 R3 R4 R2
    go_wp2_with fail
    refine (cloneInfo_c xs _ _ (HX.out.below hb4) (by have := HXL.out; omega)).mono ?_
    rintro e v20 ⟨u, rfl, ho, hb20⟩
    go_wp2
    go_ret2
    rw [HRES.out.1, HRES.out.2]
    exact ⟨_, rfl, OwT.mono ho (Below.size hb4), bnext hb4 hb20⟩
  have hkb : (x.kd != 1) = false := by simp [hkd]
  by_cases hrz : x.rf = 0
  rotate_left
  · have hrb : (x.rf != 0) = true := bne_iff_ne.2 hrz
    have HRES := Lib.hid (R1.out (by simp [busyB, HAT.out, hrz]))
    clear R1 R3 R4 R2
    go_wp2_with fail
    refine (cloneInfo_c xs _ _ (HX.out.below hb4) (by have := HXL.out; omega)).mono ?_
    rintro e v20 ⟨u, rfl, ho, hb20⟩
    go_wp2
    go_ret2
    rw [HRES.out.1, HRES.out.2]
    exact ⟨_, rfl, OwT.mono ho (Below.size hb4), bnext hb4 hb20⟩
  have hrb : (x.rf != 0) = false := by simp [hrz]
  have HNB := Lib.hid (show busyB xs (k : Int) = false by simp [busyB, HAT.out, hkd, hrz])
  go_wp2_with fail
  refine (good_c m xs v _ v3 _ kind rs _ (HM.out.below hb4) (HX.out.below hb4) hff (HR.out.below hb4) hfr HA.out).mono ?_
  rintro e v11 ⟨rfl, hb11⟩
  have hb11 := bnext hb4 hb11
  cases hgd : goodB m xs (k : Int) kind rs
  · have HG := Lib.hid hgd
    clear hgd
    have HRES := Lib.hid (R2.out HNB.out HG.out)
    clear R1 R2 R3 R4
    go_wp2_with fail
    refine (cloneInfo_c xs _ _ (HX.out.below hb11) (by have := HXL.out; omega)).mono ?_
    rintro e v20 ⟨u, rfl, ho, hb20⟩
    go_wp2
    go_ret2
    rw [HRES.out.1, HRES.out.2]
    exact ⟨_, rfl, OwT.mono ho (Below.size hb11), bnext hb11 hb20⟩
  have HG := Lib.hid hgd
  clear hgd
  go_wp2_with fail
  refine (refer_c m xs v _ k 1 _ (HM.out.below hb11) (HX.out.below hb11) HMO.out HXL.out HRF.out hk (.inl rfl)).mono ?_
  rintro e v12 ⟨u, rfl, ho, hb12⟩
  have H6 := Lib.hid (((Bun.refl w none).call hb11).addT ho hb12)
  have hb12 := bnext hb11 hb12
  clear ho
  have hg1 := addR_get (g := (fun i => 1 * cntI (names (rowAt m (k : Int))) i)) HXK.out
  obtain ⟨g, c3, rfl, g1, g2, g3, g4, g5, g6⟩ := H6.out.at 0 rfl Info.enc_len hg1
  have f0 := g5 (k * 3)
  have e0 := g6 0 _ rfl
  simp only [Nat.add_zero] at e0
  have H7 := Lib.hid (H6.out.store Info.enc_len (j := 0) (x' := ⟨kind, x.gd, x.rf + 1 * cntI (names (rowAt m (k : Int))) k⟩) (u := .int .i64 kind) hg1 (by omega) rfl)
  rw [HU.out] at H7
  unfold maxLen at g3
  rw [addR_len, HXL.out] at H7 g1 g2 ⊢
  simp only [Nat.add_zero] at H7
  clear g5 g6 hg1 H6
  go_wp2_with fail
  refine (implInfosValid_c (pinned m xs (k : Int) kind) _ _ (H7.out.rd 0 rfl Info.enc_len) HFU.out).mono ?_
  rintro e v13 ⟨rfl, hb13⟩
  have H8 := Lib.hid (H7.out.call hb13)
  clear hb13
  cases hval : infosOk (pinned m xs (k : Int) kind)
  · have HRES := Lib.hid (R3.out HNB.out HG.out hval)
    clear R1 R3 R4 hval R2
    go_wp2_with fail
    refine (cloneInfo_c xs _ _ (HX.out.below H8.out.below) (by have := HXL.out; omega)).mono ?_
    rintro e v20 ⟨u, rfl, ho, hb20⟩
    go_wp2
    go_ret2
    rw [HRES.out.1, HRES.out.2]
    exact ⟨_, rfl, OwT.mono ho (Below.size H8.out.below), bnext H8.out.below hb20⟩
  have HRES := Lib.hid (R4.out HNB.out HG.out hval)
  clear R1 R3 R4 hval R2
  go_wp2
  go_ret2
  rw [HRES.out.1, HRES.out.2]
  exact ⟨_, rfl, H8.out.ow 0 rfl, H8.out.below⟩
set_option maxHeartbeats 8000000 in
theorem specTablePin_c (m : List (List Int)) (xs : List Info) (v v2 : Value) (v3 : Value) (f kind : Int) (rs : List Txt) (w : World) (hm : RdII w v m) (hx : RdF w v2 xs) (hff : fitF xs) (hr : RdS w v3 rs) (hfr : fitS rs) :
    Calls Tryd.prog 36 #[v, v2, .int .i64 f, .int .i64 kind, v3] w fun e w' => ∃ u, e = .returned (.tuple #[u, .int .i64 (pinC m xs f kind rs)]) ∧ OwFr w.heap.size w' u (pinL m xs f kind rs) ∧ Below w.heap.size w w' := by
  have HM := Lib.hid hm
  have HX := Lib.hid hx
  have HR := Lib.hid hr
  clear hm hx hr
  cases d0 : argB m xs f
  · have C0 := Lib.hid d0
    clear d0
    go_enter Tryd.func36, Tryd.ntmps36
    go_wp2_with fail
    refine (l13Args_c m xs v v2 f _ (HM.out.below (bref _)) (HX.out.below (bref _)) hff).mono ?_
    rintro e v0 ⟨rfl, hb0⟩
    rw [C0.out]
    have H9 := Lib.hid (((Bun.refl w none).call hb0).lit eltInfo #[] [] rfl (by simp))
    go_wp2
    go_ret2
    have hz := pinC_bad (show pinA m xs f kind rs = false by simp [pinA, C0.out])
    rw [hz.1, hz.2]
    exact ⟨_, rfl, H9.out.ow 0 rfl, H9.out.below⟩
  cases d1 : tabK kind
  · have C0 := Lib.hid d0
    have C1 := Lib.hid d1
    clear d0 d1
    go_enter Tryd.func36, Tryd.ntmps36
    go_wp2_with fail
    refine (l13Args_c m xs v v2 f _ (HM.out.below (bref _)) (HX.out.below (bref _)) hff).mono ?_
    rintro e v0 ⟨rfl, hb0⟩
    rw [C0.out]
    go_wp2_with fail
    refine (l13Table_c kind _).mono ?_
    rintro e v1 ⟨rfl, rfl⟩
    rw [C1.out]
    have H9 := Lib.hid (((Bun.refl w none).call hb0).lit eltInfo #[] [] rfl (by simp))
    go_wp2
    go_ret2
    have hz := pinC_bad (show pinA m xs f kind rs = false by simp [pinA, C0.out, C1.out])
    rw [hz.1, hz.2]
    exact ⟨_, rfl, H9.out.ow 0 rfl, H9.out.below⟩
  cases d2 : rightsOk rs
  · have C0 := Lib.hid d0
    have C1 := Lib.hid d1
    have C2 := Lib.hid d2
    clear d0 d1 d2
    go_enter Tryd.func36, Tryd.ntmps36
    go_wp2_with fail
    refine (l13Args_c m xs v v2 f _ (HM.out.below (bref _)) (HX.out.below (bref _)) hff).mono ?_
    rintro e v0 ⟨rfl, hb0⟩
    rw [C0.out]
    go_wp2_with fail
    refine (l13Table_c kind _).mono ?_
    rintro e v1 ⟨rfl, rfl⟩
    rw [C1.out]
    go_wp2_with fail
    refine (specRightsValid_c rs v3 _ (HR.out.below hb0) hfr).mono ?_
    rintro e v2 ⟨rfl, hb2⟩
    have hb2 := bnext hb0 hb2
    rw [C2.out]
    have H9 := Lib.hid (((Bun.refl w none).call hb2).lit eltInfo #[] [] rfl (by simp))
    go_wp2
    go_ret2
    have hz := pinC_bad (show pinA m xs f kind rs = false by simp [pinA, C0.out, C1.out, C2.out])
    rw [hz.1, hz.2]
    exact ⟨_, rfl, H9.out.ow 0 rfl, H9.out.below⟩
  have ha := d0
  have HA := Lib.hid ha
  have hpa : pinA m xs f kind rs = true := by simp [pinA, d0, d1, d2]
  have HKT := Lib.hid d1
  have C0 := Lib.hid d0
  have C1 := Lib.hid d1
  have C2 := Lib.hid d2
  clear d0 d1 d2
  obtain ⟨hmo, hio, k, rfl, hk, -, x, hxk, hxo, hat⟩ := arg_parts ha
  have HMO := Lib.hid hmo
  have HXL := Lib.hid (infosOk_len hio)
  have HRF := Lib.hid (fun y (hy : y ∈ xs) => infoOk_refs (infosOk_all hio hy))
  have hxr := infoOk_refs hxo
  have HXK := Lib.hid hxk
  have HAT := Lib.hid hat
  obtain ⟨a, c, rfl, t1, t2, -, t3⟩ := HX.out
  obtain ⟨b, o, rfl, hbl, hc⟩ := t3 k x hxk
  have k0 := hc 0 _ rfl
  have k2 := hc 2 _ rfl
  simp only [Nat.add_zero] at k0
  have C0' := Lib.hid k0
  have C2' := Lib.hid k2
  rw [HXL.out] at t1 HX ⊢
  unfold maxLen at t2
  have hk0 : (0 : Int) ≤ (k : Int) := by omega
  have hk1 : (k : Int) < 12 := by omega
  have HFU := Lib.hid (fitF_set (k := k) (y := ⟨kind, x.gd, x.rf + 1 * cntI (names (rowAt m (k : Int))) k⟩) (fitF_addR (fun i => 1 * cntI (names (rowAt m (k : Int))) i) hff) (hff x (List.mem_of_getElem? hxk)))
  have HU := Lib.hid (show (addR xs (fun i => 1 * cntI (names (rowAt m (k : Int))) i)).set k ⟨kind, x.gd, x.rf + 1 * cntI (names (rowAt m (k : Int))) k⟩ = pinned m xs (k : Int) kind by simp [pinned, setK, infAt_addR hxk])
  rw [HU.out] at HFU
  clear hmo hio hxk hxo hat t3 hc k0 k2
  have HSET := Lib.hid (show addR (xs.set k { x with kd := kind }) (fun i => 1 * cntI (names (rowAt m (k : Int))) i) = pinned m xs (k : Int) kind by rw [addR_set HXK.out]; exact HU.out)
  have HRS := Lib.hid (refs_set (k := k) (y := { x with kd := kind }) HRF.out hxr)
  have HPA := Lib.hid hpa
  have R1 := Lib.hid (fun (hb : busyB xs (k : Int) = true) => (show pinC m xs (k : Int) kind rs = 1 ∧ pinL m xs (k : Int) kind rs = xs by simp [pinC, pinL, hpa, hb]))
  have R2 := Lib.hid (fun (hb : busyB xs (k : Int) = false) (hg : goodB m xs (k : Int) kind rs = false) => (show pinC m xs (k : Int) kind rs = 2 ∧ pinL m xs (k : Int) kind rs = xs by simp [pinC, pinL, hpa, hb, hg]))
  have R3 := Lib.hid (fun (hb : busyB xs (k : Int) = false) (hg : goodB m xs (k : Int) kind rs = true) (hi : infosOk (pinned m xs (k : Int) kind) = false) => (show pinC m xs (k : Int) kind rs = 1 ∧ pinL m xs (k : Int) kind rs = xs by simp [pinC, pinL, hpa, hb, hg, hi]))
  have R4 := Lib.hid (fun (hb : busyB xs (k : Int) = false) (hg : goodB m xs (k : Int) kind rs = true) (hi : infosOk (pinned m xs (k : Int) kind) = true) => (show pinC m xs (k : Int) kind rs = 0 ∧ pinL m xs (k : Int) kind rs = pinned m xs (k : Int) kind by simp [pinC, pinL, hpa, hb, hg, hi]))
  clear hpa ha
  go_enter Tryd.func36, Tryd.ntmps36
  go_wp2_with fail
  refine (l13Args_c m xs v _ _ _ (HM.out.below (bref _)) (HX.out.below (bref _)) hff).mono ?_
  rintro e v0 ⟨rfl, hb0⟩
  rw [C0.out]
  go_wp2_with fail
  refine (l13Table_c kind _).mono ?_
  rintro e v1 ⟨rfl, rfl⟩
  rw [C1.out]
  go_wp2_with fail
  refine (specRightsValid_c rs v3 _ (HR.out.below hb0) hfr).mono ?_
  rintro e v2 ⟨rfl, hb2⟩
  have hb2 := bnext hb0 hb2
  rw [C2.out]
  by_cases hkd : x.kd = 1
  rotate_left
  · have hkb : (x.kd != 1) = true := bne_iff_ne.2 hkd
    go_wp2_with (at_builtin; refine append_b eltInfo rfl _ _ rfl _ _ xs rfl rfl (((Bun.refl w none).call hb2).lit eltInfo #[] [] rfl (by simp)) ((HX.out.below hb2).below (balloc _ _)) (by have := HXL.out; simp; omega) ?_; intro u w1 h4 hnil4; simp only [List.nil_append] at h4; have H4 := Lib.hid h4; clear h4 hnil4; have c0 := (H4.out.below.cell (p := ⟨b, o + k * 3, none⟩) hbl).trans C0'.out; have c2 := (H4.out.below.cell (p := ⟨b, o + k * 3 + 2, none⟩) hbl).trans C2'.out; obtain ⟨g, c3, rfl, g1, g2, g3, g4, g5, g6⟩ := H4.out.at 0 rfl Info.enc_len HXK.out; have f0 := g5 (k * 3); have e0 := g6 0 _ rfl; simp only [Nat.add_zero] at e0; have H5 := Lib.hid (H4.out.store Info.enc_len (j := 0) (x' := { x with kd := kind }) (u := .int .i64 kind) HXK.out (by omega) rfl); unfold maxLen at g3; rw [HXL.out] at H4 H5 g1 g2 ⊢; simp only [Nat.add_zero] at H5; clear g5 g6)
    have HRES := Lib.hid (R1.out (by simp [busyB, HAT.out, hkd]))
    clear R1 R3 R4 R2
    go_ret2
    rw [HRES.out.1, HRES.out.2]
    exact ⟨_, rfl, H4.out.ow 0 rfl, H4.out.below⟩
  have hkb : (x.kd != 1) = false := by simp [hkd]
  by_cases hrz : x.rf = 0
  rotate_left
  · have hrb : (0 : Int) < x.rf := by omega
    go_wp2_with (at_builtin; refine append_b eltInfo rfl _ _ rfl _ _ xs rfl rfl (((Bun.refl w none).call hb2).lit eltInfo #[] [] rfl (by simp)) ((HX.out.below hb2).below (balloc _ _)) (by have := HXL.out; simp; omega) ?_; intro u w1 h4 hnil4; simp only [List.nil_append] at h4; have H4 := Lib.hid h4; clear h4 hnil4; have c0 := (H4.out.below.cell (p := ⟨b, o + k * 3, none⟩) hbl).trans C0'.out; have c2 := (H4.out.below.cell (p := ⟨b, o + k * 3 + 2, none⟩) hbl).trans C2'.out; obtain ⟨g, c3, rfl, g1, g2, g3, g4, g5, g6⟩ := H4.out.at 0 rfl Info.enc_len HXK.out; have f0 := g5 (k * 3); have e0 := g6 0 _ rfl; simp only [Nat.add_zero] at e0; have H5 := Lib.hid (H4.out.store Info.enc_len (j := 0) (x' := { x with kd := kind }) (u := .int .i64 kind) HXK.out (by omega) rfl); unfold maxLen at g3; rw [HXL.out] at H4 H5 g1 g2 ⊢; simp only [Nat.add_zero] at H5; clear g5 g6)
    have HRES := Lib.hid (R1.out (by simp [busyB, HAT.out, hrz]))
    clear R1 R3 R4 R2
    go_ret2
    rw [HRES.out.1, HRES.out.2]
    exact ⟨_, rfl, H4.out.ow 0 rfl, H4.out.below⟩
  have HNB := Lib.hid (show busyB xs (k : Int) = false by simp [busyB, HAT.out, hkd, hrz])
  go_wp2_with (at_builtin; refine append_b eltInfo rfl _ _ rfl _ _ xs rfl rfl (((Bun.refl w none).call hb2).lit eltInfo #[] [] rfl (by simp)) ((HX.out.below hb2).below (balloc _ _)) (by have := HXL.out; simp; omega) ?_; intro u w1 h4 hnil4; simp only [List.nil_append] at h4; have H4 := Lib.hid h4; clear h4 hnil4; have c0 := (H4.out.below.cell (p := ⟨b, o + k * 3, none⟩) hbl).trans C0'.out; have c2 := (H4.out.below.cell (p := ⟨b, o + k * 3 + 2, none⟩) hbl).trans C2'.out; obtain ⟨g, c3, rfl, g1, g2, g3, g4, g5, g6⟩ := H4.out.at 0 rfl Info.enc_len HXK.out; have f0 := g5 (k * 3); have e0 := g6 0 _ rfl; simp only [Nat.add_zero] at e0; have H5 := Lib.hid (H4.out.store Info.enc_len (j := 0) (x' := { x with kd := kind }) (u := .int .i64 kind) HXK.out (by omega) rfl); unfold maxLen at g3; rw [HXL.out] at H4 H5 g1 g2 ⊢; simp only [Nat.add_zero] at H5; clear g5 g6)
  refine (l13Ok_c m xs v _ v3 _ kind rs _ (HM.out.below H4.out.below) (HX.out.below H4.out.below) hff (HR.out.below H4.out.below) hfr HA.out HKT.out).mono ?_
  rintro e v11 ⟨rfl, rfl⟩
  cases hgd : goodB m xs (k : Int) kind rs
  · have HG := Lib.hid hgd
    clear hgd
    have HRES := Lib.hid (R2.out HNB.out HG.out)
    clear R1 R2 R3 R4
    go_wp2
    go_ret2
    rw [HRES.out.1, HRES.out.2]
    exact ⟨_, rfl, H4.out.ow 0 rfl, H4.out.below⟩
  have HG := Lib.hid hgd
  clear hgd
  go_wp2_with fail
  refine (l13Add_c m (xs.set k { x with kd := kind }) v _ k 1 _ (HM.out.below H5.out.below) (H5.out.rd 0 rfl Info.enc_len) HMO.out (by rw [List.length_set]; exact HXL.out) HRS.out hk (.inl rfl)).mono ?_
  rintro e v12 ⟨u, rfl, ho, hb12⟩
  rw [HSET.out] at ho
  have H6 := Lib.hid (H5.out.addT ho hb12)
  clear ho hb12
  go_wp2_with fail
  refine (specInfosValid_c (pinned m xs (k : Int) kind) _ _ (H6.out.rd 0 rfl Info.enc_len) HFU.out).mono ?_
  rintro e v13 ⟨rfl, hb13⟩
  have H8 := Lib.hid (H6.out.call hb13)
  clear hb13
  cases hval : infosOk (pinned m xs (k : Int) kind)
  · have HRES := Lib.hid (R3.out HNB.out HG.out hval)
    clear R1 R3 R4 hval R2
    go_wp2_with (at_builtin; refine append_b eltInfo rfl _ _ rfl _ _ xs rfl rfl ((H8.out).lit eltInfo #[] [] rfl (by simp)) ((HX.out.below H8.out.below).below (balloc _ _)) (by have := HXL.out; simp; omega) ?_; intro u w1 h4 hnil4; simp only [List.nil_append] at h4; have H9 := Lib.hid h4; clear h4 hnil4)
    go_ret2
    rw [HRES.out.1, HRES.out.2]
    exact ⟨_, rfl, H9.out.ow 0 rfl, H9.out.below⟩
  have HRES := Lib.hid (R4.out HNB.out HG.out hval)
  clear R1 R3 R4 hval R2
  go_wp2
  go_ret2
  rw [HRES.out.1, HRES.out.2]
  exact ⟨_, rfl, H8.out.ow 0 rfl, H8.out.below⟩
end Go.Proofs.YtklphfmjdgnpnaaDoor
