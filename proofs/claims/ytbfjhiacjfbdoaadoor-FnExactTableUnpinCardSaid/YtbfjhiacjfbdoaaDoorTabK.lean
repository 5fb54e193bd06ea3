/- Contracts of the functions that pin and unpin tables. No conditions but the readings of the arguments and the sizes of the texts. -/
import Derived.Test.YtbfjhiacjfbdoaaDoorTabJ
namespace Go.Proofs.YtbfjhiacjfbdoaaDoor
open Go.ChangeShapes Go.WideShapes Go.RowKit
set_option linter.all false
set_option maxRecDepth 100000
attribute [local go_sem ↓] Go.wp_at_zero Go.wp_at_succ

theorem fitF_addR {xs : List Info} (g : Nat → Int) (h : fitF xs) : fitF (addR xs g) := by
  intro y hy
  unfold addR at hy
  rw [List.mem_mapIdx] at hy
  obtain ⟨i, hi, rfl⟩ := hy
  exact h (xs[i]) (List.getElem_mem hi)
theorem fitF_set {xs : List Info} {k : Nat} {y : Info} (h : fitF xs) (hy : y.gd.length ≤ 9223372036854775807) : fitF (xs.set k y) := by
  intro z hz
  rcases List.mem_or_eq_of_mem_set hz with hz | rfl
  · exact h z hz
  · exact hy
theorem refs_set {xs : List Info} {k : Nat} {y : Info} (h : ∀ x ∈ xs, 0 ≤ x.rf ∧ x.rf ≤ 50) (hy : 0 ≤ y.rf ∧ y.rf ≤ 50) : ∀ x ∈ xs.set k y, 0 ≤ x.rf ∧ x.rf ≤ 50 := by
  intro z hz
  rcases List.mem_or_eq_of_mem_set hz with hz | rfl
  · exact h z hz
  · exact hy
set_option maxHeartbeats 8000000 in
theorem implTableUnpin_c (m : List (List Int)) (xs : List Info) (v v2 : Value) (f : Int) (w : World) (hm : RdII w v m) (hx : RdF w v2 xs) (hff : fitF xs) :
    Calls Tryd.prog 36 #[v, v2, .int .i64 f] w fun e w' => ∃ u, e = .returned (.tuple #[u, .int .i64 (unpC m xs f)]) ∧ OwFr w.heap.size w' u (unpL m xs f) ∧ Below w.heap.size w w' := by
  have HM := Lib.hid hm
  have HX := Lib.hid hx
  clear hm hx
  cases d0 : memOk m
  · have C0 := Lib.hid d0
    clear d0
    go_enter Tryd.func36, Tryd.ntmps36
    go_wp2_with fail
    refine (implMemoryValid_c m v _ (HM.out.below (bref _))).mono ?_
    rintro e v0 ⟨rfl, hb0⟩
    rw [C0.out]
    go_wp2
    go_ret2
    have hz := unp_bad (show argB m xs f = false by simp [argB, C0.out])
    rw [hz.1, hz.2]
    exact ⟨_, rfl, World.ownsRow_nil _ _ _ _, hb0⟩
  cases d1 : infosOk xs
  · have C0 := Lib.hid d0
    have C1 := Lib.hid d1
    clear d0 d1
    go_enter Tryd.func36, Tryd.ntmps36
    go_wp2_with fail
    refine (implMemoryValid_c m v _ (HM.out.below (bref _))).mono ?_
    rintro e v0 ⟨rfl, hb0⟩
    rw [C0.out]
    go_wp2_with fail
    refine (implInfosValid_c xs v2 _ (HX.out.below hb0) hff).mono ?_
    rintro e v1 ⟨rfl, hb1⟩
    have hb1 := bnext hb0 hb1
    rw [C1.out]
    go_wp2
    go_ret2
    have hz := unp_bad (show argB m xs f = false by simp [argB, C0.out, C1.out])
    rw [hz.1, hz.2]
    exact ⟨_, rfl, World.ownsRow_nil _ _ _ _, hb1⟩
  cases d2 : btw 0 f 11
  · have C0 := Lib.hid d0
    have C1 := Lib.hid d1
    have C2 := Lib.hid d2
    clear d0 d1 d2
    go_enter Tryd.func36, Tryd.ntmps36
    go_wp2_with fail
    refine (implMemoryValid_c m v _ (HM.out.below (bref _))).mono ?_
    rintro e v0 ⟨rfl, hb0⟩
    rw [C0.out]
    go_wp2_with fail
    refine (implInfosValid_c xs v2 _ (HX.out.below hb0) hff).mono ?_
    rintro e v1 ⟨rfl, hb1⟩
    have hb1 := bnext hb0 hb1
    rw [C1.out]
    go_wp2_with fail
    refine (isFrame_c f _).mono ?_
    rintro e v2 ⟨rfl, rfl⟩
    rw [C2.out]
    go_wp2
    go_ret2
    have hz := unp_bad (show argB m xs f = false by simp [argB, C0.out, C1.out, C2.out])
    rw [hz.1, hz.2]
    exact ⟨_, rfl, World.ownsRow_nil _ _ _ _, hb1⟩
  have ha : argB m xs f = true := by simp [argB, d0, d1, d2]
  have HA := Lib.hid ha
  have C0 := Lib.hid d0
  have C1 := Lib.hid d1
  have C2 := Lib.hid d2
  clear d0 d1 d2
  obtain ⟨hmo, hio, k, rfl, hk, -, x, hxk, hxo, hat⟩ := arg_parts ha
  have HMO := Lib.hid hmo
  have HXL := Lib.hid (infosOk_len hio)
  have HRF := Lib.hid (fun y (hy : y ∈ xs) => infoOk_refs (infosOk_all hio hy))
  have hxr := infoOk_refs hxo
  have HXK := Lib.hid hxk
  have HAT := Lib.hid hat
  obtain ⟨a, c, rfl, t1, t2, -, t3⟩ := HX.out
  obtain ⟨b, o, rfl, hbl, hc⟩ := t3 k x hxk
  have k0 := hc 0 _ rfl
  have k2 := hc 2 _ rfl
  simp only [Nat.add_zero] at k0
  have C0' := Lib.hid k0
  have C2' := Lib.hid k2
  rw [HXL.out] at t1 HX ⊢
  unfold maxLen at t2
  have hk0 : (0 : Int) ≤ (k : Int) := by omega
  have hk1 : (k : Int) < 12 := by omega
  have HFU := Lib.hid (fitF_set (k := k) (y := ⟨1, x.gd, x.rf + -1 * cntI (names (rowAt m (k : Int))) k⟩) (fitF_addR (fun i => -1 * cntI (names (rowAt m (k : Int))) i) hff) (hff x (List.mem_of_getElem? hxk)))
  have HU := Lib.hid (show (addR xs (fun i => -1 * cntI (names (rowAt m (k : Int))) i)).set k ⟨1, x.gd, x.rf + -1 * cntI (names (rowAt m (k : Int))) k⟩ = unpd m xs (k : Int) by simp [unpd, setK, infAt_addR hxk])
  rw [HU.out] at HFU
  clear hmo hio hxk hxo hat t3 hc k0 k2
  have R1 := Lib.hid (fun (hb : ubusyB xs (k : Int) = true) => (show unpC m xs (k : Int) = 1 ∧ unpL m xs (k : Int) = xs by simp [unpC, unpL, HA.out, hb]))
  have R3 := Lib.hid (fun (hb : ubusyB xs (k : Int) = false) (hi : infosOk (unpd m xs (k : Int)) = false) => (show unpC m xs (k : Int) = 2 ∧ unpL m xs (k : Int) = xs by simp [unpC, unpL, HA.out, hb, hi]))
  have R4 := Lib.hid (fun (hb : ubusyB xs (k : Int) = false) (hi : infosOk (unpd m xs (k : Int)) = true) => (show unpC m xs (k : Int) = 0 ∧ unpL m xs (k : Int) = unpd m xs (k : Int) by simp [unpC, unpL, HA.out, hb, hi]))
  clear ha
  go_enter Tryd.func36, Tryd.ntmps36
  go_wp2_with fail
  refine (implMemoryValid_c m v _ (HM.out.below (bref _))).mono ?_
  rintro e v0 ⟨rfl, hb0⟩
  rw [C0.out]
  go_wp2_with fail
  refine (implInfosValid_c xs _ _ (HX.out.below hb0) hff).mono ?_
  rintro e v1 ⟨rfl, hb1⟩
  have hb1 := bnext hb0 hb1
  rw [C1.out]
  go_wp2_with fail
  refine (isFrame_c _ _).mono ?_
  rintro e v2 ⟨rfl, rfl⟩
  rw [C2.out]
  have c0 := ((hb1).cell (p := ⟨b, o + k * 3, none⟩) hbl).trans C0'.out
  have c2 := ((hb1).cell (p := ⟨b, o + k * 3 + 2, none⟩) hbl).trans C2'.out
  go_wp2_with fail
  refine (isTable_c x.kd _).mono ?_
  rintro e v10 ⟨rfl, rfl⟩
  cases hkd : tabK x.kd
  · have HK := Lib.hid hkd
    clear hkd
    have HRES := Lib.hid (R1.out (by simp [ubusyB, HAT.out, HK.out]))
    clear R1 R3 R4
    go_wp2_with fail
    refine (cloneInfo_c xs _ _ (HX.out.below hb1) (by have := HXL.out; omega)).mono ?_
    rintro e v20 ⟨u, rfl, ho, hb20⟩
    go_wp2
    go_ret2
    rw [HRES.out.1, HRES.out.2]
    exact ⟨_, rfl, OwT.mono ho (Below.size hb1), bnext hb1 hb20⟩
  by_cases hrz : x.rf = 0
  rotate_left
  · have hrb : (x.rf != 0) = true := bne_iff_ne.2 hrz
    have HRES := Lib.hid (R1.out (by simp [ubusyB, HAT.out, hrz]))
    clear R1 R3 R4
    go_wp2_with fail
    refine (cloneInfo_c xs _ _ (HX.out.below hb1) (by have := HXL.out; omega)).mono ?_
    rintro e v20 ⟨u, rfl, ho, hb20⟩
    go_wp2
    go_ret2
    rw [HRES.out.1, HRES.out.2]
    exact ⟨_, rfl, OwT.mono ho (Below.size hb1), bnext hb1 hb20⟩
  have hrb : (x.rf != 0) = false := by simp [hrz]
  have HNB := Lib.hid (show ubusyB xs (k : Int) = false by simp [ubusyB, HAT.out, hkd, hrz])
  go_wp2_with fail
  refine (refer_c m xs v _ k (-1) _ (HM.out.below hb1) (HX.out.below hb1) HMO.out HXL.out HRF.out hk (.inr rfl)).mono ?_
  rintro e v12 ⟨u, rfl, ho, hb12⟩
  have H6 := Lib.hid (((Bun.refl w none).call hb1).addT ho hb12)
  have hb12 := bnext hb1 hb12
  clear ho
  have hg1 := addR_get (g := (fun i => -1 * cntI (names (rowAt m (k : Int))) i)) HXK.out
  obtain ⟨g, c3, rfl, g1, g2, g3, g4, g5, g6⟩ := H6.out.at 0 rfl Info.enc_len hg1
  have f0 := g5 (k * 3)
  have e0 := g6 0 _ rfl
  simp only [Nat.add_zero] at e0
  have H7 := Lib.hid (H6.out.store Info.enc_len (j := 0) (x' := ⟨1, x.gd, x.rf + (-1) * cntI (names (rowAt m (k : Int))) k⟩) (u := .int .i64 1) hg1 (by omega) rfl)
  rw [HU.out] at H7
  unfold maxLen at g3
  rw [addR_len, HXL.out] at H7 g1 g2 ⊢
  simp only [Nat.add_zero] at H7
  clear g5 g6 hg1 H6
  go_wp2_with fail
  refine (implInfosValid_c (unpd m xs (k : Int)) _ _ (H7.out.rd 0 rfl Info.enc_len) HFU.out).mono ?_
  rintro e v13 ⟨rfl, hb13⟩
  have H8 := Lib.hid (H7.out.call hb13)
  clear hb13
  cases hval : infosOk (unpd m xs (k : Int))
  · have HRES := Lib.hid (R3.out HNB.out hval)
    clear R1 R3 R4 hval
    go_wp2_with fail
    refine (cloneInfo_c xs _ _ (HX.out.below H8.out.below) (by have := HXL.out; omega)).mono ?_
    rintro e v20 ⟨u, rfl, ho, hb20⟩
    go_wp2
    go_ret2
    rw [HRES.out.1, HRES.out.2]
    exact ⟨_, rfl, OwT.mono ho (Below.size H8.out.below), bnext H8.out.below hb20⟩
  have HRES := Lib.hid (R4.out HNB.out hval)
  clear R1 R3 R4 hval
  go_wp2
  go_ret2
  rw [HRES.out.1, HRES.out.2]
  exact ⟨_, rfl, H8.out.ow 0 rfl, H8.out.below⟩
set_option maxHeartbeats 8000000 in
theorem specTableUnpin_c (m : List (List Int)) (xs : List Info) (v v2 : Value) (f : Int) (w : World) (hm : RdII w v m) (hx : RdF w v2 xs) (hff : fitF xs) :
    Calls Tryd.prog 35 #[v, v2, .int .i64 f] w fun e w' => ∃ u, e = .returned (.tuple #[u, .int .i64 (unpC m xs f)]) ∧ OwFr w.heap.size w' u (unpL m xs f) ∧ Below w.heap.size w w' := by
  have HM := Lib.hid hm
  have HX := Lib.hid hx
  clear hm hx
  cases d0 : argB m xs f
  · have C0 := Lib.hid d0
    clear d0
    go_enter Tryd.func35, Tryd.ntmps35
    go_wp2_with fail
    refine (l13Args_c m xs v v2 f _ (HM.out.below (bref _)) (HX.out.below (bref _)) hff).mono ?_
    rintro e v0 ⟨rfl, hb0⟩
    rw [C0.out]
    have H9 := Lib.hid (((Bun.refl w none).call hb0).lit eltInfo #[] [] rfl (by simp))
    go_wp2
    go_ret2
    have hz := unp_bad C0.out
    rw [hz.1, hz.2]
    exact ⟨_, rfl, H9.out.ow 0 rfl, H9.out.below⟩
  have ha := d0
  have HA := Lib.hid ha
  have C0 := Lib.hid d0
  clear d0
  obtain ⟨hmo, hio, k, rfl, hk, -, x, hxk, hxo, hat⟩ := arg_parts ha
  have HMO := Lib.hid hmo
  have HXL := Lib.hid (infosOk_len hio)
  have HRF := Lib.hid (fun y (hy : y ∈ xs) => infoOk_refs (infosOk_all hio hy))
  have hxr := infoOk_refs hxo
  have HXK := Lib.hid hxk
  have HAT := Lib.hid hat
  obtain ⟨a, c, rfl, t1, t2, -, t3⟩ := HX.out
  obtain ⟨b, o, rfl, hbl, hc⟩ := t3 k x hxk
  have k0 := hc 0 _ rfl
  have k2 := hc 2 _ rfl
  simp only [Nat.add_zero] at k0
  have C0' := Lib.hid k0
  have C2' := Lib.hid k2
  rw [HXL.out] at t1 HX ⊢
  unfold maxLen at t2
  have hk0 : (0 : Int) ≤ (k : Int) := by omega
  have hk1 : (k : Int) < 12 := by omega
  have HFU := Lib.hid (fitF_set (k := k) (y := ⟨1, x.gd, x.rf + -1 * cntI (names (rowAt m (k : Int))) k⟩) (fitF_addR (fun i => -1 * cntI (names (rowAt m (k : Int))) i) hff) (hff x (List.mem_of_getElem? hxk)))
  have HU := Lib.hid (show (addR xs (fun i => -1 * cntI (names (rowAt m (k : Int))) i)).set k ⟨1, x.gd, x.rf + -1 * cntI (names (rowAt m (k : Int))) k⟩ = unpd m xs (k : Int) by simp [unpd, setK, infAt_addR hxk])
  rw [HU.out] at HFU
  clear hmo hio hxk hxo hat t3 hc k0 k2
  have HSET := Lib.hid (show addR (xs.set k { x with kd := 1 }) (fun i => -1 * cntI (names (rowAt m (k : Int))) i) = unpd m xs (k : Int) by rw [addR_set HXK.out]; exact HU.out)
  have HRS := Lib.hid (refs_set (k := k) (y := { x with kd := 1 }) HRF.out hxr)
  have R1 := Lib.hid (fun (hb : ubusyB xs (k : Int) = true) => (show unpC m xs (k : Int) = 1 ∧ unpL m xs (k : Int) = xs by simp [unpC, unpL, HA.out, hb]))
  have R3 := Lib.hid (fun (hb : ubusyB xs (k : Int) = false) (hi : infosOk (unpd m xs (k : Int)) = false) => (show unpC m xs (k : Int) = 2 ∧ unpL m xs (k : Int) = xs by simp [unpC, unpL, HA.out, hb, hi]))
  have R4 := Lib.hid (fun (hb : ubusyB xs (k : Int) = false) (hi : infosOk (unpd m xs (k : Int)) = true) => (show unpC m xs (k : Int) = 0 ∧ unpL m xs (k : Int) = unpd m xs (k : Int) by simp [unpC, unpL, HA.out, hb, hi]))
  clear ha
  go_enter Tryd.func35, Tryd.ntmps35
  go_wp2_with fail
  refine (l13Args_c m xs v _ _ _ (HM.out.below (bref _)) (HX.out.below (bref _)) hff).mono ?_
  rintro e v0 ⟨rfl, hb0⟩
  rw [C0.out]
  go_wp2_with (at_builtin; refine append_b eltInfo rfl _ _ rfl _ _ xs rfl rfl (((Bun.refl w none).call hb0).lit eltInfo #[] [] rfl (by simp)) ((HX.out.below hb0).below (balloc _ _)) (by have := HXL.out; simp; omega) ?_; intro u w1 h4 hnil4; simp only [List.nil_append] at h4; have H4 := Lib.hid h4; clear h4 hnil4; have c0 := (H4.out.below.cell (p := ⟨b, o + k * 3, none⟩) hbl).trans C0'.out; have c2 := (H4.out.below.cell (p := ⟨b, o + k * 3 + 2, none⟩) hbl).trans C2'.out; obtain ⟨g, c3, rfl, g1, g2, g3, g4, g5, g6⟩ := H4.out.at 0 rfl Info.enc_len HXK.out; have f0 := g5 (k * 3); have e0 := g6 0 _ rfl; simp only [Nat.add_zero] at e0; have H5 := Lib.hid (H4.out.store Info.enc_len (j := 0) (x' := { x with kd := 1 }) (u := .int .i64 1) HXK.out (by omega) rfl); unfold maxLen at g3; rw [HXL.out] at H4 H5 g1 g2 ⊢; simp only [Nat.add_zero] at H5; clear g5 g6)
  refine (l13Table_c x.kd _).mono ?_
  rintro e v10 ⟨rfl, rfl⟩
  cases hkd : tabK x.kd
  · have HK := Lib.hid hkd
    clear hkd
    have HRES := Lib.hid (R1.out (by simp [ubusyB, HAT.out, HK.out]))
    clear R1 R3 R4
    go_wp2
    go_ret2
    rw [HRES.out.1, HRES.out.2]
    exact ⟨_, rfl, H4.out.ow 0 rfl, H4.out.below⟩
  by_cases hrz : x.rf = 0
  rotate_left
  · have hrb : (0 : Int) < x.rf := by omega
    have HRES := Lib.hid (R1.out (by simp [ubusyB, HAT.out, hrz]))
    clear R1 R3 R4
    go_wp2
    go_ret2
    rw [HRES.out.1, HRES.out.2]
    exact ⟨_, rfl, H4.out.ow 0 rfl, H4.out.below⟩
  have HNB := Lib.hid (show ubusyB xs (k : Int) = false by simp [ubusyB, HAT.out, hkd, hrz])
  go_wp2_with fail
  refine (l13Add_c m (xs.set k { x with kd := 1 }) v _ k (-1) _ (HM.out.below H5.out.below) (H5.out.rd 0 rfl Info.enc_len) HMO.out (by rw [List.length_set]; exact HXL.out) HRS.out hk (.inr rfl)).mono ?_
  rintro e v12 ⟨u, rfl, ho, hb12⟩
  rw [HSET.out] at ho
  have H6 := Lib.hid (H5.out.addT ho hb12)
  clear ho hb12
  go_wp2_with fail
  refine (specInfosValid_c (unpd m xs (k : Int)) _ _ (H6.out.rd 0 rfl Info.enc_len) HFU.out).mono ?_
  rintro e v13 ⟨rfl, hb13⟩
  have H8 := Lib.hid (H6.out.call hb13)
  clear hb13
  cases hval : infosOk (unpd m xs (k : Int))
  · have HRES := Lib.hid (R3.out HNB.out hval)
    clear R1 R3 R4 hval
    go_wp2_with (at_builtin; refine append_b eltInfo rfl _ _ rfl _ _ xs rfl rfl ((H8.out).lit eltInfo #[] [] rfl (by simp)) ((HX.out.below H8.out.below).below (balloc _ _)) (by have := HXL.out; simp; omega) ?_; intro u w1 h4 hnil4; simp only [List.nil_append] at h4; have H9 := Lib.hid h4; clear h4 hnil4)
    go_ret2
    rw [HRES.out.1, HRES.out.2]
    exact ⟨_, rfl, H9.out.ow 0 rfl, H9.out.below⟩
  have HRES := Lib.hid (R4.out HNB.out hval)
  clear R1 R3 R4 hval
  go_wp2
  go_ret2
  rw [HRES.out.1, HRES.out.2]
  exact ⟨_, rfl, H8.out.ow 0 rfl, H8.out.below⟩
end Go.Proofs.YtbfjhiacjfbdoaaDoor
