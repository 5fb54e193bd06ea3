/- Contracts of the reference's functions that walk from table to table. No conditions but the readings of the arguments. -/
import Derived.Test.YtojknkpjnchchaaGreatDoorKerL
namespace Go.Proofs.YtojknkpjnchchaaGreatDoor
open Go.ChangeShapes Go.WideShapes Go.ChangeAt Go.RowKit
set_option linter.all false
set_option maxRecDepth 100000
attribute [local go_sem ↓] Go.wp_at_zero Go.wp_at_succ

theorem allN_one (m : List (List Int)) (f : Int) : allN m [f] = names (rowAt m f) := by simp [allN]

set_option maxHeartbeats 2000000 in
theorem l3Tables_c (m : List (List Int)) (root : Int) (v : Value) (w : World) (hm : RdII w v m) (hmo : memOk m = true) (hr : 0 ≤ root ∧ root ≤ 11) :
    Calls Tryz.prog 119 #[v, .int .i64 root] w fun e w' => ∃ u, e = .returned u ∧ OwI w.heap.size w' u (namedL m [root]) ∧ Below w.heap.size w w' := by
  obtain ⟨k, rfl⟩ := Int.eq_ofNat_of_zero_le hr.1
  have hk : k < 12 := by omega
  have hk0 : (0 : Int) ≤ (k : Int) := by omega
  have hk1 : (k : Int) < 12 := by omega
  have HML := Lib.hid (memOk_len hmo)
  obtain ⟨ws, hws⟩ : ∃ ws, m[k]? = some ws := ⟨_, List.getElem?_eq_getElem (by rw [memOk_len hmo]; omega)⟩
  obtain ⟨ad, cm, s, rfl, s1, s2, s3, hbl, hsp, hcell, hrd⟩ := RdN.rowOf hm hws
  have hwo := memOk_all hmo (List.mem_of_getElem? hws)
  have HWL := Lib.hid (wordsOk_len hwo)
  have HWI := Lib.hid (fun x hx => words_in hwo (x := x) hx)
  have HN := Lib.hid (show namedL m [(k : Int)] = uniq (names ws) by unfold namedL; rw [allN_one, rowAt_eq hws])
  obtain ⟨mb, mo, sp⟩ := ad
  simp only at hsp hbl hcell
  subst hsp
  have HRD := Lib.hid hrd
  rw [HML.out] at s1 ⊢
  unfold maxLen at s2
  clear hm hmo hws hwo hrd s3 hr
  go_enter Tryz.func119, Tryz.ntmps119
  go_wp2_with fail
  refine (l3Named_c ws (slv s) _ HRD.out HWI.out (by have := HWL.out; omega)).mono ?_
  rintro e w1 ⟨u, rfl, ho, hb⟩
  have H1 := Lib.hid ((Bun.refl w none).addT ho hb)
  clear ho hb
  go_wp2_with fail
  refine (l3Sorted_c (names ws) u _ (H1.out.rd 0 rfl encI_len) (by have h1 := names_le ws; have h2 := HWL.out; omega)).mono ?_
  rintro e w2 ⟨u2, rfl, ho, hb⟩
  have H2 := Lib.hid (H1.out.addT ho hb)
  clear ho hb H1
  go_wp2
  go_ret
  rw [HN.out]
  exact ⟨_, rfl, H2.out.ow 0 rfl, H2.out.below⟩

set_option maxHeartbeats 4000000 in
theorem l3Frames_c (m : List (List Int)) (root : Int) (v : Value) (w : World) (hm : RdII w v m) (hmo : memOk m = true) (hr : 0 ≤ root ∧ root ≤ 11) :
    Calls Tryz.prog 121 #[v, .int .i64 root] w fun e w' => ∃ u, e = .returned u ∧ OwI w.heap.size w' u (namedL m (namedL m [root])) ∧ Below w.heap.size w w' := by
  have HM := Lib.hid hm
  have HMO := Lib.hid hmo
  have HML := Lib.hid (memOk_len hmo)
  have HR := Lib.hid hr
  obtain ⟨w0', hw0⟩ : ∃ ws, m[0]? = some ws := ⟨_, List.getElem?_eq_getElem (by rw [memOk_len hmo]; omega)⟩
  obtain ⟨ad, cm, s0, rfl, s1, s2, s3, -, -, -, -⟩ := RdN.rowOf hm hw0
  rw [HML.out] at s1 HM ⊢
  unfold maxLen at s2
  clear hm hw0 s3 hr
  have H0 := Lib.hid ((Bun.refl w none).lits eltInt #[] [] 0 rfl rfl (by omega))
  go_enter Tryz.func121, Tryz.ntmps121
  go_wp2_with fail
  refine (l3Tables_c m root _ _ (HM.out.below H0.out.below) hmo HR.out).mono ?_
  rintro e w1 ⟨tv, rfl, ho, hb⟩
  have H1 := Lib.hid ((H0.out.addT ho hb).front 1 rfl)
  clear ho hb H0 hmo
  have HTM := Lib.hid (fun f (hf : f ∈ namedL m [root]) => namedL_mem hf)
  have HTL := Lib.hid (namedL_len m [root])
  have HAL := Lib.hid (fun k : Nat => (show (allN m ((namedL m [root]).take k)).length ≤ 48 from Nat.le_trans (allN_len HMO.out fun f hf => namedL_mem (List.mem_of_mem_take hf)) (by rw [List.length_take]; have := namedL_len m [root]; omega)))
  obtain ⟨ta, tc, rfl, t1, t2, -, -⟩ := H1.out.rd 1 rfl encI_len
  obtain ⟨ts, hts⟩ : ∃ ts, ts = namedL m [root] := ⟨_, rfl⟩
  rw [← hts] at H1 HTM HTL HAL t1 ⊢
  obtain ⟨n, hn⟩ : ∃ n, n = ts.length := ⟨_, rfl⟩
  rw [← hn] at t1 H1 HTL ⊢
  have HN := Lib.hid hn
  have hn12 := HTL.out
  unfold maxLen at t2
  have HTS := Lib.hid hts
  clear hts hn
  go_wp2
  go_loopw [5, 7] (fun ov i wr => ∃ k : Nat, k ≤ n ∧ i = .int .i64 k ∧ Bun w none wr [Res.row encI 1 3 ov (allN m (ts.take k)), Res.row encI 1 3 (.slice ta n tc) ts]) (fun _ i _ => n - (intOf i).toNat)
  case atStart => exact ⟨0, Nat.zero_le _, rfl, H1.out⟩
  case round =>
    obtain ⟨k, hk, rfl, hb⟩ := hrel
    have HB := Lib.hid hb
    clear hb H1
    by_cases hlt : k < n
    · obtain ⟨f, hf⟩ : ∃ f, ts[k]? = some f := ⟨_, List.getElem?_eq_getElem (by have := HN.out; omega)⟩
      obtain ⟨ga, gc, e1, -, -, -, -, -, h6⟩ := HB.out.at 1 rfl encI_len hf
      simp only [Value.slice.injEq] at e1
      obtain ⟨rfl, -, rfl⟩ := e1
      have d0 := h6 0 _ rfl
      simp only [Nat.mul_one, Nat.add_zero] at d0
      have hfr := HTM.out f (List.mem_of_getElem? hf)
      obtain ⟨t, rfl⟩ := Int.eq_ofNat_of_zero_le hfr.1
      have ht : t < 12 := by omega
      have ht0 : (0 : Int) ≤ (t : Int) := by omega
      have ht1 : (t : Int) < 12 := by omega
      have hk0 : (0 : Int) ≤ (k : Int) := by omega
      have hk1 : (k : Int) < (n : Int) := by omega
      obtain ⟨ws, hws⟩ : ∃ ws, m[t]? = some ws := ⟨_, List.getElem?_eq_getElem (by have := HML.out; omega)⟩
      obtain ⟨ad2, cm2, s, e2, -, -, -, hbl2, hsp, hcell, hrd⟩ := RdN.rowOf HM.out hws
      simp only [Value.slice.injEq, Option.some.injEq] at e2
      obtain ⟨rfl, -, rfl⟩ := e2
      obtain ⟨mb, mo, sp⟩ := ad
      simp only at hsp hbl2 hcell
      subst hsp
      have HWL := Lib.hid (wordsOk_len (memOk_all HMO.out (List.mem_of_getElem? hws)))
      have HW := Lib.hid (fun x hx => words_in (memOk_all HMO.out (List.mem_of_getElem? hws)) (x := x) hx)
      have c0 := (HB.out.below.cell (p := ⟨mb, mo + t, none⟩) hbl2).trans hcell
      have HSUC := Lib.hid (show allN m (ts.take (k + 1)) = allN m (ts.take k) ++ names ws by rw [allN_succ m hf, rowAt_eq hws])
      have HRD := Lib.hid hrd
      clear h6 hf hws hcell hrd
      go_wp2_with fail
      refine (l3Named_c ws (slv s) _ (HRD.out.below HB.out.below) HW.out (by have := HWL.out; omega)).mono ?_
      rintro e w2 ⟨u2, rfl, ho, hb⟩
      have H2 := Lib.hid ((HB.out.addT ho hb).front 1 rfl)
      clear ho hb HB d0 c0
      go_wp2_with (at_builtin; refine append_b eltInt rfl _ _ rfl _ _ (names ws) rfl rfl H2.out (H2.out.rd 1 rfl encI_len) (by have h5 := HAL.out k; have h6 := names_le ws; have h7 := HWL.out; omega) ?_; intro v3 w3 H3 hnil3; have H4 := Lib.hid (H3.rm 1); clear H3 hnil3 H2)
      go_roundw
      case rel => exact ⟨k + 1, by omega, by go_num, by rw [HSUC.out]; exact H4.out⟩
      case measure => simp [intOf]; omega
    · have hkn : k = n := by omega
      subst hkn
      have hE := HB.out
      rw [show ts.take k = ts from List.take_of_length_le (by have := HN.out; omega)] at hE
      have HE := Lib.hid hE
      have HLL := Lib.hid (show (allN m ts).length ≤ 1000 by have h5 := HAL.out k; rw [show ts.take k = ts from List.take_of_length_le (by have := HN.out; omega)] at h5; omega)
      clear hE HB
      go_wp2_with fail
      refine (l3Sorted_c (allN m ts) _ _ (HE.out.rd 0 rfl encI_len) HLL.out).mono ?_
      rintro e w2 ⟨u2, rfl, ho, hb⟩
      have H2 := Lib.hid (HE.out.addT ho hb)
      clear ho hb HE
      go_wp2
      go_ret
      rw [show namedL m (namedL m [root]) = uniq (allN m ts) by rw [HTS.out]; rfl]
      exact ⟨_, rfl, H2.out.ow 0 rfl, H2.out.below⟩

set_option maxHeartbeats 4000000 in
theorem l21Reach_c (m : List (List Int)) (root : Int) (v : Value) (w : World) (hm : RdII w v m) (hmo : memOk m = true) (hr : -1 ≤ root ∧ root ≤ 11) :
    Calls Tryz.prog 61 #[v, .int .i64 root] w fun e w' => ∃ u, e = .returned u ∧ OwI w.heap.size w' u (reachL m root) ∧ Below w.heap.size w w' := by
  have HM := Lib.hid hm
  obtain ⟨hr0, hr1⟩ := hr
  by_cases hneg : root < 0
  · have HL := Lib.hid (show reachL m root = [] by simp [reachL, hneg])
    have H0 := Lib.hid ((Bun.refl w none).lits eltInt #[] [] 0 rfl rfl (by omega))
    clear hm
    go_enter Tryz.func61, Tryz.ntmps61
    go_wp2
    go_ret
    rw [HL.out]
    exact ⟨_, rfl, H0.out.ow 0 rfl, H0.out.below⟩
  have HL := Lib.hid (show reachL m root = uniq ([root] ++ namedL m [root] ++ namedL m (namedL m [root])) by simp [reachL, hneg])
  have HLA := Lib.hid (namedL_len m [root])
  have HLB := Lib.hid (namedL_len m (namedL m [root]))
  have H0 := Lib.hid ((Bun.refl w none).lits eltInt #[.int .i64 root] [root] 1 rfl rfl (by omega))
  clear hm
  go_enter Tryz.func61, Tryz.ntmps61
  go_wp2_with fail
  refine (l3Tables_c m root v _ (HM.out.below H0.out.below) hmo (by omega)).mono ?_
  rintro e w1 ⟨ua, rfl, ho, hb⟩
  have H2 := Lib.hid ((H0.out.addT ho hb).front 1 rfl)
  clear ho hb H0
  go_wp2_with (at_builtin; refine append_b eltInt rfl _ _ rfl _ _ (namedL m [root]) rfl rfl H2.out (H2.out.rd 1 rfl encI_len) (by have := HLA.out; simp only [List.length_cons, List.length_nil]; omega) ?_; intro v2 w2 H3 hnil2; have H4 := Lib.hid (H3.rm 1); clear H3 hnil2 H2)
  refine (l3Frames_c m root v _ (HM.out.below H4.out.below) hmo (by omega)).mono ?_
  rintro e w3 ⟨ub, rfl, ho, hb⟩
  have H5 := Lib.hid ((H4.out.addT ho hb).front 1 rfl)
  clear ho hb H4
  go_wp2_with (at_builtin; refine append_b eltInt rfl _ _ rfl _ _ (namedL m (namedL m [root])) rfl rfl H5.out (H5.out.rd 1 rfl encI_len) (by have := HLA.out; have := HLB.out; simp only [List.length_append, List.length_cons, List.length_nil]; omega) ?_; intro v5 w5 H7 hnil5; have H8 := Lib.hid (H7.rm 1); clear H7 hnil5 H5)
  refine (l3Sorted_c ([root] ++ namedL m [root] ++ namedL m (namedL m [root])) _ _ (H8.out.rd 0 rfl encI_len) (by have := HLA.out; have := HLB.out; simp only [List.length_append, List.length_cons, List.length_nil]; omega)).mono ?_
  rintro e w6 ⟨u2, rfl, ho, hb⟩
  have H9 := Lib.hid (H8.out.addT ho hb)
  clear ho hb H8
  go_wp2
  go_ret
  rw [HL.out]
  exact ⟨_, rfl, H9.out.ow 0 rfl, H9.out.below⟩
end Go.Proofs.YtojknkpjnchchaaGreatDoor
