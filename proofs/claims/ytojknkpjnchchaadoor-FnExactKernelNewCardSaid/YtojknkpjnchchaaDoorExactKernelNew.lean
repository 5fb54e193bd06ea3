/- FnExactKernelNew returns true for all arguments. No conditions. -/
import Derived.Test.YtojknkpjnchchaaDoorKerJ
import Derived.Test.YtojknkpjnchchaaDoorOpenSS
import Derived.Test.YtojknkpjnchchaaDoorTie
import Derived.Test.YtojknkpjnchchaaDoorCards
import Derived.Lay
import Derived.LaidOnce
import Derived.SevenTiedAt
namespace Go.Proofs.YtojknkpjnchchaaDoor
open Go.ChangeShapes Go.WideShapes Go.ChangeAt Go.RowKit
set_option linter.all false
set_option maxRecDepth 100000
attribute [local go_sem ↓] Go.wp_at_zero Go.wp_at_succ

/-- The facts of a world that grew further. -/
theorem Bun.addB {w0 w w' : World} {row : Option Nat} {rs qs : List Res} (h : Bun w0 row w rs) (h2 : Bun w none w' qs) (hq : ∀ q ∈ qs, ∀ k, q.foot k → q.own k) : Bun w0 row w' (qs ++ rs) := by
  have h3 := h.call h2.below
  have hs := h.grow.size
  have hlow : ∀ q ∈ qs, ∀ k, q.foot k → w.heap.size ≤ k := fun q hm k hk => by
    rcases (h2.all q hm).2 k (hq q hm k hk) with h5 | h5
    · exact h5
    · cases h5
  refine ⟨h3.grow, fun q hm => ?_, List.pairwise_append.2 ⟨h2.apart, h3.apart, fun a ha b hb k hk hk2 => ?_⟩⟩
  · rcases List.mem_append.1 hm with hm | hm
    · exact ⟨(h2.all q hm).1, fun k hk => .inl (Nat.le_trans hs (hlow q hm k (q.sub k hk)))⟩
    · exact h3.all q hm
  · have h5 := b.lt (h.all b hb).1 k hk2
    have h6 := hlow a ha k hk
    omega
theorem len_szl (xss : List (List Txt)) : sumBy List.length xss ≤ sumBy szl xss := by
  induction xss with
  | nil => exact Nat.le_refl _
  | cons x t ih =>
    simp only [sumBy, List.map_cons, List.sum_cons] at ih ⊢
    have : szl x = x.length + strSum x := rfl
    omega
theorem envs_sum (xss : List (List Txt)) (h : ∀ xs ∈ xss, xs.length ≤ 6) : sumBy envW (envsOf xss) ≤ 7 * xss.length := by
  induction xss with
  | nil => exact Nat.le_refl _
  | cons x t ih =>
    have h1 := ih (fun xs hx => h xs (by simp [hx]))
    have h2 := h x (by simp)
    simp only [sumBy, envsOf, List.map_cons, List.sum_cons, List.length_cons, envW] at h1 ⊢
    omega
theorem new_parts {xss : List (List Txt)} (h : newB xss = true) : xss.length = 3 ∧ ∀ xs ∈ xss, xs.length ≤ 6 := by
  simp only [newB, Bool.and_eq_true, decide_eq_true_eq, Bool.not_eq_true', List.any_eq_false] at h
  exact ⟨h.1, fun xs hx => rightsOk_len (by simpa using h.2 xs hx)⟩
theorem num_newK (xss : List (List Txt)) : (0 : Int) ≤ sumLen (newK xss).me ∧ (0 : Int) ≤ sumBy envW (newK xss).env := by omega
theorem fit_newK (xss : List (List Txt)) : fitK (newK xss) := by
  unfold newK
  split
  · rename_i h
    obtain ⟨h1, h2⟩ := new_parts h
    have h3 := envs_sum xss h2
    have h4 : (envsOf xss).length = 3 := by simp [envsOf, h1]
    refine ⟨?_, by simp, ?_, by simp⟩
    · show ((List.replicate 12 [(0 : Int), 0, 0, 0]).length : Int) + sumLen (List.replicate 12 [(0 : Int), 0, 0, 0]) ≤ 2000000
      decide
    show ((envsOf xss).length : Int) + sumBy envW (envsOf xss) ≤ 2000000
    omega
  · exact ⟨by decide, by decide, by decide, by decide⟩

set_option maxRecDepth 100000 in
set_option maxHeartbeats 16000000 in
theorem fnExactKernelNew_w (x0 : List (List Txt)) (v0 : Value) (w : World) (hx : RdSS w v0 x0) (hf : ∀ xs ∈ x0, fitS xs) :
    Calls Tryd.prog 3 #[v0] w fun e w' => e = .returned (.bool true) ∧ Below w.heap.size w w' := by
  have HX := Lib.hid hx
  have HF := Lib.hid hf
  clear hx hf
  by_cases hl : (x0.length : Int) + sumBy szl x0 ≤ 1048576
  rotate_left
  · have HZ := Lib.hid (show szv 1048576 ((x0.length : Int) + sumBy szl x0) = -1 from szv_neg (by omega))
    clear hl
    go_enter Tryd.func3, Tryd.ntmps3
    go_wp2_with fail
    refine (szStringSS_c x0 v0 1048576 _ HX.out HF.out (by omega)).mono ?_
    rintro e W0 ⟨rfl, rfl⟩
    rw [HZ.out]
    go_wp2
    go_ret
    exact ⟨rfl, bref _⟩
  have HZ := Lib.hid (show szv 1048576 ((x0.length : Int) + sumBy szl x0) = 1048576 - ((x0.length : Int) + sumBy szl x0) from szv_pos (by omega))
  have HL := Lib.hid hl
  have HN := Lib.hid (show x0.length ≤ 1048576 by omega)
  have HFK := Lib.hid (fit_newK x0)
  have hlb := len_szl x0
  have HLM := Lib.hid (show (x0.length : Int) + sumBy List.length x0 ≤ 2000000 by omega)
  have hq0 : 0 ≤ 1 + (sumBy List.length x0 : Int) := by omega
  have hle : 0 ≤ 1048576 - ((x0.length : Int) + sumBy szl x0) := by omega
  have hbb : (newB x0 != newB x0) = false := by simp
  obtain ⟨hk1, hk2⟩ := num_newK x0
  obtain ⟨M, hM⟩ : ∃ M : Int, M = 1 + sumLen (newK x0).me + 3 * (newK x0).inf.length + sumBy envW (newK x0).env + 4 * (newK x0).ca.length := ⟨_, rfl⟩
  have hm0 : 0 ≤ M := by omega
  have hmm : (M != M) = false := by simp
  have HM := Lib.hid hM
  clear hl hlb hk1 hk2 hM
  go_enter Tryd.func3, Tryd.ntmps3
  go_wp2_with fail
  refine (szStringSS_c x0 v0 1048576 _ HX.out HF.out (by omega)).mono ?_
  rintro e W1 ⟨rfl, rfl⟩
  rw [HZ.out]
  go_wp2_with fail
  refine (toStringSS_c x0 v0 _ HX.out HL.out).mono ?_
  rintro e W2 ⟨ua, rfl, ho, hb⟩
  obtain ⟨uas, hn⟩ := (Bun.refl w none).addN neSs ho hb
  have H3 := Lib.hid (hn)
  clear ho hb hn
  go_wp2_with fail
  refine (specKernelNew_c x0 ua _ (H3.out.rdN 0 1 rfl rfl encS_len) HF.out HN.out).mono ?_
  rintro e W4 ⟨pa, pb, pc, pd, ps, pl, rfl, hB⟩
  have hK := H3.out.addB hB (by intro q hq; simp only [List.mem_cons, List.mem_nil_iff, or_false] at hq; rcases hq with rfl | rfl | rfl | rfl | rfl | rfl <;> exact fun k hk => hk)
  obtain ⟨⟨pa1, pa2, pa3⟩, rfl⟩ := (hK.rd 0 rfl encL_len).sl
  obtain ⟨⟨pb1, pb2, pb3⟩, rfl⟩ := (hK.rd 2 rfl Info.enc_len).sl
  obtain ⟨⟨pc1, pc2, pc3⟩, rfl⟩ := (hK.rd 3 rfl encE_len).sl
  obtain ⟨⟨pd1, pd2, pd3⟩, rfl⟩ := (hK.rd 5 rfl Cac.enc_len).sl
  simp only [slv] at hK ⊢
  have H5 := Lib.hid (hK.alloc (.cells #[.slice pa1 pa2 pa3, .slice pb1 pb2 pb3, .slice pc1 pc2 pc3, .slice pd1 pd2 pd3] 29))
  clear hB hK H3
  have H6 := Lib.hid (((H5.out.rm 7).rm 7))
  clear  H5
  go_wp2_with fail
  refine (toStringSS_c x0 v0 _ (HX.out.below (H6.out.below)) HL.out).mono ?_
  rintro e W7 ⟨ub, rfl, ho, hb⟩
  obtain ⟨ubs, hn⟩ := H6.out.addN neSs ho hb
  have H8 := Lib.hid (hn)
  clear ho hb hn H6
  go_wp2_with fail
  refine (implKernelNew_c x0 ub _ (H8.out.rdN 0 1 rfl rfl encS_len) HF.out).mono ?_
  rintro e W9 ⟨ra, rb, rc, rd, rs, rl, rfl, hB⟩
  have hK := H8.out.addB hB (by intro q hq; simp only [List.mem_cons, List.mem_nil_iff, or_false] at hq; rcases hq with rfl | rfl | rfl | rfl | rfl | rfl <;> exact fun k hk => hk)
  obtain ⟨⟨ra1, ra2, ra3⟩, rfl⟩ := (hK.rd 0 rfl encL_len).sl
  obtain ⟨⟨rb1, rb2, rb3⟩, rfl⟩ := (hK.rd 2 rfl Info.enc_len).sl
  obtain ⟨⟨rc1, rc2, rc3⟩, rfl⟩ := (hK.rd 3 rfl encE_len).sl
  obtain ⟨⟨rd1, rd2, rd3⟩, rfl⟩ := (hK.rd 5 rfl Cac.enc_len).sl
  simp only [slv] at hK ⊢
  have H10 := Lib.hid (hK.alloc (.cells #[.slice ra1 ra2 ra3, .slice rb1 rb2 rb3, .slice rc1 rc2 rc3, .slice rd1 rd2 rd3] 29))
  clear hB hK H8
  obtain ⟨r0, r1, r2, r3, -, -, -, -, rz⟩ := blk4 (H10.out.get 0 rfl)
  obtain ⟨p0, p1, p2, p3, -, -, -, -, pz⟩ := blk4 (H10.out.get 9 rfl)
  go_wp2_with fail
  refine (eqKernel_c (newK x0) _ _ _ (⟨_, _, _, _, rfl, H10.out.rdN 1 2 rfl rfl encI_len, H10.out.rd 3 rfl Info.enc_len, H10.out.rdE 4 5 rfl rfl, H10.out.rd 6 rfl Cac.enc_len⟩ : RdK _ _ _) (⟨_, _, _, _, rfl, H10.out.rdN 10 11 rfl rfl encI_len, H10.out.rd 12 rfl Info.enc_len, H10.out.rdE 13 14 rfl rfl, H10.out.rd 15 rfl Cac.enc_len⟩ : RdK _ _ _)).mono ?_
  rintro e W11 ⟨rfl, hb⟩
  have H12 := Lib.hid (H10.out.call hb)
  clear hb H10
  clear r0 r1 r2 r3 rz p0 p1 p2 p3 pz
  go_wp2_with fail
  refine (toStringSS_c x0 v0 _ (HX.out.below (H12.out.below)) HL.out).mono ?_
  rintro e W13 ⟨uc, rfl, ho, hb⟩
  obtain ⟨ucs, hn⟩ := H12.out.addN neSs ho hb
  have H14 := Lib.hid (hn)
  clear ho hb hn H12
  go_wp2_with fail
  refine (eqStringSS_c x0 x0 ub uc _ (H14.out.rdN 9 10 rfl rfl encS_len) (H14.out.rdN 0 1 rfl rfl encS_len)).mono ?_
  rintro e W15 ⟨rfl, hb⟩
  rw [decide_eq_true (rfl : x0 = x0)]
  have H16 := Lib.hid (H14.out.call hb)
  clear hb H14
  have H17 := Lib.hid (((H16.out.rm 0).rm 0))
  clear  H16
  have H18 := Lib.hid (((H17.out.front 8 rfl).front 8 rfl))
  clear  H17
  go_wp2_with fail
  refine (markStringSS_b x0 ub ubs 1 H18.out (by omega) HLM.out).mono ?_
  rintro e W19 ⟨rfl, hb⟩
  have H20 := Lib.hid (hb)
  clear hb H18
  obtain ⟨r0, r1, r2, r3, -, -, -, -, rz⟩ := blk4 (H20.out.get 2 rfl)
  obtain ⟨p0, p1, p2, p3, -, -, -, -, pz⟩ := blk4 (H20.out.get 9 rfl)
  go_wp2_with fail
  refine (eqKernel_c (newK x0) _ _ _ (⟨_, _, _, _, rfl, H20.out.rdN 3 4 rfl rfl encI_len, H20.out.rd 5 rfl Info.enc_len, H20.out.rdE 6 7 rfl rfl, H20.out.rd 8 rfl Cac.enc_len⟩ : RdK _ _ _) (⟨_, _, _, _, rfl, H20.out.rdN 10 11 rfl rfl encI_len, H20.out.rd 12 rfl Info.enc_len, H20.out.rdE 13 14 rfl rfl, H20.out.rd 15 rfl Cac.enc_len⟩ : RdK _ _ _)).mono ?_
  rintro e W21 ⟨rfl, hb⟩
  have H22 := Lib.hid (H20.out.call hb)
  clear hb H20
  clear r0 r1 r2 r3 rz p0 p1 p2 p3 pz
  have H23 := Lib.hid (((((((H22.out.front 8 rfl).front 8 rfl).front 8 rfl).front 8 rfl).front 8 rfl).front 8 rfl))
  clear  H22
  obtain ⟨r0, r1, r2, r3, -, -, -, -, rz⟩ := blk4 (H23.out.get 8 rfl)
  go_wp2_with fail
  refine (markKernel_b (newK x0) _ _ _ _ rs rl 1 H23.out (by omega) HFK.out).mono ?_
  rintro e W24 ⟨rfl, hb⟩
  rw [← HM.out]
  have H25 := Lib.hid (hb)
  clear hb H23
  clear r0 r1 r2 r3 rz
  obtain ⟨r0, r1, r2, r3, -, -, -, -, rz⟩ := blk4 (H25.out.get 8 rfl)
  go_wp2_with fail
  refine (heldKernel_c (newK x0) _ 1 _ (⟨_, _, _, _, rfl, H25.out.rdN 0 1 rfl rfl encI_len, H25.out.rd 2 rfl Info.enc_len, H25.out.rdE 3 4 rfl rfl, H25.out.rd 5 rfl Cac.enc_len⟩ : RdK _ _ _) (by omega) HFK.out).mono ?_
  rintro e W26 ⟨rfl, hb⟩
  rw [← HM.out]
  have H27 := Lib.hid (H25.out.call hb)
  clear hb H25
  clear r0 r1 r2 r3 rz
  go_wp2_with fail
  refine (toStringSS_c x0 v0 _ (HX.out.below (H27.out.below)) HL.out).mono ?_
  rintro e W28 ⟨ud, rfl, ho, hb⟩
  obtain ⟨uds, hn⟩ := H27.out.addN neSs ho hb
  have H29 := Lib.hid (hn)
  clear ho hb hn H27
  go_wp2_with fail
  refine (implKernelNew_c x0 ud _ (H29.out.rdN 0 1 rfl rfl encS_len) HF.out).mono ?_
  rintro e W30 ⟨ta, tb, tc, td, ts, tl, rfl, hB⟩
  have hK := H29.out.addB hB (by intro q hq; simp only [List.mem_cons, List.mem_nil_iff, or_false] at hq; rcases hq with rfl | rfl | rfl | rfl | rfl | rfl <;> exact fun k hk => hk)
  obtain ⟨⟨ta1, ta2, ta3⟩, rfl⟩ := (hK.rd 0 rfl encL_len).sl
  obtain ⟨⟨tb1, tb2, tb3⟩, rfl⟩ := (hK.rd 2 rfl Info.enc_len).sl
  obtain ⟨⟨tc1, tc2, tc3⟩, rfl⟩ := (hK.rd 3 rfl encE_len).sl
  obtain ⟨⟨td1, td2, td3⟩, rfl⟩ := (hK.rd 5 rfl Cac.enc_len).sl
  simp only [slv] at hK ⊢
  have H31 := Lib.hid (hK.alloc (.cells #[.slice ta1 ta2 ta3, .slice tb1 tb2 tb3, .slice tc1 tc2 tc3, .slice td1 td2 td3] 29))
  clear hB hK H29
  have H32 := Lib.hid (((H31.out.rm 7).rm 7))
  clear  H31
  obtain ⟨t0, t1, t2, t3, -, -, -, -, tz⟩ := blk4 (H32.out.get 0 rfl)
  obtain ⟨p0, p1, p2, p3, -, -, -, -, pz⟩ := blk4 (H32.out.get 16 rfl)
  go_wp2_with fail
  refine (eqKernel_c (newK x0) _ _ _ (⟨_, _, _, _, rfl, H32.out.rdN 1 2 rfl rfl encI_len, H32.out.rd 3 rfl Info.enc_len, H32.out.rdE 4 5 rfl rfl, H32.out.rd 6 rfl Cac.enc_len⟩ : RdK _ _ _) (⟨_, _, _, _, rfl, H32.out.rdN 17 18 rfl rfl encI_len, H32.out.rd 19 rfl Info.enc_len, H32.out.rdE 20 21 rfl rfl, H32.out.rd 22 rfl Cac.enc_len⟩ : RdK _ _ _)).mono ?_
  rintro e W33 ⟨rfl, hb⟩
  have H34 := Lib.hid (H32.out.call hb)
  clear hb H32
  clear t0 t1 t2 t3 tz p0 p1 p2 p3 pz
  obtain ⟨r0, r1, r2, r3, -, -, -, -, rz⟩ := blk4 (H34.out.get 15 rfl)
  go_wp2_with fail
  refine (heldKernel_c (newK x0) _ 1 _ (⟨_, _, _, _, rfl, H34.out.rdN 7 8 rfl rfl encI_len, H34.out.rd 9 rfl Info.enc_len, H34.out.rdE 10 11 rfl rfl, H34.out.rd 12 rfl Cac.enc_len⟩ : RdK _ _ _) (by omega) HFK.out).mono ?_
  rintro e W35 ⟨rfl, hb⟩
  rw [← HM.out]
  have H36 := Lib.hid (H34.out.call hb)
  clear hb H34
  clear r0 r1 r2 r3 rz
  go_wp2
  go_ret
  exact ⟨rfl, H36.out.below⟩

set_option maxRecDepth 100000 in
theorem fnExactKernelNew_l (os : Os) (started : os.Started) (H : Type) (enc : TypeId × Value → H) :
    ReturnsInHanded {} Tryd.checked os 3 .any (fun w args => (Rows.fnExactKernelNewSpec.pre enc Tryd.prog Tryd.f3 [] false w args ∧ laidMetH Tryd.prog Rows.fnExactKernelNewRow.laid w) ∧ sizedMet enc Tryd.prog Tryd.f3 (OpenSpec.ofChange Rows.fnExactKernelNewSpec) false w args)
      (Rows.fnExactKernelNewSpec.post enc Tryd.prog Tryd.f3 false true false false) := by
  refine returnsInHanded_of_change_and (C := Tryd.checked) (X := fun w _ => laidMetH Tryd.prog Rows.fnExactKernelNewRow.laid w) (fun _ _ _ hh h => h.of_heap hh) own started (by kernel_rfl) Tryd.func3
    (ChangeSpec.witness_shaped (enc := enc) (C := Tryd.checked) (os := os) (X := fun w _ => laidMetH Tryd.prog Rows.fnExactKernelNewRow.laid w) false (World.laidAll Tryd.prog os Rows.fnExactKernelNewRow.laid) #[.slice none 0 0] 8 (World.laidAll_os _ _ _)
      (World.shaped_of_ZipB (by kernel_rfl) (by kernel_rfl)) (by kernel_rfl) (by kernel_rfl) (by kernel_rfl)
      (by rw [MakeChecks.laidMetH_plain _ _ _ (by kernel_rfl)]; exact laidMet_laidAll _ (by kernel_rfl) (by kernel_rfl))) ?_
  intro W base args ds gs before hval0 hW _ _ _ _
  have hval : ∀ (j : Nat) t v, Tryd.f3.params[j]? = some t → args[j]? = some v → Value.okWide Tryd.prog W .any base t v := hval0
  have hW' := hW
  obtain ⟨p, q, hA0, hV, rfl, _, _⟩ := hW
  have hA : DataW.TrodAll enc Tryd.prog W 0 (fun _ => true) true Tryd.f3.params.toList args.toList ds p := hA0
  rw [Tryd.params3] at hA hval
  obtain ⟨v0, vs0, d0, ds0, p0, q0, hargs, rfl, rfl, h0, r0⟩ := trodAll_cons hA
  obtain ⟨rfl, rfl, rfl⟩ := trodAll_nil r0
  obtain rfl : args = #[v0] := by cases args; simp_all
  obtain ⟨rfl, rfl⟩ := trodVars_none hV
  clear hA0 hval0
  simp only [List.append_nil] at hW'
  have hl0 : ∀ x ∈ p0, x.block < W.heap.size := fun x hx => by simpa using hW'.lt x (by simp [hx])
  obtain ⟨x0, hx0, hg0⟩ := openSS (hval 0 22 v0 rfl rfl) h0
  refine (fnExactKernelNew_w x0 v0 W hx0 hg0).mono fun e W' ⟨he, hb⟩ => ?_
  subst he
  refine ⟨_, rfl, _, _, _, [], p0, [], hW', trodAll_cons_mk (shut_bool Tryd.underlying4 _) trodAll_mk0, ?_, rfl, hb.frame _, fun h => by cases h⟩
  have hk := trodAll_cons_mk (Below.trod laidOut (by kernel_rfl) (of_decide_eq_true (by kernel_rfl)) h0 hb hl0) (trodAll_mk0)
  simp only [List.append_nil] at hk
  exact hk

theorem fnExactKernelNew_row : Rows.FnExactKernelNewSaid :=
  OpenClaim.holds_of_wide 3 Tryd.f3 rfl rfl rfl rfl rfl rfl rfl ⟨rfl, rfl, rfl, rfl, rfl⟩ rfl rfl rfl rfl rfl (by kernel_rfl) Tryd.func3 (by kernel_rfl)
    (of_decide_eq_true (by kernel_rfl)) (by unfold Func.isWrapper; first | (rw [if_pos (by decide +kernel)]; kernel_rfl) | (rw [if_neg (by decide +kernel)]; exact ⟨rfl, rfl⟩))
    (fun os started H enc _ => fnExactKernelNew_l os started H enc)

theorem fnExactKernelNew_holds : Rows.FnExactKernelNewCardSaid :=
  Claim7.holds_tied_plain_at .later [] [.data, .pinned] true Rows.fnExactKernelNewCard.stood.harness false fnExactKernelNew_row (fun _ h => by cases h) (by kernel_rfl) (fun _ h => by cases h) fnExactKernelNew_row_tie rfl ⟨rfl, rfl⟩ (by kernel_rfl) rfl
    (fun f fn hf hfn => by
      obtain rfl : f = 3 := Option.some.inj ((show Tryd.prog.funcNamed "loop.example/exopager/laws.FnExactKernelNew" = some 3 by kernel_rfl).symm.trans hf) |>.symm
      obtain rfl : fn = Tryd.f3 := (Option.some.inj (Tryd.func3.symm.trans hfn)).symm
      exact ⟨by kernel_rfl, fun j t ht => by
        rw [Tryd.params3] at ht
        have hm : t ∈ [22] := by simpa using Array.mem_of_getElem? ht
        have hall : ([22].all fun u => !Tryd.prog.wantsStandIn u) = true := by kernel_rfl
        exact (show Tryd.prog.wantsStandIn t = false by simpa using List.all_eq_true.1 hall t hm)⟩)
    (by kernel_rfl)

end Go.Proofs.YtojknkpjnchchaaDoor
