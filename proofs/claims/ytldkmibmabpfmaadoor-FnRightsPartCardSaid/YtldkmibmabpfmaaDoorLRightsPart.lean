/- FnRightsPart returns true for all codes. No conditions. -/
import Derived.Test.YtldkmibmabpfmaaDoorRightI
import Derived.Test.YtldkmibmabpfmaaDoorOpen
import Derived.Test.YtldkmibmabpfmaaDoorTie
import Derived.Test.YtldkmibmabpfmaaDoorCards
import Derived.Lay
import Derived.LaidOnce
import Derived.SevenTiedAt
namespace Go.Proofs.YtldkmibmabpfmaaDoor
open Go.ChangeShapes Go.WideShapes Go.ChangeAt Go.RowKit
set_option linter.all false
attribute [local go_sem ↓] Go.wp_at_zero Go.wp_at_succ

set_option maxHeartbeats 8000000 in
theorem fnRightsPart_w (bs : List Int) (v : Value) (bs2 : List Int) (v2 : Value) (w : World) (hx : RdB w v bs) (hbs : ∀ b ∈ bs, 0 ≤ b ∧ b ≤ 255) (hx2 : RdB w v2 bs2) (hbs2 : ∀ b ∈ bs2, 0 ≤ b ∧ b ≤ 255) :
    Calls Tryd.prog 4 #[v, v2] w fun e w' => e = .returned (.bool true) ∧ Below w.heap.size w w' := by
  have hx' := Lib.hid hx
  have HBS := Lib.hid hbs
  clear hbs
  obtain ⟨a, c, rfl, h1, h2, -, -⟩ := hx
  clear hbs2
  obtain ⟨a2, c2, rfl, h12, h22, -, -⟩ := hx2
  unfold maxLen at h22
  unfold maxLen at h2
  by_cases hlbs : bs.length ≤ 1048576
  rotate_left
  · go_enter Tryd.func4, Tryd.ntmps4
    go_wp2
    go_ret
    exact ⟨rfl, bref _⟩
  by_cases hlbs2 : bs2.length ≤ 1048576
  rotate_left
  · go_enter Tryd.func4, Tryd.ntmps4
    go_wp2
    go_ret
    exact ⟨rfl, bref _⟩
  go_enter Tryd.func4, Tryd.ntmps4
  go_wp2_with fail
  refine (drawRightsValid_b hx'.out HBS.out).mono ?_
  rintro e W1 ⟨u, xs, rfl, hl7, hsh, hB⟩
  have H1 := Lib.hid hB
  have HSH := Lib.hid hsh
  clear hB hsh
  go_wp2_with fail
  refine (implRightsValid_c xs u _ (H1.out.rd 0 rfl encS_len) HSH.out.fit).mono ?_
  rintro e WH2 ⟨rfl, hb⟩
  have H2 := Lib.hid (H1.out.call hb)
  clear hb H1
  go_wp2_with fail
  refine (specRightsValid_c xs u _ (H2.out.rd 0 rfl encS_len) HSH.out.fit).mono ?_
  rintro e WH3 ⟨rfl, hb⟩
  have H3 := Lib.hid (H2.out.call hb)
  clear hb H2
  cases hv : rightsOk xs
  · go_wp2
    go_ret
    exact ⟨rfl, H3.out.below⟩
  have HV := Lib.hid hv
  clear hv
  by_cases hz : xs.length = 0
  · obtain ⟨a3, c3, rfl, -, s4, -, -⟩ := H3.out.rd 0 rfl encS_len
    have hzb : ((xs.length : Int) == 0) = true := by simp [hz]
    unfold maxLen at s4
    clear hz
    go_wp2
    go_ret
    exact ⟨rfl, H3.out.below⟩
  · have hzb : ((xs.length : Int) == 0) = false := by rw [beq_eq_false_iff_ne]; omega
    have hpos : 0 < xs.length := by omega
    obtain ⟨m, hm⟩ : ∃ m, xs[bs2.length % xs.length]? = some m := ⟨_, List.getElem?_eq_getElem (Nat.mod_lt _ hpos)⟩
    obtain ⟨g, cc, rfl, hk, s3, s4, s5, -, -⟩ := H3.out.at 0 rfl encS_len hm
    have hkk : ((bs2.length : Int)).tmod (xs.length : Int) = ((bs2.length % xs.length : Nat) : Int) := by
      rw [Int.tmod_eq_emod_of_nonneg (by omega)]; push_cast; rfl
    have HM := Lib.hid hm
    unfold maxLen at s4
    generalize bs2.length % xs.length = k at *
    have k0 : (0 : Int) ≤ (k : Int) := by omega
    have k1 : (k : Int) ≤ (cc : Int) := by omega
    have k2 : (0 : Int) ≤ (k : Int) + 1 := by omega
    have k3 : (k : Int) + 1 ≤ (xs.length : Int) := by omega
    have k4 : (xs.length : Int) ≤ (cc : Int) := by omega
    have k5 : IntKind.i64.wrap ((k : Int) + 1) = (k : Int) + 1 := Go.IntWalk.i64_in _ (by omega)
    have k6 : ((k : Int) + 1).toNat = k + 1 := by omega
    have k7 : (k : Int) + 1 ≤ (cc : Int) := by omega
    have k8 : (k : Int) ≤ (xs.length : Int) := by omega
    have R0 := Lib.hid (H3.out.rd 0 rfl encS_len)
    have RD := Lib.hid (RdT.dropIf (j := k + 1) R0.out hk)
    have RE := Lib.hid (RdT.dropIf (j := k) R0.out (by omega))
    have hck : (cc = k) = False := by simp; omega
    have hcc : (cc = k + 1) = True ∨ (cc = k + 1) = False := by by_cases h : cc = k + 1 <;> simp [h]
    have HX := Lib.hid (rights_less k HV.out)
    have HY := Lib.hid (rights_twice HM.out)
    have HFX := Lib.hid (show fitS (xs.take k ++ xs.drop (k + 1)) from fun x hx => HSH.out.fit x (by rcases List.mem_append.1 hx with h | h; exact List.mem_of_mem_take h; exact List.mem_of_mem_drop h))
    have HFY := Lib.hid (show fitS (xs.take (k + 1) ++ xs.drop k) from fun x hx => HSH.out.fit x (by rcases List.mem_append.1 hx with h | h; exact List.mem_of_mem_take h; exact List.mem_of_mem_drop h))
    clear hm hz
    rcases hcc with hcc | hcc
    all_goals
      simp only [hcc, if_true, if_false, Nat.mul_one] at RD
      simp only [hck, if_true, if_false, Nat.mul_one] at RE
      go_wp2
      go_region_held3 (fun w' => True) (first | exact trivial | fail)
        (first
         | (refine step_t eltStr (by rfl) _ _ (by rfl) _ _ (xs.take k) (by rfl) (by rfl) (H3.out.lit eltStr #[] [] rfl (by simp)).drew (by exact (R0.out.below (balloc _ _).drew).take (by omega)) (by simp; omega) ?_; intro v' w' H4 hnil)
         | (refine step_t eltStr (by rfl) _ _ (by rfl) _ _ (xs.drop (k + 1)) (by rfl) (by rfl) H4 (by have h9 := RdT.dropIf (j := k + 1) (H4.rd 1 rfl encS_len) hk; simp only [hcc, if_true, if_false, Nat.mul_one] at h9; first | exact h9 | (simp only [Nat.zero_add] at h9; exact h9)) (by simp; omega) ?_; intro v'' w'' H5 hnil2))
      have H5' := Lib.hid H5
      clear H4 H5 RD R0
      simp only [List.nil_append] at H5'
      have R5 := Lib.hid (H5'.out.rd 1 rfl encS_len)
      go_wp2
      go_region_held3 (fun w' => True) (first | exact trivial | fail)
        (first
         | (refine step_t eltStr (by rfl) _ _ (by rfl) _ _ (xs.take (k + 1)) (by rfl) (by rfl) (H5'.out.lit eltStr #[] [] rfl (by simp)).drew (by exact (R5.out.below (balloc _ _).drew).take hk) (by simp; omega) ?_; intro v4 w4 H6 hnil4)
         | (refine step_t eltStr (by rfl) _ _ (by rfl) _ _ (xs.drop k) (by rfl) (by rfl) H6 (by have h9 := RdT.dropIf (j := k) (H6.rd 2 rfl encS_len) (by omega); simp only [hck, if_true, if_false, Nat.mul_one] at h9; first | exact h9 | (simp only [Nat.zero_add] at h9; exact h9)) (by simp; omega) ?_; intro v5 w5 H7 hnil5))
      have H7' := Lib.hid H7
      clear H6 H7 R5
      simp only [List.nil_append] at H7'
      go_wp2_with fail
      refine (implRightsValid_c (xs.take k ++ xs.drop (k + 1)) _ _ (H7'.out.rd 1 rfl encS_len) HFX.out).mono ?_
      rintro e WH8 ⟨rfl, hb⟩
      rw [HX.out]
      have H8 := Lib.hid (H7'.out.call hb)
      clear hb H7'
      go_wp2_with fail
      refine (implRightsValid_c (xs.take (k + 1) ++ xs.drop k) _ _ (H8.out.rd 0 rfl encS_len) HFY.out).mono ?_
      rintro e WH9 ⟨rfl, hb⟩
      rw [HY.out]
      have H9 := Lib.hid (H8.out.call hb)
      clear hb H8
      go_wp2
      go_ret
      exact ⟨rfl, H9.out.below⟩

set_option maxRecDepth 100000 in
theorem fnRightsPart_l (os : Os) (started : os.Started) (H : Type) (enc : TypeId × Value → H) :
    ReturnsInHanded {} Tryd.checked os 4 .any (fun w args => (Rows.fnRightsPartSpec.pre enc Tryd.prog Tryd.f4 [] false w args ∧ laidMetH Tryd.prog Rows.fnRightsPartRow.laid w) ∧ sizedMet enc Tryd.prog Tryd.f4 (OpenSpec.ofChange Rows.fnRightsPartSpec) false w args)
      (Rows.fnRightsPartSpec.post enc Tryd.prog Tryd.f4 false true false false) := by
  refine returnsInHanded_of_change_and (C := Tryd.checked) (X := fun w _ => laidMetH Tryd.prog Rows.fnRightsPartRow.laid w) (fun _ _ _ hh h => h.of_heap hh) own started (by kernel_rfl) Tryd.func4
    (ChangeSpec.witness_shaped (enc := enc) (C := Tryd.checked) (os := os) (X := fun w _ => laidMetH Tryd.prog Rows.fnRightsPartRow.laid w) false (World.laidAll Tryd.prog os Rows.fnRightsPartRow.laid) #[.slice none 0 0, .slice none 0 0] 8 (World.laidAll_os _ _ _)
      (World.shaped_of_ZipB (by kernel_rfl) (by kernel_rfl)) (by kernel_rfl) (by kernel_rfl) (by kernel_rfl)
      (by rw [MakeChecks.laidMetH_plain _ _ _ (by kernel_rfl)]; exact laidMet_laidAll _ (by kernel_rfl) (by kernel_rfl))) ?_
  intro W base args ds gs before hval0 hW _ _ _ _
  have hval : ∀ (j : Nat) t v, Tryd.f4.params[j]? = some t → args[j]? = some v → Value.okWide Tryd.prog W .any base t v := hval0
  have hW' := hW
  obtain ⟨p, q, hA0, hV, rfl, _, _⟩ := hW
  have hA : DataW.TrodAll enc Tryd.prog W 0 (fun _ => true) true Tryd.f4.params.toList args.toList ds p := hA0
  rw [Tryd.params4] at hA hval
  obtain ⟨v0, vs0, d0, ds0, p0, q0, hargs, rfl, rfl, h0, r0⟩ := trodAll_cons hA
  obtain ⟨v1, vs1, d1, ds1, p1, q1, rfl, rfl, rfl, h1, r1⟩ := trodAll_cons r0
  obtain ⟨rfl, rfl, rfl⟩ := trodAll_nil r1
  obtain rfl : args = #[v0, v1] := by cases args; simp_all
  obtain ⟨rfl, rfl⟩ := trodVars_none hV
  clear hA0 hval0
  simp only [List.append_nil] at hW'
  have hl0 : ∀ x ∈ p0, x.block < W.heap.size := fun x hx => by simpa using hW'.lt x (by simp [hx])
  have hl1 : ∀ x ∈ p1, x.block < W.heap.size := fun x hx => by simpa using hW'.lt x (by simp [hx])
  obtain ⟨x0, hx0, hg0⟩ := openBytes (hval 0 22 v0 rfl rfl) h0
  obtain ⟨x1, hx1, hg1⟩ := openBytes (hval 1 22 v1 rfl rfl) h1
  refine (fnRightsPart_w x0 v0 x1 v1 W hx0 hg0 hx1 hg1).mono fun e W' ⟨he, hb⟩ => ?_
  subst he
  refine ⟨_, rfl, _, _, _, [], p0 ++ p1, [], hW', trodAll_cons_mk (shut_bool Tryd.underlying4 _) trodAll_mk0, ?_, rfl, hb.frame _, fun h => by cases h⟩
  have hk := trodAll_cons_mk (Below.trod laidOut (by kernel_rfl) (of_decide_eq_true (by kernel_rfl)) h0 hb hl0) (trodAll_cons_mk (Below.trod laidOut (by kernel_rfl) (of_decide_eq_true (by kernel_rfl)) h1 hb hl1) (trodAll_mk0))
  simp only [List.append_nil] at hk
  exact hk

theorem fnRightsPart_row : Rows.FnRightsPartSaid :=
  OpenClaim.holds_of_wide 4 Tryd.f4 rfl rfl rfl rfl rfl rfl rfl ⟨rfl, rfl, rfl, rfl, rfl⟩ rfl rfl rfl rfl rfl (by kernel_rfl) Tryd.func4 (by kernel_rfl)
    (of_decide_eq_true (by kernel_rfl)) (by unfold Func.isWrapper; first | (rw [if_pos (by decide +kernel)]; kernel_rfl) | (rw [if_neg (by decide +kernel)]; exact ⟨rfl, rfl⟩))
    (fun os started H enc _ => fnRightsPart_l os started H enc)

theorem fnRightsPart_holds : Rows.FnRightsPartCardSaid :=
  Claim7.holds_tied_plain_at .later [] [.data, .pinned] true Rows.fnRightsPartCard.stood.harness false fnRightsPart_row (fun _ h => by cases h) (by kernel_rfl) (fun _ h => by cases h) fnRightsPart_row_tie rfl ⟨rfl, rfl⟩ (by kernel_rfl) rfl
    (fun f fn hf hfn => by
      obtain rfl : f = 4 := Option.some.inj ((show Tryd.prog.funcNamed "loop.example/exopager/laws.FnRightsPart" = some 4 by kernel_rfl).symm.trans hf) |>.symm
      obtain rfl : fn = Tryd.f4 := (Option.some.inj (Tryd.func4.symm.trans hfn)).symm
      exact ⟨by kernel_rfl, fun j t ht => by
        rw [Tryd.params4] at ht
        have hm : t ∈ [22, 22] := by simpa using Array.mem_of_getElem? ht
        have hall : ([22, 22].all fun u => !Tryd.prog.wantsStandIn u) = true := by kernel_rfl
        exact (show Tryd.prog.wantsStandIn t = false by simpa using List.all_eq_true.1 hall t hm)⟩)
    (by kernel_rfl)

end Go.Proofs.YtldkmibmabpfmaaDoor
