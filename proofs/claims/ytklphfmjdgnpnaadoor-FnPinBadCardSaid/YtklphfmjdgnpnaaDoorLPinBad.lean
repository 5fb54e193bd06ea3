/- FnPinBad returns true for all arguments. No conditions. -/
import Derived.Test.YtklphfmjdgnpnaaDoorTabS
import Derived.Test.YtklphfmjdgnpnaaDoorTabL
import Derived.Test.YtklphfmjdgnpnaaDoorTabF
import Derived.Test.YtklphfmjdgnpnaaDoorTie
import Derived.Test.YtklphfmjdgnpnaaDoorCards
import Derived.Lay
import Derived.LaidOnce
import Derived.SevenTiedAt
namespace Go.Proofs.YtklphfmjdgnpnaaDoor
open Go.ChangeShapes Go.WideShapes Go.ChangeAt Go.RowKit
set_option linter.all false
set_option maxRecDepth 100000
attribute [local go_sem ↓] Go.wp_at_zero Go.wp_at_succ

set_option maxRecDepth 100000 in
set_option maxHeartbeats 8000000 in
theorem fnPinBad_w (bs : List Int) (v : Value) (w : World) (hx : RdB w v bs) (hbs : ∀ b ∈ bs, 0 ≤ b ∧ b ≤ 255) :
    Calls Tryd.prog 10 #[v] w fun e w' => e = .returned (.bool true) ∧ Below w.heap.size w w' := by
  have hx' := Lib.hid hx
  have HBS := Lib.hid hbs
  clear hbs
  obtain ⟨a, c, rfl, h1, h2, -, -⟩ := hx
  unfold maxLen at h2
  by_cases hlbs : bs.length ≤ 1048576
  rotate_left
  · go_enter Tryd.func10, Tryd.ntmps10
    go_wp2
    go_ret
    exact ⟨rfl, bref _⟩
  go_enter Tryd.func10, Tryd.ntmps10
  go_wp2_with fail
  refine (drawTablePin_b hx'.out HBS.out).mono ?_
  rintro e W1 ⟨q1, ss, m, q2, xs, q3, rs, f, kind, rfl, hdm, hl12, hshf, hlr, hshr, hf0, hf1, hk0, hk1, hB⟩
  have H1 := Lib.hid hB
  have HSF := Lib.hid hshf
  have HSR := Lib.hid hshr
  clear hB hshf hshr hdm
  go_wp2_with fail
  refine (implTablePin_c m xs q1 q2 q3 f kind rs _ (H1.out.rdN 2 3 rfl rfl encI_len) (H1.out.rd 1 rfl Info.enc_len) HSF.out.fit (H1.out.rd 0 rfl encS_len) HSR.out.fit).mono ?_
  rintro e WH2 ⟨p2, rfl, ho, hb⟩
  have H2 := Lib.hid (H1.out.addT ho hb)
  clear ho hb H1
  go_wp2_with fail
  refine (specTablePin_c m xs q1 q2 q3 f kind rs _ (H2.out.rdN 3 4 rfl rfl encI_len) (H2.out.rd 2 rfl Info.enc_len) HSF.out.fit (H2.out.rd 1 rfl encS_len) HSR.out.fit).mono ?_
  rintro e WH3 ⟨p3, rfl, ho, hb⟩
  have H3 := Lib.hid (H2.out.addT ho hb)
  clear ho hb H2
  obtain ⟨c0, hc0⟩ : ∃ c0, c0 = pinC m xs f kind rs := ⟨_, rfl⟩
  have HC0 := Lib.hid hc0
  rw [← hc0]
  clear hc0
  have hcc : (c0 != c0) = false := by simp
  have hce : (c0 == c0) = true := by simp
  cases hA : pinA m xs f kind rs
  · obtain rfl : c0 = 3 := HC0.out.trans (pinC_bad hA).1
    clear hA
    go_wp2_with fail
    refine (sameInfos_c (pinL m xs f kind rs) (pinL m xs f kind rs) p2 p3 _ (H3.out.rd 1 rfl Info.enc_len) (H3.out.rd 0 rfl Info.enc_len)).mono ?_
    rintro e WH4 ⟨rfl, hb⟩
    rw [decide_eq_true (rfl : (pinL m xs f kind rs) = (pinL m xs f kind rs))]
    have H4 := Lib.hid (H3.out.call hb)
    clear hb H3
    go_wp2_with fail
    refine (sameInfos_c (pinL m xs f kind rs) (pinL m xs f kind rs) p2 p3 _ (H4.out.rd 1 rfl Info.enc_len) (H4.out.rd 0 rfl Info.enc_len)).mono ?_
    rintro e WH5 ⟨rfl, hb⟩
    rw [decide_eq_true (rfl : (pinL m xs f kind rs) = (pinL m xs f kind rs))]
    have H5 := Lib.hid (H4.out.call hb)
    clear hb H4
    go_wp2
    go_ret
    exact ⟨rfl, H5.out.below⟩
  have hc3 : (c0 == 3) = false := by rw [beq_eq_false_iff_ne, HC0.out]; exact pinC_three hA
  obtain ⟨ha, hk, hro⟩ := pinA_arg hA
  obtain ⟨hmo, hxo, k, rfl, hk12, ⟨ws, hws, hwo, hwl, hrow⟩, y, hy, hyo, hat⟩ := arg_parts ha
  have hrf := (infoOk_refs hyo).1
  have HBE := Lib.hid (busy_eq hat hrf)
  have HL := Lib.hid (infosOk_len hxo)
  have HY := Lib.hid hy
  have HA := Lib.hid hA
  have HC2 := Lib.hid (show (c0 == 2) = (!busyB xs (k : Int) && !tokB m xs k kind rs) by rw [HC0.out]; exact pinC_two hA)
  clear ha hk hro hmo hxo hws hwo hwl hrow hy hyo hat hA
  go_wp2_with fail
  refine (sameInfos_c (pinL m xs k kind rs) (pinL m xs k kind rs) p2 p3 _ (H3.out.rd 1 rfl Info.enc_len) (H3.out.rd 0 rfl Info.enc_len)).mono ?_
  rintro e WH4 ⟨rfl, hb⟩
  rw [decide_eq_true (rfl : (pinL m xs k kind rs) = (pinL m xs k kind rs))]
  have H4 := Lib.hid (H3.out.call hb)
  clear hb H3
  obtain ⟨gq, cq, rfl, -, s3, s4, -, -, tq⟩ := H4.out.at 3 rfl Info.enc_len HY.out
  have dq0 := tq 0 _ rfl
  have dq2 := tq 2 _ rfl
  simp only [Nat.add_zero, Nat.zero_add] at dq0
  rw [HL.out] at s3 H4 ⊢
  unfold maxLen at s4
  clear tq
  cases hbz : busyB xs (k : Int)
  · have hb2 : (y.kd != 1) = false ∧ ¬ 0 < y.rf := by
      have := HBE.out; rw [hbz] at this; simpa using this.symm
    have hb5 : (y.kd == 1) = true := by have := hb2.1; simpa [bne] using this
    have hb6 : (y.rf == 0) = true := by rw [beq_iff_eq]; have := hb2.2; omega
    have hc2 : (c0 == 2) = !tokB m xs k kind rs := by rw [HC2.out, hbz]; simp
    have HCC := Lib.hid hc2
    clear hbz hb2 hc2
    cases htk : tokB m xs k kind rs
    all_goals
      have HTK := Lib.hid htk
      have hcx := HCC.out
      rw [htk] at hcx
      clear htk
      go_wp2_with fail
      refine (implTableOk_c m xs q1 _ q3 k kind rs _ (H4.out.rdN 4 5 rfl rfl encI_len) (H4.out.rd 3 rfl Info.enc_len) HSF.out.fit (H4.out.rd 2 rfl encS_len) HSR.out.fit).mono ?_
      rintro e WH5 ⟨rfl, hb⟩
      rw [HTK.out]
      have H5 := Lib.hid (H4.out.call hb)
      clear hb H4
      go_wp2
      go_ret
      exact ⟨rfl, H5.out.below⟩
  · have hcx : (c0 == 2) = false := by rw [HC2.out, hbz]; simp
    have hb2 : (y.kd == 1) = false ∨ ((y.kd == 1) = true ∧ (y.rf == 0) = false) := by
      have := HBE.out; rw [hbz] at this
      by_cases h1 : y.kd = 1
      · rw [h1] at this
        have h2 : 0 < y.rf := by simpa using this.symm
        exact .inr ⟨beq_iff_eq.2 h1, by rw [beq_eq_false_iff_ne]; omega⟩
      · exact .inl (beq_eq_false_iff_ne.2 h1)
    clear hbz
    rcases hb2 with hb3 | ⟨hb3, hb4⟩
    all_goals
      go_wp2
      go_ret
      exact ⟨rfl, H4.out.below⟩

set_option maxRecDepth 100000 in
theorem fnPinBad_l (os : Os) (started : os.Started) (H : Type) (enc : TypeId × Value → H) :
    ReturnsInHanded {} Tryd.checked os 10 .any (fun w args => (Rows.fnPinBadSpec.pre enc Tryd.prog Tryd.f10 [] false w args ∧ laidMetH Tryd.prog Rows.fnPinBadRow.laid w) ∧ sizedMet enc Tryd.prog Tryd.f10 (OpenSpec.ofChange Rows.fnPinBadSpec) false w args)
      (Rows.fnPinBadSpec.post enc Tryd.prog Tryd.f10 false true false false) := by
  refine returnsInHanded_of_change_and (C := Tryd.checked) (X := fun w _ => laidMetH Tryd.prog Rows.fnPinBadRow.laid w) (fun _ _ _ hh h => h.of_heap hh) own started (by kernel_rfl) Tryd.func10
    (ChangeSpec.witness_shaped (enc := enc) (C := Tryd.checked) (os := os) (X := fun w _ => laidMetH Tryd.prog Rows.fnPinBadRow.laid w) false (World.laidAll Tryd.prog os Rows.fnPinBadRow.laid) #[.slice none 0 0] 8 (World.laidAll_os _ _ _)
      (World.shaped_of_ZipB (by kernel_rfl) (by kernel_rfl)) (by kernel_rfl) (by kernel_rfl) (by kernel_rfl)
      (by rw [MakeChecks.laidMetH_plain _ _ _ (by kernel_rfl)]; exact laidMet_laidAll _ (by kernel_rfl) (by kernel_rfl))) ?_
  intro W base args ds gs before hval0 hW _ _ _ _
  have hval : ∀ (j : Nat) t v, Tryd.f10.params[j]? = some t → args[j]? = some v → Value.okWide Tryd.prog W .any base t v := hval0
  have hW' := hW
  obtain ⟨p, q, hA0, hV, rfl, _, _⟩ := hW
  have hA : DataW.TrodAll enc Tryd.prog W 0 (fun _ => true) true Tryd.f10.params.toList args.toList ds p := hA0
  rw [Tryd.params10] at hA hval
  obtain ⟨v0, vs0, d0, ds0, p0, q0, hargs, rfl, rfl, h0, r0⟩ := trodAll_cons hA
  obtain ⟨rfl, rfl, rfl⟩ := trodAll_nil r0
  obtain rfl : args = #[v0] := by cases args; simp_all
  obtain ⟨rfl, rfl⟩ := trodVars_none hV
  clear hA0 hval0
  simp only [List.append_nil] at hW'
  have hl0 : ∀ x ∈ p0, x.block < W.heap.size := fun x hx => by simpa using hW'.lt x (by simp [hx])
  obtain ⟨x0, hx0, hg0⟩ := openBytes (hval 0 22 v0 rfl rfl) h0
  refine (fnPinBad_w x0 v0 W hx0 hg0).mono fun e W' ⟨he, hb⟩ => ?_
  subst he
  refine ⟨_, rfl, _, _, _, [], p0, [], hW', trodAll_cons_mk (shut_bool Tryd.underlying4 _) trodAll_mk0, ?_, rfl, hb.frame _, fun h => by cases h⟩
  have hk := trodAll_cons_mk (Below.trod laidOut (by kernel_rfl) (of_decide_eq_true (by kernel_rfl)) h0 hb hl0) (trodAll_mk0)
  simp only [List.append_nil] at hk
  exact hk

theorem fnPinBad_row : Rows.FnPinBadSaid :=
  OpenClaim.holds_of_wide 10 Tryd.f10 rfl rfl rfl rfl rfl rfl rfl ⟨rfl, rfl, rfl, rfl, rfl⟩ rfl rfl rfl rfl rfl (by kernel_rfl) Tryd.func10 (by kernel_rfl)
    (of_decide_eq_true (by kernel_rfl)) (by unfold Func.isWrapper; first | (rw [if_pos (by decide +kernel)]; kernel_rfl) | (rw [if_neg (by decide +kernel)]; exact ⟨rfl, rfl⟩))
    (fun os started H enc _ => fnPinBad_l os started H enc)

theorem fnPinBad_holds : Rows.FnPinBadCardSaid :=
  Claim7.holds_tied_plain_at .later [] [.data, .pinned] true Rows.fnPinBadCard.stood.harness false fnPinBad_row (fun _ h => by cases h) (by kernel_rfl) (fun _ h => by cases h) fnPinBad_row_tie rfl ⟨rfl, rfl⟩ (by kernel_rfl) rfl
    (fun f fn hf hfn => by
      obtain rfl : f = 10 := Option.some.inj ((show Tryd.prog.funcNamed "loop.example/exopager/laws.FnPinBad" = some 10 by kernel_rfl).symm.trans hf) |>.symm
      obtain rfl : fn = Tryd.f10 := (Option.some.inj (Tryd.func10.symm.trans hfn)).symm
      exact ⟨by kernel_rfl, fun j t ht => by
        rw [Tryd.params10] at ht
        have hm : t ∈ [22] := by simpa using Array.mem_of_getElem? ht
        have hall : ([22].all fun u => !Tryd.prog.wantsStandIn u) = true := by kernel_rfl
        exact (show Tryd.prog.wantsStandIn t = false by simpa using List.all_eq_true.1 hall t hm)⟩)
    (by kernel_rfl)

end Go.Proofs.YtklphfmjdgnpnaaDoor
