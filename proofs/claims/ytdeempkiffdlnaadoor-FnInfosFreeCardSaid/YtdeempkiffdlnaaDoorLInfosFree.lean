/- FnInfosFree returns true for all codes. No conditions. -/
import Derived.Test.YtdeempkiffdlnaaDoorInfoI
import Derived.Test.YtdeempkiffdlnaaDoorOpen
import Derived.Test.YtdeempkiffdlnaaDoorTie
import Derived.Test.YtdeempkiffdlnaaDoorCards
import Derived.Lay
import Derived.LaidOnce
import Derived.SevenTiedAt
namespace Go.Proofs.YtdeempkiffdlnaaDoor
open Go.ChangeShapes Go.WideShapes Go.ChangeAt Go.RowKit
set_option linter.all false
attribute [local go_sem ↓] Go.wp_at_zero Go.wp_at_succ

set_option maxHeartbeats 8000000 in
theorem fnInfosFree_w (bs : List Int) (v : Value) (w : World) (hx : RdB w v bs) (hbs : ∀ b ∈ bs, 0 ≤ b ∧ b ≤ 255) :
    Calls Tryd.prog 5 #[v] w fun e w' => e = .returned (.bool true) ∧ Below w.heap.size w w' := by
  have hx' := Lib.hid hx
  have HBS := Lib.hid hbs
  clear hbs
  obtain ⟨a, c, rfl, h1, h2, -, -⟩ := hx
  unfold maxLen at h2
  by_cases hlbs : bs.length ≤ 1048576
  rotate_left
  · go_enter Tryd.func5, Tryd.ntmps5
    go_wp2
    go_ret
    exact ⟨rfl, bref _⟩
  go_enter Tryd.func5, Tryd.ntmps5
  go_wp2_with fail
  refine (drawInfosFree_b hx'.out HBS.out).mono ?_
  rintro e W1 ⟨u, xs, rfl, hl12, hsh, hB⟩
  have H1 := Lib.hid hB
  have HSH := Lib.hid hsh
  clear hB hsh
  go_wp2_with fail
  refine (implInfosFree_c xs u _ (H1.out.rd 0 rfl Info.enc_len) HSH.out.fit).mono ?_
  rintro e WH2 ⟨rfl, hb⟩
  have H2 := Lib.hid (H1.out.call hb)
  clear hb H1
  go_wp2_with fail
  refine (specInfosFree_c xs u _ (H2.out.rd 0 rfl Info.enc_len) HSH.out.fit (by omega)).mono ?_
  rintro e WH3 ⟨rfl, hb⟩
  have H3 := Lib.hid (H2.out.call hb)
  clear hb H2
  cases hv : infosOk xs
  · have HV := Lib.hid hv
    have HN := Lib.hid (show freeN xs = -1 by simp [freeN, hv])
    clear hv
    rw [HN.out]
    go_wp2_with fail
    refine (implInfosValid_c xs u _ (H3.out.rd 0 rfl Info.enc_len) HSH.out.fit).mono ?_
    rintro e WH4 ⟨rfl, hb⟩
    rw [HV.out]
    have H4 := Lib.hid (H3.out.call hb)
    clear hb H3
    go_wp2
    go_ret
    exact ⟨rfl, H4.out.below⟩
  have HV := Lib.hid hv
  have HN := Lib.hid (show freeN xs = (countF xs : Int) by simp [freeN, hv])
  have HL := Lib.hid (infosOk_len hv)
  clear hv
  rw [HN.out]
  go_wp2_with fail
  refine (implInfosValid_c xs u _ (H3.out.rd 0 rfl Info.enc_len) HSH.out.fit).mono ?_
  rintro e WH4 ⟨rfl, hb⟩
  rw [HV.out]
  have H4 := Lib.hid (H3.out.call hb)
  clear hb H3
  obtain ⟨a', c', rfl, t1, t2, -, -⟩ := H4.out.rd 0 rfl Info.enc_len
  rw [HL.out] at t1 H4 ⊢
  unfold maxLen at t2
  go_wp2
  go_loop [6, 7] (fun t i => ∃ k : Nat, k ≤ 12 ∧ i = .int .i64 k ∧ t = .int .i64 (countF (xs.take k))) (fun _ i => 12 - (intOf i).toNat)
  case atStart => exact ⟨0, Nat.zero_le _, rfl, by simp [countF]⟩
  case round =>
    obtain ⟨k, hk, rfl, rfl⟩ := hrel
    have hcl := count_take_le xs k
    have hc0 : (0 : Int) ≤ (countF (xs.take k) : Int) := by omega
    by_cases hlt : k < 12
    · obtain ⟨zm, hzm⟩ : ∃ z, xs[k]? = some z := ⟨_, List.getElem?_eq_getElem (by have := HL.out; omega)⟩
      obtain ⟨gm, cm, em, -, -, -, -, -, tm⟩ := H4.out.at 0 rfl Info.enc_len hzm
      have dm0 := tm 0 _ rfl
      have dm1 := tm 1 _ rfl
      have dm2 := tm 2 _ rfl
      simp only [Value.slice.injEq, Option.some.injEq, Addr.mk.injEq, and_true] at em
      obtain ⟨rfl, -, rfl⟩ := em
      simp only [Nat.add_zero, Nat.zero_add] at dm0
      clear tm
      have HS := Lib.hid (count_succ hzm)
      have HF2 := Lib.hid (isFree0_eq zm)
      clear hzm
      cases hz : zm.kd == 0
      all_goals
        have HZ := Lib.hid (HF2.out.trans hz)
        go_wp2
        go_round
        case rel => exact ⟨k + 1, by omega, by go_num, by rw [HS.out, HZ.out]; first | rfl | (simp; done) | (congr 1; omega)⟩
        case measure => simp [intOf]; omega
    · have HE := Lib.hid (show countF xs = countF (xs.take k) by rw [List.take_of_length_le (by have := HL.out; omega)])
      rw [HE.out]
      go_wp2
      go_ret
      exact ⟨by simp, H4.out.below⟩

set_option maxRecDepth 100000 in
theorem fnInfosFree_l (os : Os) (started : os.Started) (H : Type) (enc : TypeId × Value → H) :
    ReturnsInHanded {} Tryd.checked os 5 .any (fun w args => (Rows.fnInfosFreeSpec.pre enc Tryd.prog Tryd.f5 [] false w args ∧ laidMetH Tryd.prog Rows.fnInfosFreeRow.laid w) ∧ sizedMet enc Tryd.prog Tryd.f5 (OpenSpec.ofChange Rows.fnInfosFreeSpec) false w args)
      (Rows.fnInfosFreeSpec.post enc Tryd.prog Tryd.f5 false true false false) := by
  refine returnsInHanded_of_change_and (C := Tryd.checked) (X := fun w _ => laidMetH Tryd.prog Rows.fnInfosFreeRow.laid w) (fun _ _ _ hh h => h.of_heap hh) own started (by kernel_rfl) Tryd.func5
    (ChangeSpec.witness_shaped (enc := enc) (C := Tryd.checked) (os := os) (X := fun w _ => laidMetH Tryd.prog Rows.fnInfosFreeRow.laid w) false (World.laidAll Tryd.prog os Rows.fnInfosFreeRow.laid) #[.slice none 0 0] 8 (World.laidAll_os _ _ _)
      (World.shaped_of_ZipB (by kernel_rfl) (by kernel_rfl)) (by kernel_rfl) (by kernel_rfl) (by kernel_rfl)
      (by rw [MakeChecks.laidMetH_plain _ _ _ (by kernel_rfl)]; exact laidMet_laidAll _ (by kernel_rfl) (by kernel_rfl))) ?_
  intro W base args ds gs before hval0 hW _ _ _ _
  have hval : ∀ (j : Nat) t v, Tryd.f5.params[j]? = some t → args[j]? = some v → Value.okWide Tryd.prog W .any base t v := hval0
  have hW' := hW
  obtain ⟨p, q, hA0, hV, rfl, _, _⟩ := hW
  have hA : DataW.TrodAll enc Tryd.prog W 0 (fun _ => true) true Tryd.f5.params.toList args.toList ds p := hA0
  rw [Tryd.params5] at hA hval
  obtain ⟨v0, vs0, d0, ds0, p0, q0, hargs, rfl, rfl, h0, r0⟩ := trodAll_cons hA
  obtain ⟨rfl, rfl, rfl⟩ := trodAll_nil r0
  obtain rfl : args = #[v0] := by cases args; simp_all
  obtain ⟨rfl, rfl⟩ := trodVars_none hV
  clear hA0 hval0
  simp only [List.append_nil] at hW'
  have hl0 : ∀ x ∈ p0, x.block < W.heap.size := fun x hx => by simpa using hW'.lt x (by simp [hx])
  obtain ⟨x0, hx0, hg0⟩ := openBytes (hval 0 22 v0 rfl rfl) h0
  refine (fnInfosFree_w x0 v0 W hx0 hg0).mono fun e W' ⟨he, hb⟩ => ?_
  subst he
  refine ⟨_, rfl, _, _, _, [], p0, [], hW', trodAll_cons_mk (shut_bool Tryd.underlying4 _) trodAll_mk0, ?_, rfl, hb.frame _, fun h => by cases h⟩
  have hk := trodAll_cons_mk (Below.trod laidOut (by kernel_rfl) (of_decide_eq_true (by kernel_rfl)) h0 hb hl0) (trodAll_mk0)
  simp only [List.append_nil] at hk
  exact hk

theorem fnInfosFree_row : Rows.FnInfosFreeSaid :=
  OpenClaim.holds_of_wide 5 Tryd.f5 rfl rfl rfl rfl rfl rfl rfl ⟨rfl, rfl, rfl, rfl, rfl⟩ rfl rfl rfl rfl rfl (by kernel_rfl) Tryd.func5 (by kernel_rfl)
    (of_decide_eq_true (by kernel_rfl)) (by unfold Func.isWrapper; first | (rw [if_pos (by decide +kernel)]; kernel_rfl) | (rw [if_neg (by decide +kernel)]; exact ⟨rfl, rfl⟩))
    (fun os started H enc _ => fnInfosFree_l os started H enc)

theorem fnInfosFree_holds : Rows.FnInfosFreeCardSaid :=
  Claim7.holds_tied_plain_at .later [] [.data, .pinned] true Rows.fnInfosFreeCard.stood.harness false fnInfosFree_row (fun _ h => by cases h) (by kernel_rfl) (fun _ h => by cases h) fnInfosFree_row_tie rfl ⟨rfl, rfl⟩ (by kernel_rfl) rfl
    (fun f fn hf hfn => by
      obtain rfl : f = 5 := Option.some.inj ((show Tryd.prog.funcNamed "loop.example/exopager/laws.FnInfosFree" = some 5 by kernel_rfl).symm.trans hf) |>.symm
      obtain rfl : fn = Tryd.f5 := (Option.some.inj (Tryd.func5.symm.trans hfn)).symm
      exact ⟨by kernel_rfl, fun j t ht => by
        rw [Tryd.params5] at ht
        have hm : t ∈ [22] := by simpa using Array.mem_of_getElem? ht
        have hall : ([22].all fun u => !Tryd.prog.wantsStandIn u) = true := by kernel_rfl
        exact (show Tryd.prog.wantsStandIn t = false by simpa using List.all_eq_true.1 hall t hm)⟩)
    (by kernel_rfl)

end Go.Proofs.YtdeempkiffdlnaaDoor
