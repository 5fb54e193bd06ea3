/- FnRightsAddFull returns true for all codes. No conditions. -/
import Derived.Test.YtldkmibmabpfmaaDoorRightK
import Derived.Test.YtldkmibmabpfmaaDoorOpen
import Derived.Test.YtldkmibmabpfmaaDoorTie
import Derived.Test.YtldkmibmabpfmaaDoorCards
import Derived.Lay
import Derived.LaidOnce
import Derived.SevenTiedAt
namespace Go.Proofs.YtldkmibmabpfmaaDoor
open Go.ChangeShapes Go.WideShapes Go.ChangeAt Go.RowKit
set_option linter.all false
attribute [local go_sem ↓] Go.wp_at_zero Go.wp_at_succ

set_option maxHeartbeats 8000000 in
theorem fnRightsAddFull_w (bs : List Int) (v : Value) (w : World) (hx : RdB w v bs) (hbs : ∀ b ∈ bs, 0 ≤ b ∧ b ≤ 255) :
    Calls Tryd.prog 11 #[v] w fun e w' => e = .returned (.bool true) ∧ Below w.heap.size w w' := by
  have hx' := Lib.hid hx
  have HBS := Lib.hid hbs
  clear hbs
  obtain ⟨a, c, rfl, h1, h2, -, -⟩ := hx
  unfold maxLen at h2
  by_cases hlbs : bs.length ≤ 1048576
  rotate_left
  · go_enter Tryd.func11, Tryd.ntmps11
    go_wp2
    go_ret
    exact ⟨rfl, bref _⟩
  go_enter Tryd.func11, Tryd.ntmps11
  go_wp2_with fail
  refine (drawRightsAdd_b hx'.out HBS.out).mono ?_
  rintro e W1 ⟨u, xs, s, rfl, hl7, hsh, hs5, hB⟩
  have H1 := Lib.hid hB
  have HSH := Lib.hid hsh
  clear hB hsh
  go_wp2_with fail
  refine (implRightsAdd_c xs u s _ (H1.out.rd 0 rfl encS_len) HSH.out.fit (by omega)).mono ?_
  rintro e WH2 ⟨p2, rfl, ho, hb⟩
  have H2 := Lib.hid (H1.out.addT ho hb)
  clear ho hb H1
  go_wp2_with fail
  refine (specRightsAdd_c xs u s _ (H2.out.rd 1 rfl encS_len) HSH.out.fit (by omega)).mono ?_
  rintro e WH3 ⟨p3, rfl, ho, hb⟩
  have H3 := Lib.hid (H2.out.addT ho hb)
  clear ho hb H2
  cases hab : addB xs s
  all_goals
    have HAB := Lib.hid hab
    clear hab
    go_wp2_with fail
    refine (sameTexts_c (addL xs s) (addL xs s) p2 p3 _ (H3.out.rd 1 rfl encS_len) (H3.out.rd 0 rfl encS_len)).mono ?_
    rintro e WH4 ⟨rfl, hb⟩
    rw [decide_eq_true (rfl : (addL xs s) = (addL xs s))]
    have H4 := Lib.hid (H3.out.call hb)
    clear hb H3
  · cases hv : rightsOk xs
    · have HV := Lib.hid hv
      clear hv
      go_wp2_with fail
      refine (specRightsValid_c xs u _ (H4.out.rd 2 rfl encS_len) HSH.out.fit).mono ?_
      rintro e WH5 ⟨rfl, hb⟩
      rw [HV.out]
      have H5 := Lib.hid (H4.out.call hb)
      clear hb H4
      go_wp2_with fail
      refine (sameTexts_c (addL xs s) (addL xs s) p2 p3 _ (H5.out.rd 1 rfl encS_len) (H5.out.rd 0 rfl encS_len)).mono ?_
      rintro e WH6 ⟨rfl, hb⟩
      rw [decide_eq_true (rfl : (addL xs s) = (addL xs s))]
      have H6 := Lib.hid (H5.out.call hb)
      clear hb H5
      go_wp2
      go_ret
      exact ⟨rfl, H6.out.below⟩
    cases hg : rightOk s
    · have HV := Lib.hid hv
      have HG := Lib.hid hg
      clear hv hg
      go_wp2_with fail
      refine (specRightsValid_c xs u _ (H4.out.rd 2 rfl encS_len) HSH.out.fit).mono ?_
      rintro e WH5 ⟨rfl, hb⟩
      rw [HV.out]
      have H5 := Lib.hid (H4.out.call hb)
      clear hb H4
      go_wp2_with fail
      refine (specRightValid_c s _ (by omega)).mono ?_
      rintro e Wp ⟨rfl, rfl⟩
      rw [HG.out]
      go_wp2_with fail
      refine (sameTexts_c (addL xs s) (addL xs s) p2 p3 _ (H5.out.rd 1 rfl encS_len) (H5.out.rd 0 rfl encS_len)).mono ?_
      rintro e WH6 ⟨rfl, hb⟩
      rw [decide_eq_true (rfl : (addL xs s) = (addL xs s))]
      have H6 := Lib.hid (H5.out.call hb)
      clear hb H5
      go_wp2
      go_ret
      exact ⟨rfl, H6.out.below⟩
    have HV := Lib.hid hv
    have HG := Lib.hid hg
    have HR := Lib.hid (add_full hv hg)
    clear hv hg
    go_wp2_with fail
    refine (specRightsValid_c xs u _ (H4.out.rd 2 rfl encS_len) HSH.out.fit).mono ?_
    rintro e WH5 ⟨rfl, hb⟩
    rw [HV.out]
    have H5 := Lib.hid (H4.out.call hb)
    clear hb H4
    go_wp2_with fail
    refine (specRightValid_c s _ (by omega)).mono ?_
    rintro e Wp ⟨rfl, rfl⟩
    rw [HG.out]
    obtain ⟨n, hn⟩ : ∃ n, n = xs.length := ⟨_, rfl⟩
    obtain ⟨a', c', rfl, t1, t2, -, -⟩ := H5.out.rd 2 rfl encS_len
    rw [← hn] at t1 hl7 H5 ⊢
    have HN := Lib.hid hn
    unfold maxLen at t2
    clear hn
    go_wp2
    go_loopw [9, 10] (fun t i wr => ∃ (k : Nat) (b : Bool), k ≤ n ∧ i = .int .i64 k ∧ t = .bool b ∧ Hid (b = (xs.take k).any (fun r => r == s)) ∧ Bun w none wr [rowT p3 (addL xs s), rowT p2 (addL xs s), rowT (.slice a' n c') xs]) (fun _ i _ => n - (intOf i).toNat)
    case atStart => exact ⟨0, false, Nat.zero_le _, rfl, rfl, by simp [Hid], H5.out⟩
    case round =>
      obtain ⟨k, b, hk, rfl, rfl, hany, hB⟩ := hrel
      have HB := Lib.hid hB
      clear hB
      by_cases hlt : k < n
      · obtain ⟨x, hx⟩ : ∃ x, xs[k]? = some x := ⟨_, List.getElem?_eq_getElem (by have := HN.out; omega)⟩
        obtain ⟨g, cc, e1, t3, t4, t5, t6, t7, t8⟩ := HB.out.at 2 rfl encS_len hx
        have d0 := t8 0 _ rfl
        have hx5 := HSH.out x (List.mem_of_getElem? hx)
        simp only [Value.slice.injEq] at e1
        obtain ⟨rfl, -, rfl⟩ := e1
        simp only [Nat.mul_one, Nat.add_zero, Nat.zero_add] at d0
        have HX := Lib.hid hx
        clear hx t7 t8 t3 t4 t5
        have HT := Lib.hid (show (xs.take (k + 1)).any (fun r => r == s) = ((xs.take k).any (fun r => r == s) || x == s) by rw [List.take_add_one, HX.out]; simp [List.any_append])
        cases b
        · go_wp2
          go_roundw
          case rel => exact ⟨k + 1, _, by omega, by go_num, rfl, by show _ = _; rw [HT.out, ← hany.out]; simp, HB.out⟩
          case measure => simp [intOf]; omega
        · go_wp2
          go_roundw
          case rel => exact ⟨k + 1, true, by omega, by go_num, rfl, by show _ = _; rw [HT.out, ← hany.out]; simp, HB.out⟩
          case measure => simp [intOf]; omega
      · have HE := Lib.hid (show b = hasB xs s by rw [hany.out, List.take_of_length_le (by have := HN.out; omega)]; unfold hasB; rw [Bool.eq_iff_iff, List.any_eq_true, decide_eq_true_eq]; constructor
                                                  · rintro ⟨x, hx, he⟩; rw [beq_iff_eq] at he; subst he; exact hx
                                                  · intro h; exact ⟨s, h, by simp⟩)
        have HF := Lib.hid (show false = (b || decide (n < 6)) by rw [← HAB.out, HR.out.1, HE.out, HN.out])
        have HB0 := HF.out
        have hb0 : b = false := by cases b <;> simp at HB0 ⊢
        subst hb0
        have h6 : ¬ (n : Int) < 6 := by simp at HB0; omega
        have HL := Lib.hid (HR.out.2 HAB.out)
        rw [HL.out] at HB
        clear HB0
        go_wp2_with fail
        refine (sameTexts_c xs xs p2 (.slice a' n c') _ (HB.out.rd 1 rfl encS_len) (HB.out.rd 2 rfl encS_len)).mono ?_
        rintro e WH7 ⟨rfl, hb⟩
        rw [decide_eq_true (rfl : xs = xs)]
        have H7 := Lib.hid (HB.out.call hb)
        clear hb HB
        go_wp2
        go_ret
        exact ⟨rfl, H7.out.below⟩
  · cases hv : rightsOk xs
    · have HV := Lib.hid hv
      clear hv
      go_wp2_with fail
      refine (specRightsValid_c xs u _ (H4.out.rd 2 rfl encS_len) HSH.out.fit).mono ?_
      rintro e WH5 ⟨rfl, hb⟩
      rw [HV.out]
      have H5 := Lib.hid (H4.out.call hb)
      clear hb H4
      go_wp2_with fail
      refine (sameTexts_c (addL xs s) (addL xs s) p2 p3 _ (H5.out.rd 1 rfl encS_len) (H5.out.rd 0 rfl encS_len)).mono ?_
      rintro e WH6 ⟨rfl, hb⟩
      rw [decide_eq_true (rfl : (addL xs s) = (addL xs s))]
      have H6 := Lib.hid (H5.out.call hb)
      clear hb H5
      go_wp2
      go_ret
      exact ⟨rfl, H6.out.below⟩
    cases hg : rightOk s
    · have HV := Lib.hid hv
      have HG := Lib.hid hg
      clear hv hg
      go_wp2_with fail
      refine (specRightsValid_c xs u _ (H4.out.rd 2 rfl encS_len) HSH.out.fit).mono ?_
      rintro e WH5 ⟨rfl, hb⟩
      rw [HV.out]
      have H5 := Lib.hid (H4.out.call hb)
      clear hb H4
      go_wp2_with fail
      refine (specRightValid_c s _ (by omega)).mono ?_
      rintro e Wp ⟨rfl, rfl⟩
      rw [HG.out]
      go_wp2_with fail
      refine (sameTexts_c (addL xs s) (addL xs s) p2 p3 _ (H5.out.rd 1 rfl encS_len) (H5.out.rd 0 rfl encS_len)).mono ?_
      rintro e WH6 ⟨rfl, hb⟩
      rw [decide_eq_true (rfl : (addL xs s) = (addL xs s))]
      have H6 := Lib.hid (H5.out.call hb)
      clear hb H5
      go_wp2
      go_ret
      exact ⟨rfl, H6.out.below⟩
    have HV := Lib.hid hv
    have HG := Lib.hid hg
    have HR := Lib.hid (add_full hv hg)
    clear hv hg
    go_wp2_with fail
    refine (specRightsValid_c xs u _ (H4.out.rd 2 rfl encS_len) HSH.out.fit).mono ?_
    rintro e WH5 ⟨rfl, hb⟩
    rw [HV.out]
    have H5 := Lib.hid (H4.out.call hb)
    clear hb H4
    go_wp2_with fail
    refine (specRightValid_c s _ (by omega)).mono ?_
    rintro e Wp ⟨rfl, rfl⟩
    rw [HG.out]
    obtain ⟨n, hn⟩ : ∃ n, n = xs.length := ⟨_, rfl⟩
    obtain ⟨a', c', rfl, t1, t2, -, -⟩ := H5.out.rd 2 rfl encS_len
    rw [← hn] at t1 hl7 H5 ⊢
    have HN := Lib.hid hn
    unfold maxLen at t2
    clear hn
    go_wp2
    go_loopw [9, 10] (fun t i wr => ∃ (k : Nat) (b : Bool), k ≤ n ∧ i = .int .i64 k ∧ t = .bool b ∧ Hid (b = (xs.take k).any (fun r => r == s)) ∧ Bun w none wr [rowT p3 (addL xs s), rowT p2 (addL xs s), rowT (.slice a' n c') xs]) (fun _ i _ => n - (intOf i).toNat)
    case atStart => exact ⟨0, false, Nat.zero_le _, rfl, rfl, by simp [Hid], H5.out⟩
    case round =>
      obtain ⟨k, b, hk, rfl, rfl, hany, hB⟩ := hrel
      have HB := Lib.hid hB
      clear hB
      by_cases hlt : k < n
      · obtain ⟨x, hx⟩ : ∃ x, xs[k]? = some x := ⟨_, List.getElem?_eq_getElem (by have := HN.out; omega)⟩
        obtain ⟨g, cc, e1, t3, t4, t5, t6, t7, t8⟩ := HB.out.at 2 rfl encS_len hx
        have d0 := t8 0 _ rfl
        have hx5 := HSH.out x (List.mem_of_getElem? hx)
        simp only [Value.slice.injEq] at e1
        obtain ⟨rfl, -, rfl⟩ := e1
        simp only [Nat.mul_one, Nat.add_zero, Nat.zero_add] at d0
        have HX := Lib.hid hx
        clear hx t7 t8 t3 t4 t5
        have HT := Lib.hid (show (xs.take (k + 1)).any (fun r => r == s) = ((xs.take k).any (fun r => r == s) || x == s) by rw [List.take_add_one, HX.out]; simp [List.any_append])
        cases b
        · go_wp2
          go_roundw
          case rel => exact ⟨k + 1, _, by omega, by go_num, rfl, by show _ = _; rw [HT.out, ← hany.out]; simp, HB.out⟩
          case measure => simp [intOf]; omega
        · go_wp2
          go_roundw
          case rel => exact ⟨k + 1, true, by omega, by go_num, rfl, by show _ = _; rw [HT.out, ← hany.out]; simp, HB.out⟩
          case measure => simp [intOf]; omega
      · have HE := Lib.hid (show b = hasB xs s by rw [hany.out, List.take_of_length_le (by have := HN.out; omega)]; unfold hasB; rw [Bool.eq_iff_iff, List.any_eq_true, decide_eq_true_eq]; constructor
                                                  · rintro ⟨x, hx, he⟩; rw [beq_iff_eq] at he; subst he; exact hx
                                                  · intro h; exact ⟨s, h, by simp⟩)
        have HF := Lib.hid (show true = (b || decide (n < 6)) by rw [← HAB.out, HR.out.1, HE.out, HN.out])
        cases b
        · have HB0 := HF.out
          have h6 : (n : Int) < 6 := by simp at HB0; omega
          clear HB0
          go_wp2
          go_ret
          exact ⟨rfl, HB.out.below⟩
        · go_wp2
          go_ret
          exact ⟨rfl, HB.out.below⟩

set_option maxRecDepth 100000 in
theorem fnRightsAddFull_l (os : Os) (started : os.Started) (H : Type) (enc : TypeId × Value → H) :
    ReturnsInHanded {} Tryd.checked os 11 .any (fun w args => (Rows.fnRightsAddFullSpec.pre enc Tryd.prog Tryd.f11 [] false w args ∧ laidMetH Tryd.prog Rows.fnRightsAddFullRow.laid w) ∧ sizedMet enc Tryd.prog Tryd.f11 (OpenSpec.ofChange Rows.fnRightsAddFullSpec) false w args)
      (Rows.fnRightsAddFullSpec.post enc Tryd.prog Tryd.f11 false true false false) := by
  refine returnsInHanded_of_change_and (C := Tryd.checked) (X := fun w _ => laidMetH Tryd.prog Rows.fnRightsAddFullRow.laid w) (fun _ _ _ hh h => h.of_heap hh) own started (by kernel_rfl) Tryd.func11
    (ChangeSpec.witness_shaped (enc := enc) (C := Tryd.checked) (os := os) (X := fun w _ => laidMetH Tryd.prog Rows.fnRightsAddFullRow.laid w) false (World.laidAll Tryd.prog os Rows.fnRightsAddFullRow.laid) #[.slice none 0 0] 8 (World.laidAll_os _ _ _)
      (World.shaped_of_ZipB (by kernel_rfl) (by kernel_rfl)) (by kernel_rfl) (by kernel_rfl) (by kernel_rfl)
      (by rw [MakeChecks.laidMetH_plain _ _ _ (by kernel_rfl)]; exact laidMet_laidAll _ (by kernel_rfl) (by kernel_rfl))) ?_
  intro W base args ds gs before hval0 hW _ _ _ _
  have hval : ∀ (j : Nat) t v, Tryd.f11.params[j]? = some t → args[j]? = some v → Value.okWide Tryd.prog W .any base t v := hval0
  have hW' := hW
  obtain ⟨p, q, hA0, hV, rfl, _, _⟩ := hW
  have hA : DataW.TrodAll enc Tryd.prog W 0 (fun _ => true) true Tryd.f11.params.toList args.toList ds p := hA0
  rw [Tryd.params11] at hA hval
  obtain ⟨v0, vs0, d0, ds0, p0, q0, hargs, rfl, rfl, h0, r0⟩ := trodAll_cons hA
  obtain ⟨rfl, rfl, rfl⟩ := trodAll_nil r0
  obtain rfl : args = #[v0] := by cases args; simp_all
  obtain ⟨rfl, rfl⟩ := trodVars_none hV
  clear hA0 hval0
  simp only [List.append_nil] at hW'
  have hl0 : ∀ x ∈ p0, x.block < W.heap.size := fun x hx => by simpa using hW'.lt x (by simp [hx])
  obtain ⟨x0, hx0, hg0⟩ := openBytes (hval 0 22 v0 rfl rfl) h0
  refine (fnRightsAddFull_w x0 v0 W hx0 hg0).mono fun e W' ⟨he, hb⟩ => ?_
  subst he
  refine ⟨_, rfl, _, _, _, [], p0, [], hW', trodAll_cons_mk (shut_bool Tryd.underlying4 _) trodAll_mk0, ?_, rfl, hb.frame _, fun h => by cases h⟩
  have hk := trodAll_cons_mk (Below.trod laidOut (by kernel_rfl) (of_decide_eq_true (by kernel_rfl)) h0 hb hl0) (trodAll_mk0)
  simp only [List.append_nil] at hk
  exact hk

theorem fnRightsAddFull_row : Rows.FnRightsAddFullSaid :=
  OpenClaim.holds_of_wide 11 Tryd.f11 rfl rfl rfl rfl rfl rfl rfl ⟨rfl, rfl, rfl, rfl, rfl⟩ rfl rfl rfl rfl rfl (by kernel_rfl) Tryd.func11 (by kernel_rfl)
    (of_decide_eq_true (by kernel_rfl)) (by unfold Func.isWrapper; first | (rw [if_pos (by decide +kernel)]; kernel_rfl) | (rw [if_neg (by decide +kernel)]; exact ⟨rfl, rfl⟩))
    (fun os started H enc _ => fnRightsAddFull_l os started H enc)

theorem fnRightsAddFull_holds : Rows.FnRightsAddFullCardSaid :=
  Claim7.holds_tied_plain_at .later [] [.data, .pinned] true Rows.fnRightsAddFullCard.stood.harness false fnRightsAddFull_row (fun _ h => by cases h) (by kernel_rfl) (fun _ h => by cases h) fnRightsAddFull_row_tie rfl ⟨rfl, rfl⟩ (by kernel_rfl) rfl
    (fun f fn hf hfn => by
      obtain rfl : f = 11 := Option.some.inj ((show Tryd.prog.funcNamed "loop.example/exopager/laws.FnRightsAddFull" = some 11 by kernel_rfl).symm.trans hf) |>.symm
      obtain rfl : fn = Tryd.f11 := (Option.some.inj (Tryd.func11.symm.trans hfn)).symm
      exact ⟨by kernel_rfl, fun j t ht => by
        rw [Tryd.params11] at ht
        have hm : t ∈ [22] := by simpa using Array.mem_of_getElem? ht
        have hall : ([22].all fun u => !Tryd.prog.wantsStandIn u) = true := by kernel_rfl
        exact (show Tryd.prog.wantsStandIn t = false by simpa using List.all_eq_true.1 hall t hm)⟩)
    (by kernel_rfl)

end Go.Proofs.YtldkmibmabpfmaaDoor
