/- FnRightsAdd returns true for all codes. No conditions. -/
import Derived.Test.YtldkmibmabpfmaaDoorRightK
import Derived.Test.YtldkmibmabpfmaaDoorOpen
import Derived.Test.YtldkmibmabpfmaaDoorTie
import Derived.Test.YtldkmibmabpfmaaDoorCards
import Derived.Lay
import Derived.LaidOnce
import Derived.SevenTiedAt
namespace Go.Proofs.YtldkmibmabpfmaaDoor
open Go.ChangeShapes Go.WideShapes Go.ChangeAt Go.RowKit
set_option linter.all false
attribute [local go_sem ↓] Go.wp_at_zero Go.wp_at_succ

set_option maxHeartbeats 8000000 in
theorem fnRightsAdd_w (bs : List Int) (v : Value) (w : World) (hx : RdB w v bs) (hbs : ∀ b ∈ bs, 0 ≤ b ∧ b ≤ 255) :
    Calls Tryd.prog 12 #[v] w fun e w' => e = .returned (.bool true) ∧ Below w.heap.size w w' := by
  have hx' := Lib.hid hx
  have HBS := Lib.hid hbs
  clear hbs
  obtain ⟨a, c, rfl, h1, h2, -, -⟩ := hx
  unfold maxLen at h2
  by_cases hlbs : bs.length ≤ 1048576
  rotate_left
  · go_enter Tryd.func12, Tryd.ntmps12
    go_wp2
    go_ret
    exact ⟨rfl, bref _⟩
  go_enter Tryd.func12, Tryd.ntmps12
  go_wp2_with fail
  refine (drawRightsAdd_b hx'.out HBS.out).mono ?_
  rintro e W1 ⟨u, xs, s, rfl, hl7, hsh, hs5, hB⟩
  have H1 := Lib.hid hB
  have HSH := Lib.hid hsh
  clear hB hsh
  go_wp2_with fail
  refine (implRightsAdd_c xs u s _ (H1.out.rd 0 rfl encS_len) HSH.out.fit (by omega)).mono ?_
  rintro e WH2 ⟨p2, rfl, ho, hb⟩
  have H2 := Lib.hid (H1.out.addT ho hb)
  clear ho hb H1
  go_wp2_with fail
  refine (specRightsAdd_c xs u s _ (H2.out.rd 1 rfl encS_len) HSH.out.fit (by omega)).mono ?_
  rintro e WH3 ⟨p3, rfl, ho, hb⟩
  have H3 := Lib.hid (H2.out.addT ho hb)
  clear ho hb H2
  cases hab : addB xs s
  all_goals
    have HAB := Lib.hid hab
    clear hab
    go_wp2_with fail
    refine (sameTexts_c (addL xs s) (addL xs s) p2 p3 _ (H3.out.rd 1 rfl encS_len) (H3.out.rd 0 rfl encS_len)).mono ?_
    rintro e WH4 ⟨rfl, hb⟩
    rw [decide_eq_true (rfl : (addL xs s) = (addL xs s))]
    have H4 := Lib.hid (H3.out.call hb)
    clear hb H3
  · go_wp2_with fail
    refine (sameTexts_c (addL xs s) (addL xs s) p2 p3 _ (H4.out.rd 1 rfl encS_len) (H4.out.rd 0 rfl encS_len)).mono ?_
    rintro e WH5 ⟨rfl, hb⟩
    rw [decide_eq_true (rfl : (addL xs s) = (addL xs s))]
    have H5 := Lib.hid (H4.out.call hb)
    clear hb H4
    go_wp2
    go_ret
    exact ⟨rfl, H5.out.below⟩
  · have HAG := Lib.hid (add_again HAB.out)
    have HAO := Lib.hid (add_ok HAB.out)
    have HSA := Lib.hid (addL_short HSH.out hs5)
    have HXO := Lib.hid (show rightsOk xs = true by have := HAB.out; simp only [addB, Bool.and_eq_true] at this; exact this.1.1)
    have HSO := Lib.hid (show rightOk s = true by have := HAB.out; simp only [addB, Bool.and_eq_true] at this; exact this.1.2)
    go_wp2_with fail
    refine (implRightsAdd_c (addL xs s) p2 s _ (H4.out.rd 1 rfl encS_len) HSA.out.fit (by omega)).mono ?_
    rintro e WH5 ⟨p5, rfl, ho, hb⟩
    rw [HAG.out.1]
    have H5 := Lib.hid (H4.out.addT ho hb)
    clear ho hb H4
    rw [HAG.out.2] at H5
    obtain ⟨n, hn⟩ : ∃ n, n = xs.length := ⟨_, rfl⟩
    obtain ⟨a', c', rfl, t1, t2, -, -⟩ := H5.out.rd 3 rfl encS_len
    rw [← hn] at t1 hl7 H5 ⊢
    have HN := Lib.hid hn
    unfold maxLen at t2
    clear hn
    go_wp2
    go_loopw [11] (fun i wr => ∃ (k : Nat), k ≤ n ∧ i = .int .i64 k ∧ Bun w none wr [rowT p5 (addL xs s), rowT p3 (addL xs s), rowT p2 (addL xs s), rowT (.slice a' n c') xs]) (fun i _ => n - (intOf i).toNat)
    case atStart => exact ⟨0, Nat.zero_le _, rfl, H5.out⟩
    case round =>
      obtain ⟨k, hk, rfl, hB⟩ := hrel
      have HB := Lib.hid hB
      clear hB
      by_cases hlt : k < n
      · obtain ⟨x, hx⟩ : ∃ x, xs[k]? = some x := ⟨_, List.getElem?_eq_getElem (by have := HN.out; omega)⟩
        obtain ⟨g, cc, e1, t3, t4, t5, t6, t7, t8⟩ := HB.out.at 3 rfl encS_len hx
        have d0 := t8 0 _ rfl
        have hx5 := HSH.out x (List.mem_of_getElem? hx)
        simp only [Value.slice.injEq] at e1
        obtain ⟨rfl, -, rfl⟩ := e1
        simp only [Nat.mul_one, Nat.add_zero, Nat.zero_add] at d0
        have HX := Lib.hid hx
        clear hx t7 t8 t3 t4 t5
        have HM := Lib.hid (show rmB (addL xs s) x = true by
          have hm := List.mem_of_getElem? HX.out
          simp [rmB, HAO.out.1, rightsOk_all HXO.out x hm, may_mem (HAO.out.2.2 x hm)])
        go_wp2_with fail
        refine (implRightsMay_c (addL xs s) p2 x _ (HB.out.rd 2 rfl encS_len) HSA.out.fit (by omega)).mono ?_
        rintro e WH6 ⟨rfl, hb⟩
        rw [HM.out]
        have H6 := Lib.hid (HB.out.call hb)
        clear hb HB
        go_wp2
        go_roundw
        case rel => exact ⟨k + 1, by omega, by go_num, H6.out⟩
        case measure => simp [intOf]; omega
      · have HM := Lib.hid (show rmB (addL xs s) s = true by simp [rmB, HAO.out.1, HSO.out, may_mem HAO.out.2.1])
        go_wp2_with fail
        refine (sameTexts_c (addL xs s) (addL xs s) p5 p2 _ (HB.out.rd 0 rfl encS_len) (HB.out.rd 2 rfl encS_len)).mono ?_
        rintro e WH6 ⟨rfl, hb⟩
        rw [decide_eq_true (rfl : (addL xs s) = (addL xs s))]
        have H6 := Lib.hid (HB.out.call hb)
        clear hb HB
        go_wp2_with fail
        refine (implRightsValid_c (addL xs s) p2 _ (H6.out.rd 2 rfl encS_len) HSA.out.fit).mono ?_
        rintro e WH7 ⟨rfl, hb⟩
        rw [HAO.out.1]
        have H7 := Lib.hid (H6.out.call hb)
        clear hb H6
        go_wp2_with fail
        refine (implRightsMay_c (addL xs s) p2 s _ (H7.out.rd 2 rfl encS_len) HSA.out.fit (by omega)).mono ?_
        rintro e WH8 ⟨rfl, hb⟩
        rw [HM.out]
        have H8 := Lib.hid (H7.out.call hb)
        clear hb H7
        go_wp2
        go_ret
        exact ⟨rfl, H8.out.below⟩

set_option maxRecDepth 100000 in
theorem fnRightsAdd_l (os : Os) (started : os.Started) (H : Type) (enc : TypeId × Value → H) :
    ReturnsInHanded {} Tryd.checked os 12 .any (fun w args => (Rows.fnRightsAddSpec.pre enc Tryd.prog Tryd.f12 [] false w args ∧ laidMetH Tryd.prog Rows.fnRightsAddRow.laid w) ∧ sizedMet enc Tryd.prog Tryd.f12 (OpenSpec.ofChange Rows.fnRightsAddSpec) false w args)
      (Rows.fnRightsAddSpec.post enc Tryd.prog Tryd.f12 false true false false) := by
  refine returnsInHanded_of_change_and (C := Tryd.checked) (X := fun w _ => laidMetH Tryd.prog Rows.fnRightsAddRow.laid w) (fun _ _ _ hh h => h.of_heap hh) own started (by kernel_rfl) Tryd.func12
    (ChangeSpec.witness_shaped (enc := enc) (C := Tryd.checked) (os := os) (X := fun w _ => laidMetH Tryd.prog Rows.fnRightsAddRow.laid w) false (World.laidAll Tryd.prog os Rows.fnRightsAddRow.laid) #[.slice none 0 0] 8 (World.laidAll_os _ _ _)
      (World.shaped_of_ZipB (by kernel_rfl) (by kernel_rfl)) (by kernel_rfl) (by kernel_rfl) (by kernel_rfl)
      (by rw [MakeChecks.laidMetH_plain _ _ _ (by kernel_rfl)]; exact laidMet_laidAll _ (by kernel_rfl) (by kernel_rfl))) ?_
  intro W base args ds gs before hval0 hW _ _ _ _
  have hval : ∀ (j : Nat) t v, Tryd.f12.params[j]? = some t → args[j]? = some v → Value.okWide Tryd.prog W .any base t v := hval0
  have hW' := hW
  obtain ⟨p, q, hA0, hV, rfl, _, _⟩ := hW
  have hA : DataW.TrodAll enc Tryd.prog W 0 (fun _ => true) true Tryd.f12.params.toList args.toList ds p := hA0
  rw [Tryd.params12] at hA hval
  obtain ⟨v0, vs0, d0, ds0, p0, q0, hargs, rfl, rfl, h0, r0⟩ := trodAll_cons hA
  obtain ⟨rfl, rfl, rfl⟩ := trodAll_nil r0
  obtain rfl : args = #[v0] := by cases args; simp_all
  obtain ⟨rfl, rfl⟩ := trodVars_none hV
  clear hA0 hval0
  simp only [List.append_nil] at hW'
  have hl0 : ∀ x ∈ p0, x.block < W.heap.size := fun x hx => by simpa using hW'.lt x (by simp [hx])
  obtain ⟨x0, hx0, hg0⟩ := openBytes (hval 0 22 v0 rfl rfl) h0
  refine (fnRightsAdd_w x0 v0 W hx0 hg0).mono fun e W' ⟨he, hb⟩ => ?_
  subst he
  refine ⟨_, rfl, _, _, _, [], p0, [], hW', trodAll_cons_mk (shut_bool Tryd.underlying4 _) trodAll_mk0, ?_, rfl, hb.frame _, fun h => by cases h⟩
  have hk := trodAll_cons_mk (Below.trod laidOut (by kernel_rfl) (of_decide_eq_true (by kernel_rfl)) h0 hb hl0) (trodAll_mk0)
  simp only [List.append_nil] at hk
  exact hk

theorem fnRightsAdd_row : Rows.FnRightsAddSaid :=
  OpenClaim.holds_of_wide 12 Tryd.f12 rfl rfl rfl rfl rfl rfl rfl ⟨rfl, rfl, rfl, rfl, rfl⟩ rfl rfl rfl rfl rfl (by kernel_rfl) Tryd.func12 (by kernel_rfl)
    (of_decide_eq_true (by kernel_rfl)) (by unfold Func.isWrapper; first | (rw [if_pos (by decide +kernel)]; kernel_rfl) | (rw [if_neg (by decide +kernel)]; exact ⟨rfl, rfl⟩))
    (fun os started H enc _ => fnRightsAdd_l os started H enc)

theorem fnRightsAdd_holds : Rows.FnRightsAddCardSaid :=
  Claim7.holds_tied_plain_at .later [] [.data, .pinned] true Rows.fnRightsAddCard.stood.harness false fnRightsAdd_row (fun _ h => by cases h) (by kernel_rfl) (fun _ h => by cases h) fnRightsAdd_row_tie rfl ⟨rfl, rfl⟩ (by kernel_rfl) rfl
    (fun f fn hf hfn => by
      obtain rfl : f = 12 := Option.some.inj ((show Tryd.prog.funcNamed "loop.example/exopager/laws.FnRightsAdd" = some 12 by kernel_rfl).symm.trans hf) |>.symm
      obtain rfl : fn = Tryd.f12 := (Option.some.inj (Tryd.func12.symm.trans hfn)).symm
      exact ⟨by kernel_rfl, fun j t ht => by
        rw [Tryd.params12] at ht
        have hm : t ∈ [22] := by simpa using Array.mem_of_getElem? ht
        have hall : ([22].all fun u => !Tryd.prog.wantsStandIn u) = true := by kernel_rfl
        exact (show Tryd.prog.wantsStandIn t = false by simpa using List.all_eq_true.1 hall t hm)⟩)
    (by kernel_rfl)

end Go.Proofs.YtldkmibmabpfmaaDoor
