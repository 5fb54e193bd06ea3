/- FnRightsDrop returns true for all codes. No conditions. -/
import Derived.Test.YtldkmibmabpfmaaDoorRightK
import Derived.Test.YtldkmibmabpfmaaDoorOpen
import Derived.Test.YtldkmibmabpfmaaDoorTie
import Derived.Test.YtldkmibmabpfmaaDoorCards
import Derived.Lay
import Derived.LaidOnce
import Derived.SevenTiedAt
namespace Go.Proofs.YtldkmibmabpfmaaDoor
open Go.ChangeShapes Go.WideShapes Go.ChangeAt Go.RowKit
set_option linter.all false
attribute [local go_sem ↓] Go.wp_at_zero Go.wp_at_succ

set_option maxHeartbeats 8000000 in
theorem fnRightsDrop_w (bs : List Int) (v : Value) (w : World) (hx : RdB w v bs) (hbs : ∀ b ∈ bs, 0 ≤ b ∧ b ≤ 255) :
    Calls Tryd.prog 9 #[v] w fun e w' => e = .returned (.bool true) ∧ Below w.heap.size w w' := by
  have hx' := Lib.hid hx
  have HBS := Lib.hid hbs
  clear hbs
  obtain ⟨a, c, rfl, h1, h2, -, -⟩ := hx
  unfold maxLen at h2
  by_cases hlbs : bs.length ≤ 1048576
  rotate_left
  · go_enter Tryd.func9, Tryd.ntmps9
    go_wp2
    go_ret
    exact ⟨rfl, bref _⟩
  go_enter Tryd.func9, Tryd.ntmps9
  go_wp2_with fail
  refine (drawRightsDrop_b hx'.out HBS.out).mono ?_
  rintro e W1 ⟨u, xs, s, rfl, hl7, hsh, hs5, hB⟩
  have H1 := Lib.hid hB
  have HSH := Lib.hid hsh
  clear hB hsh
  go_wp2_with fail
  refine (implRightsDrop_c xs u s _ (H1.out.rd 0 rfl encS_len) HSH.out.fit (by omega)).mono ?_
  rintro e WH2 ⟨u2, rfl, ho, hb⟩
  have H2 := Lib.hid (H1.out.addT ho hb)
  clear ho hb H1
  go_wp2_with fail
  refine (specRightsDrop_o xs u s _ (H2.out.rd 1 rfl encS_len) HSH.out.fit (by omega)).mono ?_
  rintro e WH3 ⟨u3, rfl, ho, hb⟩
  have H3 := Lib.hid (H2.out.addT ho hb)
  clear ho hb H2
  go_wp2_with fail
  refine (sameTexts_c (dropL xs s) (dropL xs s) u2 u3 _ (H3.out.rd 1 rfl encS_len) (H3.out.rd 0 rfl encS_len)).mono ?_
  rintro e WH4 ⟨rfl, hb⟩
  rw [decide_eq_true (rfl : (dropL xs s) = (dropL xs s))]
  have H4 := Lib.hid (H3.out.call hb)
  clear hb H3
  cases hv : rightsOk xs
  · have HV := Lib.hid hv
    clear hv
    go_wp2_with fail
    refine (specRightsValid_c xs u _ (H4.out.rd 2 rfl encS_len) HSH.out.fit).mono ?_
    rintro e WH5 ⟨rfl, hb⟩
    rw [HV.out]
    have H5 := Lib.hid (H4.out.call hb)
    clear hb H4
    go_wp2_with fail
    refine (sameTexts_c (dropL xs s) (dropL xs s) u2 u3 _ (H5.out.rd 1 rfl encS_len) (H5.out.rd 0 rfl encS_len)).mono ?_
    rintro e WH6 ⟨rfl, hb⟩
    rw [decide_eq_true (rfl : (dropL xs s) = (dropL xs s))]
    have H6 := Lib.hid (H5.out.call hb)
    clear hb H5
    go_wp2
    go_ret
    exact ⟨rfl, H6.out.below⟩
  cases hg : rightOk s
  · have HV := Lib.hid hv
    have HG := Lib.hid hg
    clear hv hg
    go_wp2_with fail
    refine (specRightsValid_c xs u _ (H4.out.rd 2 rfl encS_len) HSH.out.fit).mono ?_
    rintro e WH5 ⟨rfl, hb⟩
    rw [HV.out]
    have H5 := Lib.hid (H4.out.call hb)
    clear hb H4
    go_wp2_with fail
    refine (specRightValid_c s _ (by omega)).mono ?_
    rintro e Wp ⟨rfl, rfl⟩
    rw [HG.out]
    go_wp2_with fail
    refine (sameTexts_c (dropL xs s) (dropL xs s) u2 u3 _ (H5.out.rd 1 rfl encS_len) (H5.out.rd 0 rfl encS_len)).mono ?_
    rintro e WH6 ⟨rfl, hb⟩
    rw [decide_eq_true (rfl : (dropL xs s) = (dropL xs s))]
    have H6 := Lib.hid (H5.out.call hb)
    clear hb H5
    go_wp2
    go_ret
    exact ⟨rfl, H6.out.below⟩
  have HV := Lib.hid hv
  have HG := Lib.hid hg
  have HR := Lib.hid (drop_filter hv hg)
  clear hv hg
  go_wp2_with fail
  refine (specRightsValid_c xs u _ (H4.out.rd 2 rfl encS_len) HSH.out.fit).mono ?_
  rintro e WH5 ⟨rfl, hb⟩
  rw [HV.out]
  have H5 := Lib.hid (H4.out.call hb)
  clear hb H4
  go_wp2_with fail
  refine (specRightValid_c s _ (by omega)).mono ?_
  rintro e Wp ⟨rfl, rfl⟩
  rw [HG.out]
  obtain ⟨n, hn⟩ : ∃ n, n = xs.length := ⟨_, rfl⟩
  obtain ⟨a', c', rfl, t1, t2, -, -⟩ := H5.out.rd 2 rfl encS_len
  rw [← hn] at t1 hl7 H5 ⊢
  have HN := Lib.hid hn
  unfold maxLen at t2
  clear hn
  have H6 := Lib.hid (H5.out.lit eltStr #[] [] rfl (by simp))
  clear H5
  go_wp2
  go_loopw [7, 8] (fun t i wr => ∃ (k : Nat), k ≤ n ∧ i = .int .i64 k ∧ Bun w none wr [rowT t ((xs.take k).filter (fun r => !rcB s r)), rowT u3 (dropL xs s), rowT u2 (dropL xs s), rowT (.slice a' n c') xs]) (fun _ i _ => n - (intOf i).toNat)
  case atStart => exact ⟨0, Nat.zero_le _, rfl, H6.out⟩
  case round =>
    obtain ⟨k, hk, rfl, hB⟩ := hrel
    have HB := Lib.hid hB
    clear hB
    by_cases hlt : k < n
    · obtain ⟨x, hx⟩ : ∃ x, xs[k]? = some x := ⟨_, List.getElem?_eq_getElem (by have := HN.out; omega)⟩
      obtain ⟨g, cc, e1, t3, t4, t5, t6, t7, t8⟩ := HB.out.at 3 rfl encS_len hx
      have d0 := t8 0 _ rfl
      have hx5 := HSH.out x (List.mem_of_getElem? hx)
      simp only [Value.slice.injEq] at e1
      obtain ⟨rfl, -, rfl⟩ := e1
      simp only [Nat.mul_one, Nat.add_zero, Nat.zero_add] at d0
      have HX := Lib.hid hx
      clear hx t7 t8 t3 t4 t5
      have HGS := Lib.hid t6
      clear t6
      go_wp2_with fail
      refine (implRightCovers_c s x _ (by omega) (by omega)).mono ?_
      rintro e WH7 ⟨rfl, hb⟩
      have H7 := Lib.hid (HB.out.call hb)
      clear hb HB
      cases hc : rcB s x
      · have HT := Lib.hid (show (xs.take (k + 1)).filter (fun r => !rcB s r) = (xs.take k).filter (fun r => !rcB s r) ++ [x] by rw [List.take_add_one, HX.out]; simp [List.filter_append, hc])
        have HLE := Lib.hid (show ((xs.take k).filter (fun r => !rcB s r)).length ≤ 7 from Nat.le_trans (List.length_filter_le _ _) (by simp; omega))
        clear hc
        obtain ⟨g, cc, e1, -, -, -, -, -, t8⟩ := H7.out.at 3 rfl encS_len HX.out
        have d1 := t8 0 _ rfl
        simp only [Value.slice.injEq, Option.some.injEq, Addr.mk.injEq, and_true] at e1
        obtain ⟨rfl, -, rfl⟩ := e1
        simp only [Nat.mul_one, Nat.add_zero, Nat.zero_add] at d1
        clear t8 d0
        have H8 := Lib.hid ((H7.out.lits eltStr #[tv x] [x] 1 rfl rfl (by omega)).front 1 rfl)
        go_wp2_with (at_builtin; refine append_b eltStr rfl _ _ rfl _ _ [x] rfl rfl H8.out (H8.out.rd 1 rfl encS_len) (by have := HLE.out; simp only [List.length_cons, List.length_nil]; omega) ?_; intro v9 w9 h9 hnil9)
        have H9 := Lib.hid (h9.rm 1)
        clear h9 hnil9 H8 H7
        go_roundw
        case rel => exact ⟨k + 1, by omega, by go_num, by rw [HT.out]; exact H9.out⟩
        case measure => simp [intOf]; omega
      · have HT := Lib.hid (show (xs.take (k + 1)).filter (fun r => !rcB s r) = (xs.take k).filter (fun r => !rcB s r) by rw [List.take_add_one, HX.out]; simp [List.filter_append, hc])
        clear hc
        go_wp2
        go_roundw
        case rel => exact ⟨k + 1, by omega, by go_num, by rw [HT.out]; exact H7.out⟩
        case measure => simp [intOf]; omega
    · have HE := Lib.hid (show (xs.take k).filter (fun r => !rcB s r) = dropL xs s by rw [HR.out, List.take_of_length_le (by have := HN.out; omega)])
      rw [HE.out] at HB
      go_wp2_with fail
      refine (sameTexts_c (dropL xs s) (dropL xs s) u2 _ _ (HB.out.rd 2 rfl encS_len) (HB.out.rd 0 rfl encS_len)).mono ?_
      rintro e WH7 ⟨rfl, hb⟩
      rw [decide_eq_true (rfl : (dropL xs s) = (dropL xs s))]
      have H7 := Lib.hid (HB.out.call hb)
      clear hb HB
      go_wp2
      go_ret
      exact ⟨rfl, H7.out.below⟩

set_option maxRecDepth 100000 in
theorem fnRightsDrop_l (os : Os) (started : os.Started) (H : Type) (enc : TypeId × Value → H) :
    ReturnsInHanded {} Tryd.checked os 9 .any (fun w args => (Rows.fnRightsDropSpec.pre enc Tryd.prog Tryd.f9 [] false w args ∧ laidMetH Tryd.prog Rows.fnRightsDropRow.laid w) ∧ sizedMet enc Tryd.prog Tryd.f9 (OpenSpec.ofChange Rows.fnRightsDropSpec) false w args)
      (Rows.fnRightsDropSpec.post enc Tryd.prog Tryd.f9 false true false false) := by
  refine returnsInHanded_of_change_and (C := Tryd.checked) (X := fun w _ => laidMetH Tryd.prog Rows.fnRightsDropRow.laid w) (fun _ _ _ hh h => h.of_heap hh) own started (by kernel_rfl) Tryd.func9
    (ChangeSpec.witness_shaped (enc := enc) (C := Tryd.checked) (os := os) (X := fun w _ => laidMetH Tryd.prog Rows.fnRightsDropRow.laid w) false (World.laidAll Tryd.prog os Rows.fnRightsDropRow.laid) #[.slice none 0 0] 8 (World.laidAll_os _ _ _)
      (World.shaped_of_ZipB (by kernel_rfl) (by kernel_rfl)) (by kernel_rfl) (by kernel_rfl) (by kernel_rfl)
      (by rw [MakeChecks.laidMetH_plain _ _ _ (by kernel_rfl)]; exact laidMet_laidAll _ (by kernel_rfl) (by kernel_rfl))) ?_
  intro W base args ds gs before hval0 hW _ _ _ _
  have hval : ∀ (j : Nat) t v, Tryd.f9.params[j]? = some t → args[j]? = some v → Value.okWide Tryd.prog W .any base t v := hval0
  have hW' := hW
  obtain ⟨p, q, hA0, hV, rfl, _, _⟩ := hW
  have hA : DataW.TrodAll enc Tryd.prog W 0 (fun _ => true) true Tryd.f9.params.toList args.toList ds p := hA0
  rw [Tryd.params9] at hA hval
  obtain ⟨v0, vs0, d0, ds0, p0, q0, hargs, rfl, rfl, h0, r0⟩ := trodAll_cons hA
  obtain ⟨rfl, rfl, rfl⟩ := trodAll_nil r0
  obtain rfl : args = #[v0] := by cases args; simp_all
  obtain ⟨rfl, rfl⟩ := trodVars_none hV
  clear hA0 hval0
  simp only [List.append_nil] at hW'
  have hl0 : ∀ x ∈ p0, x.block < W.heap.size := fun x hx => by simpa using hW'.lt x (by simp [hx])
  obtain ⟨x0, hx0, hg0⟩ := openBytes (hval 0 22 v0 rfl rfl) h0
  refine (fnRightsDrop_w x0 v0 W hx0 hg0).mono fun e W' ⟨he, hb⟩ => ?_
  subst he
  refine ⟨_, rfl, _, _, _, [], p0, [], hW', trodAll_cons_mk (shut_bool Tryd.underlying4 _) trodAll_mk0, ?_, rfl, hb.frame _, fun h => by cases h⟩
  have hk := trodAll_cons_mk (Below.trod laidOut (by kernel_rfl) (of_decide_eq_true (by kernel_rfl)) h0 hb hl0) (trodAll_mk0)
  simp only [List.append_nil] at hk
  exact hk

theorem fnRightsDrop_row : Rows.FnRightsDropSaid :=
  OpenClaim.holds_of_wide 9 Tryd.f9 rfl rfl rfl rfl rfl rfl rfl ⟨rfl, rfl, rfl, rfl, rfl⟩ rfl rfl rfl rfl rfl (by kernel_rfl) Tryd.func9 (by kernel_rfl)
    (of_decide_eq_true (by kernel_rfl)) (by unfold Func.isWrapper; first | (rw [if_pos (by decide +kernel)]; kernel_rfl) | (rw [if_neg (by decide +kernel)]; exact ⟨rfl, rfl⟩))
    (fun os started H enc _ => fnRightsDrop_l os started H enc)

theorem fnRightsDrop_holds : Rows.FnRightsDropCardSaid :=
  Claim7.holds_tied_plain_at .later [] [.data, .pinned] true Rows.fnRightsDropCard.stood.harness false fnRightsDrop_row (fun _ h => by cases h) (by kernel_rfl) (fun _ h => by cases h) fnRightsDrop_row_tie rfl ⟨rfl, rfl⟩ (by kernel_rfl) rfl
    (fun f fn hf hfn => by
      obtain rfl : f = 9 := Option.some.inj ((show Tryd.prog.funcNamed "loop.example/exopager/laws.FnRightsDrop" = some 9 by kernel_rfl).symm.trans hf) |>.symm
      obtain rfl : fn = Tryd.f9 := (Option.some.inj (Tryd.func9.symm.trans hfn)).symm
      exact ⟨by kernel_rfl, fun j t ht => by
        rw [Tryd.params9] at ht
        have hm : t ∈ [22] := by simpa using Array.mem_of_getElem? ht
        have hall : ([22].all fun u => !Tryd.prog.wantsStandIn u) = true := by kernel_rfl
        exact (show Tryd.prog.wantsStandIn t = false by simpa using List.all_eq_true.1 hall t hm)⟩)
    (by kernel_rfl)

end Go.Proofs.YtldkmibmabpfmaaDoor
