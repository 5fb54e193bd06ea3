/- FnRightCoversTwo returns true for all codes. No conditions. -/
import Derived.Test.YtldkmibmabpfmaaDoorRightB
import Derived.Test.YtldkmibmabpfmaaDoorOpen
import Derived.Test.YtldkmibmabpfmaaDoorTie
import Derived.Test.YtldkmibmabpfmaaDoorCards
import Derived.Lay
import Derived.LaidOnce
import Derived.SevenTiedAt
namespace Go.Proofs.YtldkmibmabpfmaaDoor
open Go.ChangeShapes Go.WideShapes Go.ChangeAt Go.RowKit
set_option linter.all false
attribute [local go_sem ↓] Go.wp_at_zero Go.wp_at_succ

theorem fnRightCoversTwo_w (bs : List Int) (v : Value) (w : World) (hx : RdB w v bs) (hbs : ∀ b ∈ bs, 0 ≤ b ∧ b ≤ 255) :
    Calls Tryd.prog 3 #[v] w fun e w' => e = .returned (.bool true) ∧ Below w.heap.size w w' := by
  have hx' := Lib.hid hx
  have HBS := Lib.hid hbs
  clear hbs
  obtain ⟨a, c, rfl, h1, h2, -, -⟩ := hx
  unfold maxLen at h2
  by_cases hl : bs.length ≤ 1048576
  rotate_left
  · go_enter Tryd.func3, Tryd.ntmps3
    go_wp2
    go_ret
    exact ⟨rfl, bref _⟩
  go_enter Tryd.func3, Tryd.ntmps3
  go_wp2_with fail
  refine (drawRightCovers_b bs _ _ hx'.out HBS.out).mono ?_
  rintro e W1 ⟨p, q, rfl, hp, hq, hb1⟩
  go_wp2_with fail
  refine (implRightCovers_c p q _ (by omega) (by omega)).mono ?_
  rintro e W2 ⟨rfl, hb2⟩
  have hb2 := bnext hb1 hb2
  go_wp2_with fail
  refine (specRightCovers_c p q _ (by omega) (by omega)).mono ?_
  rintro e W3 ⟨rfl, rfl⟩
  cases hv : rcB p q
  · go_wp2
    go_ret
    exact ⟨rfl, hb2⟩
  have HA := Lib.hid (rc_two hv)
  clear hv
  go_wp2_with fail
  refine (implRightCovers_c q p _ (by omega) (by omega)).mono ?_
  rintro e W4 ⟨rfl, hb4⟩
  have hb4 := bnext hb2 hb4
  have HE := Lib.hid (show rcB q p = (p == q) by rw [HA.out.1]; by_cases h : p = q <;> simp [h])
  rw [HE.out]
  generalize hpq : (p == q) = E
  have HP := Lib.hid hpq
  clear hpq
  cases E
  all_goals
    go_wp2_with (with_reducible rw [HP.out])
    refine (implRightCovers_c p p _ (by omega) (by omega)).mono ?_
    rintro e W5 ⟨rfl, hb5⟩
    have hb5 := bnext hb4 hb5
    rw [HA.out.2.1]
    go_wp2_with fail
    refine (implRightCovers_c [] q _ (by simp) (by omega)).mono ?_
    rintro e W6 ⟨rfl, hb6⟩
    have hb6 := bnext hb5 hb6
    rw [HA.out.2.2]
    go_wp2
    go_ret
    exact ⟨rfl, hb6⟩

set_option maxRecDepth 100000 in
theorem fnRightCoversTwo_l (os : Os) (started : os.Started) (H : Type) (enc : TypeId × Value → H) :
    ReturnsInHanded {} Tryd.checked os 3 .any (fun w args => (Rows.fnRightCoversTwoSpec.pre enc Tryd.prog Tryd.f3 [] false w args ∧ laidMetH Tryd.prog Rows.fnRightCoversTwoRow.laid w) ∧ sizedMet enc Tryd.prog Tryd.f3 (OpenSpec.ofChange Rows.fnRightCoversTwoSpec) false w args)
      (Rows.fnRightCoversTwoSpec.post enc Tryd.prog Tryd.f3 false true false false) := by
  refine returnsInHanded_of_change_and (C := Tryd.checked) (X := fun w _ => laidMetH Tryd.prog Rows.fnRightCoversTwoRow.laid w) (fun _ _ _ hh h => h.of_heap hh) own started (by kernel_rfl) Tryd.func3
    (ChangeSpec.witness_shaped (enc := enc) (C := Tryd.checked) (os := os) (X := fun w _ => laidMetH Tryd.prog Rows.fnRightCoversTwoRow.laid w) false (World.laidAll Tryd.prog os Rows.fnRightCoversTwoRow.laid) #[.slice none 0 0] 8 (World.laidAll_os _ _ _)
      (World.shaped_of_ZipB (by kernel_rfl) (by kernel_rfl)) (by kernel_rfl) (by kernel_rfl) (by kernel_rfl)
      (by rw [MakeChecks.laidMetH_plain _ _ _ (by kernel_rfl)]; exact laidMet_laidAll _ (by kernel_rfl) (by kernel_rfl))) ?_
  intro W base args ds gs before hval0 hW _ _ _ _
  have hval : ∀ (j : Nat) t v, Tryd.f3.params[j]? = some t → args[j]? = some v → Value.okWide Tryd.prog W .any base t v := hval0
  have hW' := hW
  obtain ⟨p, q, hA0, hV, rfl, _, _⟩ := hW
  have hA : DataW.TrodAll enc Tryd.prog W 0 (fun _ => true) true Tryd.f3.params.toList args.toList ds p := hA0
  rw [Tryd.params3] at hA hval
  obtain ⟨v0, vs0, d0, ds0, p0, q0, hargs, rfl, rfl, h0, r0⟩ := trodAll_cons hA
  obtain ⟨rfl, rfl, rfl⟩ := trodAll_nil r0
  obtain rfl : args = #[v0] := by cases args; simp_all
  obtain ⟨rfl, rfl⟩ := trodVars_none hV
  clear hA0 hval0
  simp only [List.append_nil] at hW'
  have hl0 : ∀ x ∈ p0, x.block < W.heap.size := fun x hx => by simpa using hW'.lt x (by simp [hx])
  obtain ⟨x0, hx0, hg0⟩ := openBytes (hval 0 22 v0 rfl rfl) h0
  refine (fnRightCoversTwo_w x0 v0 W hx0 hg0).mono fun e W' ⟨he, hb⟩ => ?_
  subst he
  refine ⟨_, rfl, _, _, _, [], p0, [], hW', trodAll_cons_mk (shut_bool Tryd.underlying4 _) trodAll_mk0, ?_, rfl, hb.frame _, fun h => by cases h⟩
  have hk := trodAll_cons_mk (Below.trod laidOut (by kernel_rfl) (of_decide_eq_true (by kernel_rfl)) h0 hb hl0) (trodAll_mk0)
  simp only [List.append_nil] at hk
  exact hk

theorem fnRightCoversTwo_row : Rows.FnRightCoversTwoSaid :=
  OpenClaim.holds_of_wide 3 Tryd.f3 rfl rfl rfl rfl rfl rfl rfl ⟨rfl, rfl, rfl, rfl, rfl⟩ rfl rfl rfl rfl rfl (by kernel_rfl) Tryd.func3 (by kernel_rfl)
    (of_decide_eq_true (by kernel_rfl)) (by unfold Func.isWrapper; first | (rw [if_pos (by decide +kernel)]; kernel_rfl) | (rw [if_neg (by decide +kernel)]; exact ⟨rfl, rfl⟩))
    (fun os started H enc _ => fnRightCoversTwo_l os started H enc)

theorem fnRightCoversTwo_holds : Rows.FnRightCoversTwoCardSaid :=
  Claim7.holds_tied_plain_at .later [] [.data, .pinned] true Rows.fnRightCoversTwoCard.stood.harness false fnRightCoversTwo_row (fun _ h => by cases h) (by kernel_rfl) (fun _ h => by cases h) fnRightCoversTwo_row_tie rfl ⟨rfl, rfl⟩ (by kernel_rfl) rfl
    (fun f fn hf hfn => by
      obtain rfl : f = 3 := Option.some.inj ((show Tryd.prog.funcNamed "loop.example/exopager/laws.FnRightCoversTwo" = some 3 by kernel_rfl).symm.trans hf) |>.symm
      obtain rfl : fn = Tryd.f3 := (Option.some.inj (Tryd.func3.symm.trans hfn)).symm
      exact ⟨by kernel_rfl, fun j t ht => by
        rw [Tryd.params3] at ht
        have hm : t ∈ [22] := by simpa using Array.mem_of_getElem? ht
        have hall : ([22].all fun u => !Tryd.prog.wantsStandIn u) = true := by kernel_rfl
        exact (show Tryd.prog.wantsStandIn t = false by simpa using List.all_eq_true.1 hall t hm)⟩)
    (by kernel_rfl)

end Go.Proofs.YtldkmibmabpfmaaDoor
