/- FnExactTableNeeds and FnTableNeeds return true for every argument. No conditions. -/
import Derived.Test.YtkpdjnfgmgnjdaaDraw
import Derived.Test.YtkpdjnfgmgnjdaaOpen
namespace Go.Proofs.Ytkpdjnfgmgnjdaa
open Go.ChangeShapes Go.WideShapes Go.ChangeAt Go.RowKit
set_option linter.all false

/-- The kind of frames that a table needs. -/
def needs (k : Int) : Int := if k = 3 then 2 else if k = 2 then 1 else 0

theorem implTableNeeds_c (k : Int) (w : World) : Calls Try.prog 18 #[.int .i64 k] w fun e w' => e = .returned (.int .i64 (needs k)) ∧ w = w' := by
  by_cases h3 : k = 3
  · subst h3
    go_enter Try.func18, Try.ntmps18
    go_wp2
    go_ret
    exact ⟨rfl, rfl⟩
  · by_cases h2 : k = 2
    · subst h2
      go_enter Try.func18, Try.ntmps18
      go_wp2
      go_ret
      exact ⟨rfl, rfl⟩
    · have e3 : (k == 3) = false := beq_eq_false_iff_ne.2 h3
      have e2 : (k == 2) = false := beq_eq_false_iff_ne.2 h2
      have hn : needs k = 0 := by unfold needs; rw [if_neg h3, if_neg h2]
      have HN := Lib.hid hn
      clear hn
      go_enter Try.func18, Try.ntmps18
      go_wp2
      go_ret
      exact ⟨ret_int HN.out.symm, rfl⟩

/-- A kind is that of a table. -/
def tab (k : Int) : Bool := decide (k = 2 ∨ k = 3)

theorem l13Table_c (k : Int) (w : World) : Calls Try.prog 44 #[.int .i64 k] w fun e w' => e = .returned (.bool (tab k)) ∧ w = w' := by
  go_enter Try.func44, Try.ntmps44
  go_wp2
  all_goals go_ret
  all_goals exact ⟨ret_bool (by unfold tab; by_cases h2 : k = 2 <;> by_cases h3 : k = 3 <;> simp_all), rfl⟩

theorem specTableNeeds_c (k : Int) (w : World) : Calls Try.prog 17 #[.int .i64 k] w fun e w' => e = .returned (.int .i64 (needs k)) ∧ w = w' := by
  by_cases ht : k = 2 ∨ k = 3
  · have ht1 := Lib.hid (show tab k = true by simp [tab, ht])
    have hn := Lib.hid (show needs k = k - 1 by unfold needs; split <;> (try split) <;> omega)
    go_enter Try.func17, Try.ntmps17
    go_wp2_with (go_at_call 44; refine (l13Table_c _ _).mono ?_; rintro e w' ⟨rfl, rfl⟩; rw [ht1.out])
    go_ret
    exact ⟨ret_int hn.out.symm, rfl⟩
  · have ht1 := Lib.hid (show tab k = false by simp [tab, ht])
    have hn := Lib.hid (show needs k = 0 by unfold needs; rw [if_neg (by omega), if_neg (by omega)])
    clear ht
    go_enter Try.func17, Try.ntmps17
    go_wp2_with (go_at_call 44; refine (l13Table_c _ _).mono ?_; rintro e w' ⟨rfl, rfl⟩; rw [ht1.out])
    go_ret
    exact ⟨ret_int hn.out.symm, rfl⟩

theorem exactTableNeeds_w (k : Int) (w : World) : Calls Try.prog 3 #[.int .i64 k] w fun e w' => e = .returned (.bool true) ∧ Below w.heap.size w w' := by
  go_enter Try.func3, Try.ntmps3
  go_wp2_with (first | (go_at_call 17; refine (specTableNeeds_c _ _).mono ?_; rintro e w' ⟨rfl, rfl⟩) | (go_at_call 18; refine (implTableNeeds_c _ _).mono ?_; rintro e w' ⟨rfl, rfl⟩))
  go_ret
  exact ⟨rfl, bref _⟩

theorem tableNeeds_w (bs : List Int) (v : Value) (w : World) (hx : RdB w v bs) (hbs : ∀ b ∈ bs, 0 ≤ b ∧ b ≤ 255) : Calls Try.prog 4 #[v] w fun e w' => e = .returned (.bool true) ∧ Below w.heap.size w w' := by
  have hx' := Lib.hid hx
  obtain ⟨a, c, rfl, h1, h2, -, -⟩ := hx
  unfold maxLen at h2
  by_cases hl : bs.length ≤ 1048576
  · go_enter Try.func4, Try.ntmps4
    go_wp2_with fail
    refine (drawTableNeeds_c bs _ _ hx'.out hbs).mono ?_
    rintro e w1 ⟨k, rfl, hb⟩
    have hk : (k = 3 ∧ needs k = 2) ∨ (k = 2 ∧ needs k = 1) ∨ ((k == 3) = false ∧ (k == 2) = false ∧ needs k = 0) := by
      by_cases h3 : k = 3
      · exact .inl ⟨h3, by rw [h3]; rfl⟩
      · by_cases h2 : k = 2
        · exact .inr (.inl ⟨h2, by rw [h2]; rfl⟩)
        · exact .inr (.inr ⟨beq_eq_false_iff_ne.2 h3, beq_eq_false_iff_ne.2 h2, by unfold needs; rw [if_neg h3, if_neg h2]⟩)
    have HB := Lib.hid hb
    clear hb
    rcases hk with ⟨rfl, hn⟩ | ⟨rfl, hn⟩ | ⟨e3, e2, hn⟩
    all_goals
      have HN := Lib.hid hn
      clear hn
      go_wp2_with (first | (go_at_call 17; refine (specTableNeeds_c _ _).mono ?_; rintro e w' ⟨rfl, rfl⟩; rw [HN.out]) | (go_at_call 18; refine (implTableNeeds_c _ _).mono ?_; rintro e w' ⟨rfl, rfl⟩; rw [HN.out]))
      go_ret
      exact ⟨rfl, HB.out⟩
  · go_enter Try.func4, Try.ntmps4
    go_wp2
    go_ret
    exact ⟨rfl, bref _⟩

set_option maxRecDepth 100000 in
theorem fnExactTableNeeds_l (os : Os) (started : os.Started) (H : Type) (enc : TypeId × Value → H) :
    ReturnsInHanded {} Try.checked os 3 .any (Rows.fnExactTableNeedsSpec.pre6 enc Try.prog Try.f3 Rows.fnExactTableNeedsRow.domain false) (Rows.fnExactTableNeedsSpec.post enc Try.prog Try.f3 false true false false) := by
  refine returnsInHanded_of_change (C := Try.checked) own started (by kernel_rfl) Try.func3
    (ChangeSpec.witness6 (enc := enc) (C := Try.checked) false ⟨#[], #[.int .i64 0], []⟩ 8 (by kernel_rfl) (by kernel_rfl) (by kernel_rfl) (by kernel_rfl)) ?_
  intro W base args ds gs before hval0 hW _ _
  have hval : ∀ (j : Nat) t v, Try.f3.params[j]? = some t → args[j]? = some v → Value.okWide Try.prog W .any base t v := hval0
  have hW' := hW
  obtain ⟨p, q, hA0, hV, rfl, _, _⟩ := hW
  have hA : DataW.TrodAll enc Try.prog W 0 (fun _ => true) true Try.f3.params.toList args.toList ds p := hA0
  rw [Try.params3] at hA hval
  obtain ⟨v0, vs0, d0, ds0, p0, q0, hargs, rfl, rfl, h0, r0⟩ := trodAll_cons hA
  obtain ⟨rfl, rfl, rfl⟩ := trodAll_nil r0
  obtain rfl : args = #[v0] := by cases args; simp_all
  obtain ⟨rfl, rfl⟩ := trodVars_none hV
  clear hA0 hval0
  simp only [List.append_nil] at hW'
  have hl0 : ∀ x ∈ p0, x.block < W.heap.size := fun x hx => by simpa using hW'.lt x (by simp [hx])
  obtain ⟨x0, hv0⟩ := openInt (hval 0 3 v0 rfl rfl) h0
  subst hv0
  refine (exactTableNeeds_w x0 W ).mono fun e W' ⟨he, hb⟩ => ?_
  subst he
  refine ⟨_, rfl, _, _, _, [], p0, [], hW', trodAll_cons_mk (shut_bool Try.underlying4 _) trodAll_mk0, ?_, rfl, hb.frame _, fun h => by cases h⟩
  have hk := trodAll_cons_mk (Below.trod laidOut (by kernel_rfl) (of_decide_eq_true (by kernel_rfl)) h0 hb hl0) (trodAll_mk0)
  simp only [List.append_nil] at hk
  exact hk

theorem fnExactTableNeeds_holds : Rows.FnExactTableNeedsSaid :=
  OpenClaim.holds_of_wide 3 Try.f3 rfl rfl rfl rfl rfl rfl rfl ⟨rfl, rfl, rfl, rfl, rfl⟩ rfl rfl rfl rfl rfl (by kernel_rfl) Try.func3 (by kernel_rfl)
    (of_decide_eq_true (by kernel_rfl)) (by unfold Func.isWrapper; first | (rw [if_pos (by decide +kernel)]; kernel_rfl) | (rw [if_neg (by decide +kernel)]; exact ⟨rfl, rfl⟩))
    (fun os started H enc _ => fnExactTableNeeds_l os started H enc)

set_option maxRecDepth 100000 in
theorem fnTableNeeds_l (os : Os) (started : os.Started) (H : Type) (enc : TypeId × Value → H) :
    ReturnsInHanded {} Try.checked os 4 .any (Rows.fnTableNeedsSpec.pre6 enc Try.prog Try.f4 Rows.fnTableNeedsRow.domain false) (Rows.fnTableNeedsSpec.post enc Try.prog Try.f4 false true false false) := by
  refine returnsInHanded_of_change (C := Try.checked) own started (by kernel_rfl) Try.func4
    (ChangeSpec.witness6 (enc := enc) (C := Try.checked) false ⟨#[], #[.slice none 0 0], []⟩ 8 (by kernel_rfl) (by kernel_rfl) (by kernel_rfl) (by kernel_rfl)) ?_
  intro W base args ds gs before hval0 hW _ _
  have hval : ∀ (j : Nat) t v, Try.f4.params[j]? = some t → args[j]? = some v → Value.okWide Try.prog W .any base t v := hval0
  have hW' := hW
  obtain ⟨p, q, hA0, hV, rfl, _, _⟩ := hW
  have hA : DataW.TrodAll enc Try.prog W 0 (fun _ => true) true Try.f4.params.toList args.toList ds p := hA0
  rw [Try.params4] at hA hval
  obtain ⟨v0, vs0, d0, ds0, p0, q0, hargs, rfl, rfl, h0, r0⟩ := trodAll_cons hA
  obtain ⟨rfl, rfl, rfl⟩ := trodAll_nil r0
  obtain rfl : args = #[v0] := by cases args; simp_all
  obtain ⟨rfl, rfl⟩ := trodVars_none hV
  clear hA0 hval0
  simp only [List.append_nil] at hW'
  have hl0 : ∀ x ∈ p0, x.block < W.heap.size := fun x hx => by simpa using hW'.lt x (by simp [hx])
  obtain ⟨x0, hx0, hg0⟩ := openBytes (hval 0 24 v0 rfl rfl) h0
  refine (tableNeeds_w x0 v0 W hx0 hg0).mono fun e W' ⟨he, hb⟩ => ?_
  subst he
  refine ⟨_, rfl, _, _, _, [], p0, [], hW', trodAll_cons_mk (shut_bool Try.underlying4 _) trodAll_mk0, ?_, rfl, hb.frame _, fun h => by cases h⟩
  have hk := trodAll_cons_mk (Below.trod laidOut (by kernel_rfl) (of_decide_eq_true (by kernel_rfl)) h0 hb hl0) (trodAll_mk0)
  simp only [List.append_nil] at hk
  exact hk

theorem fnTableNeeds_holds : Rows.FnTableNeedsSaid :=
  OpenClaim.holds_of_wide 4 Try.f4 rfl rfl rfl rfl rfl rfl rfl ⟨rfl, rfl, rfl, rfl, rfl⟩ rfl rfl rfl rfl rfl (by kernel_rfl) Try.func4 (by kernel_rfl)
    (of_decide_eq_true (by kernel_rfl)) (by unfold Func.isWrapper; first | (rw [if_pos (by decide +kernel)]; kernel_rfl) | (rw [if_neg (by decide +kernel)]; exact ⟨rfl, rfl⟩))
    (fun os started H enc _ => fnTableNeeds_l os started H enc)

end Go.Proofs.Ytkpdjnfgmgnjdaa
