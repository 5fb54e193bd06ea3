/- FnExactMailsValid returns true for every argument. No conditions. -/
import Derived.Test.YtkpdjnfgmgnjdaaMailC
import Derived.Test.YtkpdjnfgmgnjdaaRows
import Derived.ProofKit
namespace Go.Proofs.Ytkpdjnfgmgnjdaa
open Go.ChangeShapes Go.WideShapes Go.ChangeAt Go.RowKit
set_option linter.all false
attribute [local go_sem ↓] Go.wp_at_zero Go.wp_at_succ

set_option maxHeartbeats 1000000 in
theorem exactMailsValid_w (xs : List Mail) (v : Value) (w : World) (hx : RdM w v xs) :
    Calls Try.prog 6 #[v] w fun e w' => e = .returned (.bool true) ∧ Below w.heap.size w w' := by
  have HX := Lib.hid hx
  clear hx
  by_cases hl : xs.length ≤ 1048576
  · have hs : (if (1048576 : Int) - xs.length < 0 then -1 else (1048576 : Int) - xs.length) = 1048576 - xs.length := by rw [if_neg (by omega)]
    have HS := Lib.hid hs
    clear hs
    go_enter Try.func6, Try.ntmps6
    go_wp2_with fail
    refine (szMailS_c xs v _ _ HX.out (by omega)).mono ?_
    rintro e w' ⟨rfl, rfl⟩
    rw [HS.out]
    go_wp2_with fail
    refine (toMailS_c xs v _ HX.out hl).mono ?_
    rintro e w1 ⟨u1, rfl, ho1, hb1⟩
    go_wp2_with fail
    refine (specMailsValid_c xs u1 _ (ho1.rd Mail.enc_len)).mono ?_
    rintro e w2 ⟨rfl, hb2⟩
    replace hb2 := bnext hb1 hb2
    go_wp2_with fail
    refine (toMailS_c xs v _ (HX.out.below hb2) hl).mono ?_
    rintro e w3 ⟨u3, rfl, ho3, hb3⟩
    replace hb3 := bnext hb2 hb3
    go_wp2_with fail
    refine (implMailsValid_c xs u3 _ (ho3.rd Mail.enc_len)).mono ?_
    rintro e w4 ⟨rfl, hb4⟩
    have ho4 := ho3.below hb4
    replace hb4 := bnext hb3 hb4
    go_wp2_with fail
    refine (toMailS_c xs v _ (HX.out.below hb4) hl).mono ?_
    rintro e w5 ⟨u5, rfl, ho5, hb5⟩
    have ho6 := ho4.below hb5
    replace hb5 := bnext hb4 hb5
    go_wp2_with fail
    refine (eqMailS_c xs xs u3 u5 _ (ho6.rd Mail.enc_len) (ho5.rd Mail.enc_len)).mono ?_
    rintro e w6 ⟨rfl, hb6⟩
    replace hb6 := bnext hb5 hb6
    rw [decide_eq_true (rfl : xs = xs)]
    go_wp2
    go_ret
    exact ⟨rfl, hb6⟩
  · have hs : (if (1048576 : Int) - xs.length < 0 then -1 else (1048576 : Int) - xs.length) = -1 := by rw [if_pos (by omega)]
    have HS := Lib.hid hs
    clear hs
    go_enter Try.func6, Try.ntmps6
    go_wp2_with fail
    refine (szMailS_c xs v _ _ HX.out (by omega)).mono ?_
    rintro e w' ⟨rfl, rfl⟩
    rw [HS.out]
    go_wp2
    go_ret
    exact ⟨rfl, Below.refl _ _⟩

theorem own : ownKnob Try.prog.godebug = none := by kernel_rfl
theorem laidOut : laidOutB Try.prog = true := by kernel_rfl
theorem cellsInt : Try.prog.cellsOf 3 = 1 := by kernel_rfl
theorem cellsLawsMail : Try.prog.cellsOf 51 = 3 := by kernel_rfl

/-- An argument that is a slice of messages. -/
theorem openMails {H : Type} {enc0 : TypeId × Value → H} {w : World} {base : Nat} {spare : Nat → Bool} {held : Bool} {v : Value} {d : DataW H} {p : List MemPlace}
    (hv : ∃ a n c, v = .slice a n c) (h : DataW.Trod enc0 Try.prog w base spare held 33 v d p) : ∃ xs, RdM w v xs := by
  obtain ⟨fuel, hf⟩ := h
  obtain ⟨a, n, c, rfl⟩ := hv
  have helem : ∀ n cs y, cs.length = 3 → DataW.trod enc0 Try.prog w base spare held n 51 cs = some y → ∃ x : Mail, x.enc = cs ∧ True := by
    intro n cs y hl hy
    obtain ⟨ys, n', _, _, _, hl2, hf⟩ := DataW.trod_struct Try.underlying51 hy
    match cs, hl with
    | [c0, c1, c2], _ =>
      have f0 : DataW.trod enc0 Try.prog w base spare held n' 3 [c0] = ys[0]? := by have := hf 0 _ rfl; simpa [cellsInt] using this
      have f1 : DataW.trod enc0 Try.prog w base spare held n' 3 [c1] = ys[1]? := by have := hf 1 _ rfl; simpa [cellsInt] using this
      have f2 : DataW.trod enc0 Try.prog w base spare held n' 3 [c2] = ys[2]? := by have := hf 2 _ rfl; simpa [cellsInt] using this
      have hl3 : ys.length = 3 := by rw [hl2]; rfl
      rw [List.getElem?_eq_getElem (by omega)] at f0 f1 f2
      obtain ⟨n0, h0, -⟩ := DataW.trod_int Try.underlying3 f0
      obtain ⟨n1, h1, -⟩ := DataW.trod_int Try.underlying3 f1
      obtain ⟨n2, h2, -⟩ := DataW.trod_int Try.underlying3 f2
      simp only [List.cons.injEq, and_true] at h0 h1 h2
      subst h0 h1 h2
      exact ⟨⟨n0, n1, n2⟩, rfl, trivial⟩
  obtain ⟨xs, hx, -⟩ := RdT.of_trod (α := Mail) (enc := Mail.enc) (Good := fun _ => True) Try.underlying33 cellsLawsMail (by decide) Mail.enc_len helem (by simpa [Value.cells] using hf)
  exact ⟨xs, hx⟩

set_option maxRecDepth 100000 in
theorem exactMailsValid_l (os : Os) (started : os.Started) (H : Type) (enc : TypeId × Value → H) :
    ReturnsInHanded {} Try.checked os 6 .any (Rows.fnExactMailsValidSpec.pre6 enc Try.prog Try.f6 Rows.fnExactMailsValidRow.domain false) (Rows.fnExactMailsValidSpec.post enc Try.prog Try.f6 false true false false) := by
  refine returnsInHanded_of_change (C := Try.checked) own started (by kernel_rfl) Try.func6
    (ChangeSpec.witness6 (enc := enc) (C := Try.checked) false ⟨#[], #[.slice none 0 0], []⟩ 8 (by kernel_rfl) (by kernel_rfl) (by kernel_rfl) (by kernel_rfl)) ?_
  intro W base args ds gs before hval0 hW _ _
  have hval : ∀ (j : Nat) t v, Try.f6.params[j]? = some t → args[j]? = some v → Value.okWide Try.prog W .any base t v := hval0
  have hW' := hW
  obtain ⟨p, q, hA0, hV, rfl, _, _⟩ := hW
  have hA : DataW.TrodAll enc Try.prog W 0 (fun _ => true) true Try.f6.params.toList args.toList ds p := hA0
  rw [Try.params6] at hA hval
  obtain ⟨v0, d0, rfl, rfl, h0⟩ := trodAll_one hA
  obtain ⟨rfl, rfl⟩ := trodVars_none hV
  obtain ⟨a0, len, cap, rfl⟩ := okWide_slice Try.underlying33 (hval 0 33 v0 rfl rfl)
  clear hA0 hval0
  simp only [List.append_nil] at hW'
  have hlt : ∀ x ∈ p, x.block < W.heap.size := fun x hx => by simpa using hW'.lt x hx
  have hargs : ∀ (W' : World), Below W.heap.size W W' → DataW.Trod enc Try.prog W' 0 (fun b => decide (b < W.heap.size)) true 33 (.slice a0 len cap) d0 p :=
    fun W' hn => Below.trod laidOut (by kernel_rfl) (of_decide_eq_true (by kernel_rfl)) h0 hn hlt
  obtain ⟨xs, hx⟩ := openMails ⟨_, _, _, rfl⟩ h0
  refine (exactMailsValid_w xs _ W hx).mono fun e W' ⟨he, hb⟩ => ?_
  subst he
  refine ⟨_, rfl, _, _, _, [], p, [], hW', ?_, ?_, rfl, hb.frame _, fun h => by cases h⟩
  · exact trodAll_mk1 (shut_bool Try.underlying4 _)
  · exact trodAll_mk1 (hargs _ hb)

theorem exactMailsValid_holds : Rows.FnExactMailsValidSaid :=
  OpenClaim.holds_of_wide 6 Try.f6 rfl rfl rfl rfl rfl rfl rfl ⟨rfl, rfl, rfl, rfl, rfl⟩ rfl rfl rfl rfl rfl (by kernel_rfl) Try.func6 (by kernel_rfl)
    (of_decide_eq_true (by kernel_rfl)) (by unfold Func.isWrapper; first | (rw [if_pos (by decide +kernel)]; kernel_rfl) | (rw [if_neg (by decide +kernel)]; exact ⟨rfl, rfl⟩))
    (fun os started H enc _ => exactMailsValid_l os started H enc)
end Go.Proofs.Ytkpdjnfgmgnjdaa
