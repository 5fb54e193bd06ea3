/- How arguments that are slices of integers, and slices of these, are read. No conditions. -/
import Derived.Test.YtppbhlocnccpnaaOpen
import Derived.Test.YtppbhlocnccpnaaSwapA
namespace Go.Proofs.Ytppbhlocnccpnaa
open Go.ChangeShapes Go.WideShapes Go.ChangeAt Go.RowKit
set_option linter.all false

theorem cellsSlI : Try.prog.cellsOf 29 = 1 := by kernel_rfl

theorem InR.make {w : World} : ∀ rows : List Sl, (∀ s ∈ rows, ∃ xs : List Int, RdI w (slv s) xs) → ∃ xss, InR encI 1 w rows xss := by
  intro rows
  induction rows with
  | nil => intro _; exact ⟨[], rfl, fun k s xs h => by simp at h⟩
  | cons s t ih =>
    intro h
    obtain ⟨xs, hx⟩ := h s (by simp)
    obtain ⟨xss, hl, hi⟩ := ih (fun s hs => h s (by simp [hs]))
    refine ⟨xs :: xss, by simp [hl], fun k s' ys h1 h2 => ?_⟩
    cases k with
    | zero => simp at h1 h2; subst h1; subst h2; exact hx
    | succ k => simp at h1 h2; exact hi k s' ys h1 h2

section
variable {H : Type} {enc0 : TypeId × Value → H} {w : World} {base b2 : Nat} {spare : Nat → Bool} {held : Bool} {v : Value} {d : DataW H} {p : List MemPlace} {r : Reach}

theorem intsCells {n : Nat} {v : Value} {y : DataW H × List MemPlace} (hy : DataW.trod enc0 Try.prog w base spare held n 29 [v] = some y) : ∃ xs : List Int, RdI w v xs := by
  obtain ⟨xs, hx, -⟩ := RdT.of_trod (α := Int) (enc := encI) (Good := fun _ => True) Try.underlying29 cellsInt (by decide) encI_len (fun n cs y hl hy => by
    obtain ⟨m, rfl, -, -⟩ := DataW.trod_int Try.underlying3 hy
    exact ⟨m, rfl, trivial⟩) hy
  exact ⟨xs, hx⟩

theorem openInts (hv : Value.okWide Try.prog w r b2 29 v) (h : DataW.Trod enc0 Try.prog w base spare held 29 v d p) : ∃ xs, RdI w v xs := by
  obtain ⟨fuel, hf⟩ := h
  obtain ⟨a, n, c, rfl⟩ := okWide_slice Try.underlying29 hv
  exact intsCells (by simpa [Value.cells] using hf)

theorem openII (hv : Value.okWide Try.prog w r b2 22 v) (h : DataW.Trod enc0 Try.prog w base spare held 22 v d p) : ∃ xss, RdII w v xss := by
  obtain ⟨fuel, hf⟩ := h
  obtain ⟨a, n, c, rfl⟩ := okWide_slice Try.underlying22 hv
  have helem : ∀ n cs y, cs.length = 1 → DataW.trod enc0 Try.prog w base spare held n 29 cs = some y → ∃ x : Sl, encL x = cs ∧ ∃ xs : List Int, RdI w (slv x) xs := by
    intro n cs y hl hy
    match cs, hl with
    | [c0], _ =>
      obtain ⟨xs, hx⟩ := intsCells hy
      obtain ⟨s, rfl⟩ := hx.sl
      exact ⟨s, rfl, xs, hx⟩
  obtain ⟨rows, hr, hg⟩ := RdT.of_trod (α := Sl) (enc := encL) (Good := fun s => ∃ xs : List Int, RdI w (slv s) xs) Try.underlying22 cellsSlI (by decide) encL_len helem (by simpa [Value.cells] using hf)
  obtain ⟨xss, hi⟩ := InR.make rows hg
  exact ⟨xss, rows, hr, hi⟩
end
end Go.Proofs.Ytppbhlocnccpnaa
