/- How arguments that are slices of slices of texts are read. No conditions. -/
import Derived.Test.YtojknkpjnchchaaDoorOpenStr
import Derived.Test.YtojknkpjnchchaaDoorKerA
namespace Go.Proofs.YtojknkpjnchchaaDoor
open Go.ChangeShapes Go.WideShapes Go.ChangeAt Go.ChangeMaps Go.RowKit
set_option linter.all false
set_option maxRecDepth 100000

theorem cellsSlS : Tryd.prog.cellsOf 38 = 1 := by kernel_rfl

theorem InR.makeS {w : World} : ∀ rows : List Sl, (∀ s ∈ rows, ∃ xs : List Txt, RdSF w (slv s) xs) → ∃ xss, InR encS 1 w rows xss ∧ ∀ xs ∈ xss, fitS xs := by
  intro rows
  induction rows with
  | nil => intro _; exact ⟨[], ⟨rfl, fun k s xs h => by simp at h⟩, by simp⟩
  | cons s t ih =>
    intro h
    obtain ⟨xs, hx, hf⟩ := h s (by simp)
    obtain ⟨xss, ⟨hl, hi⟩, hff⟩ := ih (fun s hs => h s (by simp [hs]))
    refine ⟨xs :: xss, ⟨by simp [hl], fun k s' ys h1 h2 => ?_⟩, ?_⟩
    · cases k with
      | zero => simp at h1 h2; subst h1; subst h2; exact hx
      | succ k => simp at h1 h2; exact hi k s' ys h1 h2
    · intro ys hy
      rcases List.mem_cons.1 hy with rfl | hy
      · exact hf
      · exact hff ys hy

section
variable {H : Type} {enc0 : TypeId × Value → H} {w : World} {base b2 : Nat} {spare : Nat → Bool} {held : Bool} {v : Value} {d : DataW H} {p : List MemPlace} {r : Reach}
theorem openSS (hv : Value.okWide Tryd.prog w r b2 22 v) (h : DataW.Trod enc0 Tryd.prog w base spare held 22 v d p) : ∃ xss, RdSS w v xss ∧ ∀ xs ∈ xss, fitS xs := by
  obtain ⟨fuel, hf⟩ := h
  obtain ⟨a, n, c, rfl⟩ := okWide_slice Tryd.underlying22 hv
  have helem : ∀ n cs y, cs.length = 1 → DataW.trod enc0 Tryd.prog w base spare held n 38 cs = some y → ∃ x : Sl, encL x = cs ∧ ∃ xs : List Txt, RdSF w (slv x) xs := by
    intro n cs y hl hy
    match cs, hl with
    | [c0], _ =>
      obtain ⟨xs, hx⟩ := textsCells hy
      obtain ⟨s, rfl⟩ := hx.1.sl
      exact ⟨s, rfl, xs, hx⟩
  obtain ⟨rows, hr, hg⟩ := RdT.of_trod (α := Sl) (enc := encL) (Good := fun s => ∃ xs : List Txt, RdSF w (slv s) xs) Tryd.underlying22 cellsSlS (by decide) encL_len helem (by simpa [Value.cells] using hf)
  obtain ⟨xss, hi, hff⟩ := InR.makeS rows hg
  exact ⟨xss, ⟨rows, hr, hi⟩, hff⟩
end
end Go.Proofs.YtojknkpjnchchaaDoor
