/- How arguments that are slices of integers, and slices of these, are read. No conditions. -/
import Derived.Test.YtklphfmjdgnpnaaDoorOpen
import Derived.Test.YtklphfmjdgnpnaaDoorSwapA
namespace Go.Proofs.YtklphfmjdgnpnaaDoor
open Go.ChangeShapes Go.WideShapes Go.ChangeAt Go.RowKit
set_option linter.all false
set_option maxRecDepth 100000

theorem cellsSlI : Tryd.prog.cellsOf 27 = 1 := by kernel_rfl

theorem InR.make {w : World} : ∀ rows : List Sl, (∀ s ∈ rows, ∃ xs : List Int, RdI w (slv s) xs) → ∃ xss, InR encI 1 w rows xss := by
  intro rows
  induction rows with
  | nil => intro _; exact ⟨[], rfl, fun k s xs h => by simp at h⟩
  | cons s t ih =>
    intro h
    obtain ⟨xs, hx⟩ := h s (by simp)
    obtain ⟨xss, hl, hi⟩ := ih (fun s hs => h s (by simp [hs]))
    refine ⟨xs :: xss, by simp [hl], fun k s' ys h1 h2 => ?_⟩
    cases k with
    | zero => simp at h1 h2; subst h1; subst h2; exact hx
    | succ k => simp at h1 h2; exact hi k s' ys h1 h2

section
variable {H : Type} {enc0 : TypeId × Value → H} {w : World} {base b2 : Nat} {spare : Nat → Bool} {held : Bool} {v : Value} {d : DataW H} {p : List MemPlace} {r : Reach}

theorem intsCells {n : Nat} {v : Value} {y : DataW H × List MemPlace} (hy : DataW.trod enc0 Tryd.prog w base spare held n 27 [v] = some y) : ∃ xs : List Int, RdI w v xs := by
  obtain ⟨xs, hx, -⟩ := RdT.of_trod (α := Int) (enc := encI) (Good := fun _ => True) Tryd.underlying27 cellsInt (by decide) encI_len (fun n cs y hl hy => by
    obtain ⟨m, rfl, -, -⟩ := DataW.trod_int Tryd.underlying3 hy
    exact ⟨m, rfl, trivial⟩) hy
  exact ⟨xs, hx⟩

theorem openInts (hv : Value.okWide Tryd.prog w r b2 27 v) (h : DataW.Trod enc0 Tryd.prog w base spare held 27 v d p) : ∃ xs, RdI w v xs := by
  obtain ⟨fuel, hf⟩ := h
  obtain ⟨a, n, c, rfl⟩ := okWide_slice Tryd.underlying27 hv
  exact intsCells (by simpa [Value.cells] using hf)

theorem openII (hv : Value.okWide Tryd.prog w r b2 23 v) (h : DataW.Trod enc0 Tryd.prog w base spare held 23 v d p) : ∃ xss, RdII w v xss := by
  obtain ⟨fuel, hf⟩ := h
  obtain ⟨a, n, c, rfl⟩ := okWide_slice Tryd.underlying23 hv
  have helem : ∀ n cs y, cs.length = 1 → DataW.trod enc0 Tryd.prog w base spare held n 27 cs = some y → ∃ x : Sl, encL x = cs ∧ ∃ xs : List Int, RdI w (slv x) xs := by
    intro n cs y hl hy
    match cs, hl with
    | [c0], _ =>
      obtain ⟨xs, hx⟩ := intsCells hy
      obtain ⟨s, rfl⟩ := hx.sl
      exact ⟨s, rfl, xs, hx⟩
  obtain ⟨rows, hr, hg⟩ := RdT.of_trod (α := Sl) (enc := encL) (Good := fun s => ∃ xs : List Int, RdI w (slv s) xs) Tryd.underlying23 cellsSlI (by decide) encL_len helem (by simpa [Value.cells] using hf)
  obtain ⟨xss, hi⟩ := InR.make rows hg
  exact ⟨xss, rows, hr, hi⟩
end
end Go.Proofs.YtklphfmjdgnpnaaDoor
