/- How arguments that are texts, and slices of texts, are read. No conditions. -/
import Derived.Test.YtojknkpjnchchaaDoorOpen
import Derived.Test.YtojknkpjnchchaaDoorStrA
import Derived.ChangeMaps5
namespace Go.Proofs.YtojknkpjnchchaaDoor
open Go.ChangeShapes Go.WideShapes Go.ChangeAt Go.ChangeMaps Go.RowKit
set_option linter.all false
set_option maxRecDepth 100000

theorem cellsStr : Tryd.prog.cellsOf 9 = 1 := by kernel_rfl
section
variable {H : Type} {enc0 : TypeId × Value → H} {w : World} {base b2 : Nat} {spare : Nat → Bool} {held : Bool} {v : Value} {d : DataW H} {p : List MemPlace} {r : Reach}

theorem openText (hv : Value.okWide Tryd.prog w r b2 9 v) (h : DataW.Trod enc0 Tryd.prog w base spare held 9 v d p) : ∃ x : Txt, v = tv x ∧ x.length ≤ 9223372036854775807 := by
  obtain ⟨s, rfl, -, -, hs⟩ := open_string Tryd.underlying9 hv h
  refine ⟨s.data.toList, tv_of s, ?_⟩
  have := Lib.size_eq s
  unfold maxLen at hs
  omega

theorem textsCells {n : Nat} {v : Value} {y : DataW H × List MemPlace} (hy : DataW.trod enc0 Tryd.prog w base spare held n 38 [v] = some y) : ∃ xs : List Txt, RdSF w v xs := by
  have helem : ∀ n cs y, cs.length = 1 → DataW.trod enc0 Tryd.prog w base spare held n 9 cs = some y → ∃ x : Txt, encS x = cs ∧ x.length ≤ 9223372036854775807 := by
    intro n cs y hl hy
    obtain ⟨s, rfl, -, hs⟩ := DataW.trod_string Tryd.underlying9 hy
    refine ⟨s.data.toList, ?_, ?_⟩
    · unfold encS; rw [← tv_of]
    · have := Lib.size_eq s
      unfold maxLen at hs
      omega
  obtain ⟨xs, hx, hg⟩ := RdT.of_trod (α := Txt) (enc := encS) (Good := fun x => x.length ≤ 9223372036854775807) Tryd.underlying38 cellsStr (by decide) encS_len helem hy
  exact ⟨xs, hx, hg⟩

theorem openTexts (hv : Value.okWide Tryd.prog w r b2 38 v) (h : DataW.Trod enc0 Tryd.prog w base spare held 38 v d p) : ∃ xs, RdSF w v xs := by
  obtain ⟨fuel, hf⟩ := h
  obtain ⟨a, n, c, rfl⟩ := okWide_slice Tryd.underlying38 hv
  exact textsCells (by simpa [Value.cells] using hf)
end
end Go.Proofs.YtojknkpjnchchaaDoor
