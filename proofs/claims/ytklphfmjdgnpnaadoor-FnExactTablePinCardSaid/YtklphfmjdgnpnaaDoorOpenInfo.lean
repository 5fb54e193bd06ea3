/- How arguments that are slices of what is known of frames are read. No conditions. -/
import Derived.Test.YtklphfmjdgnpnaaDoorOpenStr
import Derived.Test.YtklphfmjdgnpnaaDoorInfoD
namespace Go.Proofs.YtklphfmjdgnpnaaDoor
open Go.ChangeShapes Go.WideShapes Go.ChangeAt Go.ChangeMaps Go.RowKit
set_option linter.all false
set_option maxRecDepth 100000

theorem cellsLawsInfo : Tryd.prog.cellsOf 81 = 3 := by kernel_rfl

section
variable {H : Type} {enc0 : TypeId × Value → H} {w : World} {base b2 : Nat} {spare : Nat → Bool} {held : Bool} {v : Value} {d : DataW H} {p : List MemPlace} {r : Reach}

theorem infoCells {n : Nat} {cs : List Value} {y : DataW H × List MemPlace} (hl : cs.length = 3) (hy : DataW.trod enc0 Tryd.prog w base spare held n 81 cs = some y) : ∃ x : Info, x.enc = cs ∧ x.gd.length ≤ 9223372036854775807 := by
  obtain ⟨ys, n', _, _, _, hl2, hf⟩ := DataW.trod_struct Tryd.underlying81 hy
  match cs, hl with
  | [c0, c1, c2], _ =>
    have f0 : DataW.trod enc0 Tryd.prog w base spare held n' 3 [c0] = ys[0]? := by have := hf 0 _ rfl; simpa [cellsInt, cellsStr] using this
    have f1 : DataW.trod enc0 Tryd.prog w base spare held n' 9 [c1] = ys[1]? := by have := hf 1 _ rfl; simpa [cellsInt, cellsStr] using this
    have f2 : DataW.trod enc0 Tryd.prog w base spare held n' 3 [c2] = ys[2]? := by have := hf 2 _ rfl; simpa [cellsInt, cellsStr] using this
    have hl3 : ys.length = 3 := by rw [hl2]; rfl
    rw [List.getElem?_eq_getElem (by omega)] at f0 f1 f2
    obtain ⟨n0, h0, -⟩ := DataW.trod_int Tryd.underlying3 f0
    obtain ⟨s, h1, -, hs⟩ := DataW.trod_string Tryd.underlying9 f1
    obtain ⟨n2, h2, -⟩ := DataW.trod_int Tryd.underlying3 f2
    simp only [List.cons.injEq, and_true] at h0 h1 h2
    subst h0 h1 h2
    refine ⟨⟨n0, s.data.toList, n2⟩, ?_, ?_⟩
    · unfold Info.enc; rw [← tv_of]
    · have := Lib.size_eq s
      unfold maxLen at hs
      dsimp only
      omega

theorem openInfos (hv : Value.okWide Tryd.prog w r b2 55 v) (h : DataW.Trod enc0 Tryd.prog w base spare held 55 v d p) : ∃ xs, RdFF w v xs := by
  obtain ⟨fuel, hf⟩ := h
  obtain ⟨a, n, c, rfl⟩ := okWide_slice Tryd.underlying55 hv
  have helem : ∀ n cs y, cs.length = 3 → DataW.trod enc0 Tryd.prog w base spare held n 81 cs = some y → ∃ x : Info, x.enc = cs ∧ x.gd.length ≤ 9223372036854775807 := fun n cs y hl hy => infoCells hl hy
  obtain ⟨xs, hx, hg⟩ := RdT.of_trod (α := Info) (enc := Info.enc) (Good := fun x => x.gd.length ≤ 9223372036854775807) Tryd.underlying55 cellsLawsInfo (by decide) Info.enc_len helem (by simpa [Value.cells] using hf)
  exact ⟨xs, hx, hg⟩
end
end Go.Proofs.YtklphfmjdgnpnaaDoor
