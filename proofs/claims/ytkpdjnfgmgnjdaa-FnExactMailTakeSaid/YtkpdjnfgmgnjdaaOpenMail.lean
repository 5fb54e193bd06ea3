/- How arguments that are messages are read. No conditions. -/
import Derived.Test.YtkpdjnfgmgnjdaaMailA
import Derived.Test.YtkpdjnfgmgnjdaaOpen
namespace Go.Proofs.Ytkpdjnfgmgnjdaa
open Go.ChangeShapes Go.WideShapes Go.ChangeAt Go.RowKit
set_option linter.all false

theorem cellsLawsMail : Try.prog.cellsOf 51 = 3 := by kernel_rfl

section
variable {H : Type} {enc0 : TypeId × Value → H} {w : World} {base b2 : Nat} {spare : Nat → Bool} {held : Bool} {v : Value} {d : DataW H} {p : List MemPlace} {r : Reach}

theorem mailCells {n : Nat} {cs : List Value} {y : DataW H × List MemPlace} (hl : cs.length = 3) (hy : DataW.trod enc0 Try.prog w base spare held n 51 cs = some y) : ∃ x : Mail, x.enc = cs := by
  obtain ⟨ys, n', _, _, _, hl2, hf⟩ := DataW.trod_struct Try.underlying51 hy
  match cs, hl with
  | [c0, c1, c2], _ =>
    have f0 : DataW.trod enc0 Try.prog w base spare held n' 3 [c0] = ys[0]? := by have := hf 0 _ rfl; simpa [cellsInt] using this
    have f1 : DataW.trod enc0 Try.prog w base spare held n' 3 [c1] = ys[1]? := by have := hf 1 _ rfl; simpa [cellsInt] using this
    have f2 : DataW.trod enc0 Try.prog w base spare held n' 3 [c2] = ys[2]? := by have := hf 2 _ rfl; simpa [cellsInt] using this
    have hl3 : ys.length = 3 := by rw [hl2]; rfl
    rw [List.getElem?_eq_getElem (by omega)] at f0 f1 f2
    obtain ⟨n0, h0, -⟩ := DataW.trod_int Try.underlying3 f0
    obtain ⟨n1, h1, -⟩ := DataW.trod_int Try.underlying3 f1
    obtain ⟨n2, h2, -⟩ := DataW.trod_int Try.underlying3 f2
    simp only [List.cons.injEq, and_true] at h0 h1 h2
    subst h0 h1 h2
    exact ⟨⟨n0, n1, n2⟩, rfl⟩

theorem openMails (hv : Value.okWide Try.prog w r b2 33 v) (h : DataW.Trod enc0 Try.prog w base spare held 33 v d p) : ∃ xs, RdM w v xs := by
  obtain ⟨fuel, hf⟩ := h
  obtain ⟨a, n, c, rfl⟩ := okWide_slice Try.underlying33 hv
  have helem : ∀ n cs y, cs.length = 3 → DataW.trod enc0 Try.prog w base spare held n 51 cs = some y → ∃ x : Mail, x.enc = cs ∧ True := by
    intro n cs y hl hy
    obtain ⟨x, hx⟩ := mailCells hl hy
    exact ⟨x, hx, trivial⟩
  obtain ⟨xs, hx, -⟩ := RdT.of_trod (α := Mail) (enc := Mail.enc) (Good := fun _ => True) Try.underlying33 cellsLawsMail (by decide) Mail.enc_len helem (by simpa [Value.cells] using hf)
  exact ⟨xs, hx⟩

theorem openMail (hv : Value.okWide Try.prog w r b2 51 v) (h : DataW.Trod enc0 Try.prog w base spare held 51 v d p) : ∃ m : Mail, v = m.val := by
  obtain ⟨fuel, hf⟩ := h
  obtain ⟨cs, rfl, hsz⟩ := okWide_struct Try.underlying51 hv
  rw [cellsLawsMail] at hsz
  obtain ⟨x, hx⟩ := mailCells (by simpa [Value.cells] using hsz) hf
  refine ⟨x, ?_⟩
  obtain ⟨l⟩ := cs
  simp only [Value.cells] at hx
  unfold Mail.val Mail.enc at *
  rw [← hx]
end
end Go.Proofs.Ytkpdjnfgmgnjdaa
