/- How the arguments of the statements are read. No conditions. -/
import Derived.Test.YtojknkpjnchchaaGreatDoorGLib
import Derived.Test.YtojknkpjnchchaaGreatDoorRows
import Derived.ProofKit
namespace Go.Proofs.YtojknkpjnchchaaGreatDoor
open Go.ChangeShapes Go.WideShapes Go.ChangeAt Go.RowKit
set_option linter.all false
set_option maxRecDepth 100000

theorem own : ownKnob Tryz.prog.godebug = none := by kernel_rfl
theorem laidOut : laidOutB Tryz.prog = true := by kernel_rfl
theorem cellsInt : Tryz.prog.cellsOf 3 = 1 := by kernel_rfl
theorem cellsU8 : Tryz.prog.cellsOf 5 = 1 := by kernel_rfl

section
variable {H : Type} {enc0 : TypeId × Value → H} {w : World} {base b2 : Nat} {spare : Nat → Bool} {held : Bool} {v : Value} {d : DataW H} {p : List MemPlace} {r : Reach}

theorem openInt (hv : Value.okWide Tryz.prog w r b2 3 v) (h : DataW.Trod enc0 Tryz.prog w base spare held 3 v d p) : ∃ n : Int, v = .int .i64 n := by
  obtain ⟨n, rfl, -⟩ := open_int Tryz.underlying3 hv h
  exact ⟨n, rfl⟩

theorem openBytes (hv : Value.okWide Tryz.prog w r b2 47 v) (h : DataW.Trod enc0 Tryz.prog w base spare held 47 v d p) : ∃ bs : List Int, RdT (fun x : Int => [Value.int .u8 x]) 1 w v bs ∧ ∀ b ∈ bs, 0 ≤ b ∧ b ≤ 255 := by
  obtain ⟨fuel, hf⟩ := h
  obtain ⟨a, n, c, rfl⟩ := okWide_slice Tryz.underlying47 hv
  refine RdT.of_trod (α := Int) (enc := fun x : Int => [Value.int .u8 x]) (Good := fun b : Int => 0 ≤ b ∧ b ≤ 255) Tryz.underlying47 cellsU8 (by decide) (fun _ => rfl) ?_ (by simpa [Value.cells] using hf)
  intro n cs y hl hy
  obtain ⟨m, rfl, -, hw⟩ := DataW.trod_int Tryz.underlying5 hy
  exact ⟨m, rfl, by simpa [Lit.wf, IntKind.min, IntKind.max, IntKind.signed, IntKind.bits] using hw⟩
end
end Go.Proofs.YtojknkpjnchchaaGreatDoor
