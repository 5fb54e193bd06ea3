/- The facts of a world that grew further. No conditions. -/
import Derived.Test.YtojknkpjnchchaaGreatDoorGLib
namespace Go.Proofs.YtojknkpjnchchaaGreatDoor
open Go.ChangeShapes Go.WideShapes Go.ChangeAt Go.RowKit
set_option linter.all false
set_option maxRecDepth 100000

/-- The facts of a world that grew further. -/
theorem Bun.addB {w0 w w' : World} {row : Option Nat} {rs qs : List Res} (h : Bun w0 row w rs) (h2 : Bun w none w' qs) (hq : ∀ q ∈ qs, ∀ k, q.foot k → q.own k) : Bun w0 row w' (qs ++ rs) := by
  have h3 := h.call h2.below
  have hs := h.grow.size
  have hlow : ∀ q ∈ qs, ∀ k, q.foot k → w.heap.size ≤ k := fun q hm k hk => by
    rcases (h2.all q hm).2 k (hq q hm k hk) with h5 | h5
    · exact h5
    · cases h5
  refine ⟨h3.grow, fun q hm => ?_, List.pairwise_append.2 ⟨h2.apart, h3.apart, fun a ha b hb k hk hk2 => ?_⟩⟩
  · rcases List.mem_append.1 hm with hm | hm
    · exact ⟨(h2.all q hm).1, fun k hk => .inl (Nat.le_trans hs (hlow q hm k (q.sub k hk)))⟩
    · exact h3.all q hm
  · have h5 := b.lt (h.all b hb).1 k hk2
    have h6 := hlow a ha k hk
    omega
end Go.Proofs.YtojknkpjnchchaaGreatDoor
