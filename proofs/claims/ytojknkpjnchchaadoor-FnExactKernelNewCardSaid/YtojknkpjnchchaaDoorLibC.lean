/- What a call may change: new blocks, and blocks between two numbers. Owned rows between two numbers. No conditions. -/
import Derived.Test.YtojknkpjnchchaaDoorLib
namespace Go.Proofs.YtojknkpjnchchaaDoor
open Go.ChangeShapes Go.WideShapes Go.RowKit
set_option linter.all false
set_option maxRecDepth 100000

/-- w' is w with new blocks, and with changes in the blocks from lo to hi alone. -/
structure Chg (lo hi : Nat) (w w' : World) : Prop where
  os : w'.os = w.os
  tape : w'.tape = w.tape
  output : w'.output = w.output
  size : w.heap.size ≤ w'.heap.size
  block : ∀ k, k < w.heap.size → (k < lo ∨ hi ≤ k) → w'.heap[k]? = w.heap[k]?

theorem Chg.of_below {w w' : World} (h : Below w.heap.size w w') : Chg 0 0 w w' := ⟨h.os, h.tape, h.output, h.size, fun k hk _ => h.block k hk⟩
theorem Chg.below {lo hi : Nat} {w0 w w' : World} (h : Below w0.heap.size w0 w) (c : Chg lo hi w w') (hl : w0.heap.size ≤ lo) : Below w0.heap.size w0 w' :=
  ⟨c.os.trans h.os, c.tape.trans h.tape, c.output.trans h.output, Nat.le_trans h.size c.size, fun k hk => (c.block k (Nat.lt_of_lt_of_le hk h.size) (.inl (Nat.lt_of_lt_of_le hk hl))).trans (h.block k hk)⟩
theorem Chg.refl (lo hi : Nat) (w : World) : Chg lo hi w w := ⟨rfl, rfl, rfl, Nat.le_refl _, fun _ _ _ => rfl⟩
theorem Chg.trans {lo hi : Nat} {a b c : World} (h : Chg lo hi a b) (k : Chg lo hi b c) : Chg lo hi a c :=
  ⟨k.os.trans h.os, k.tape.trans h.tape, k.output.trans h.output, Nat.le_trans h.size k.size, fun i hi hne => (k.block i (Nat.lt_of_lt_of_le hi h.size) hne).trans (h.block i hi hne)⟩
theorem Chg.mono {lo hi lo' hi' : Nat} {a b : World} (h : Chg lo hi a b) (h1 : lo' ≤ lo) (h2 : hi ≤ hi') : Chg lo' hi' a b :=
  ⟨h.os, h.tape, h.output, h.size, fun i hi hne => h.block i hi (by omega)⟩
theorem Chg.of_grown {lo hi g : Nat} {w w' : World} (h : w.grownBy w' (some g)) (h1 : lo ≤ g) (h2 : g < hi) : Chg lo hi w w' :=
  ⟨h.os, h.tape, h.output, h.size, fun k hk hne => h.block k hk (by simp; omega)⟩
theorem Chg.of_mark {lo hi : Nat} {w w' : World} {v : Value} (hin : ∀ k, v.ownBlock = some k → lo ≤ k ∧ k < hi) (h1 : ∀ g, v.ownBlock = some g → w.grownBy w' (some g)) (h2 : v.ownBlock = none → w = w') : Chg lo hi w w' := by
  cases hv : v.ownBlock with
  | none => rw [h2 hv]; exact Chg.refl _ _ _
  | some g => exact Chg.of_grown (h1 g hv) (hin g hv).1 (hin g hv).2

theorem Chg.kept {lo hi g : Nat} {w w' : World} {o : Obj} (c : Chg lo hi w w') (h : w.heap[g]? = some o) (hne : g < lo ∨ hi ≤ g) : w'.heap[g]? = some o :=
  (c.block g (Array.getElem?_eq_some_iff.1 h).1 hne).trans h

/-- An owned row in a block from lo to hi. -/
def OwF {α : Type} (enc : α → List Value) (K : Nat) (e : TypeId) (lo hi : Nat) (w : World) (v : Value) (xs : List α) : Prop :=
  OwT enc K e lo w v xs ∧ ∀ k, v.ownBlock = some k → lo ≤ k ∧ k < hi

theorem OwF.of {α : Type} {enc : α → List Value} {K : Nat} {e base lo : Nat} {w : World} {v : Value} {xs : List α} (h : OwT enc K e base w v xs) (hl : lo ≤ base) : OwF enc K e lo w.heap.size w v xs :=
  ⟨h.mono hl, fun k hk => ⟨Nat.le_trans hl (World.ownsRow.lt h k hk).1, (World.ownsRow.lt h k hk).2⟩⟩
theorem OwF.keep {α : Type} {enc : α → List Value} {K e lo hi lo' hi' : Nat} {w w' : World} {v : Value} {xs : List α} (h : OwF enc K e lo hi w v xs) (c : Chg lo' hi' w w') (d : hi ≤ lo' ∨ hi' ≤ lo) : OwF enc K e lo hi w' v xs := by
  obtain ⟨⟨h1, h2⟩, h3⟩ := h
  refine ⟨⟨h1, ?_⟩, h3⟩
  rcases h2 with h2 | ⟨g, cap, cur, hv, hg, hh, r⟩
  · exact .inl h2
  · have := h3 g (by rw [hv]; rfl)
    exact .inr ⟨g, cap, cur, hv, hg, c.kept hh (by omega), r⟩
theorem OwF.rd {α : Type} {enc : α → List Value} {K : Nat} (hK : ∀ x, (enc x).length = K) {e lo hi : Nat} {w : World} {v : Value} {xs : List α} (h : OwF enc K e lo hi w v xs) : RdT enc K w v xs := h.1.rd hK
end Go.Proofs.YtojknkpjnchchaaDoor
