/- Plain facts that many contracts use. No conditions. -/
import Derived.Test.YtojknkpjnchchaaDoorLib
namespace Go.Proofs.YtojknkpjnchchaaDoor
open Go.ChangeShapes Go.WideShapes Go.RowKit
set_option linter.all false
set_option maxRecDepth 100000

theorem take_eq_succ {α : Type} {xs ys : List α} {k : Nat} {x y : α} (hx : xs[k]? = some x) (hy : ys[k]? = some y) (h : xs.take k = ys.take k) (e : x = y) : xs.take (k + 1) = ys.take (k + 1) := by
  rw [List.take_add_one, List.take_add_one, h, hx, hy, e]

theorem ne_of_get {α : Type} {xs ys : List α} {k : Nat} {x y : α} (hx : xs[k]? = some x) (hy : ys[k]? = some y) (e : x ≠ y) : xs ≠ ys := by
  rintro rfl; rw [hx] at hy; exact e (Option.some.inj hy)

/-- The first k elements are marked. -/
def markedBy {α : Type} (ms xs : List α) (k : Nat) : List α := ms.take k ++ xs.drop k
theorem markedBy_zero {α : Type} (ms xs : List α) : markedBy ms xs 0 = xs := by simp [markedBy]
theorem markedBy_all {α : Type} (ms xs : List α) (h : ms.length = xs.length) : markedBy ms xs xs.length = ms := by
  unfold markedBy
  rw [List.drop_length, List.append_nil, List.take_of_length_le (by omega)]
theorem markedBy_len {α : Type} (ms xs : List α) (k : Nat) (h : ms.length = xs.length) : (markedBy ms xs k).length = xs.length := by simp [markedBy]; omega
theorem markedBy_step {α : Type} (ms xs : List α) (k : Nat) (x : α) (hl : ms.length = xs.length) (hx : ms[k]? = some x) : (markedBy ms xs k).set k x = markedBy ms xs (k + 1) := by
  have h : k < xs.length := by rw [← hl]; exact (List.getElem?_eq_some_iff.1 hx).1
  unfold markedBy
  rw [List.take_add_one, hx, List.set_append, if_neg (by simp; omega)]
  simp [hl, Nat.min_eq_left (Nat.le_of_lt h)]
  rw [List.drop_eq_getElem_cons h]
  rfl

/-- n lies between a and b. -/
def btw (a n b : Int) : Bool := decide (a ≤ n ∧ n ≤ b)

/-- The first place at which p holds, or -1. -/
def idxOf {α : Type} (p : α → Bool) (xs : List α) : Int := if xs.any p then (xs.findIdx p : Int) else -1

theorem idxOf_at {α : Type} {p : α → Bool} {xs : List α} {k : Nat} {x : α} (hx : xs[k]? = some x) (h : (xs.take k).any p = false) (hp : p x = true) : idxOf p xs = k := by
  obtain ⟨hk, rfl⟩ := List.getElem?_eq_some_iff.1 hx
  unfold idxOf
  have : xs.any p = true := List.any_eq_true.2 ⟨_, List.getElem_mem hk, hp⟩
  rw [if_pos this]
  congr 1
  rw [List.findIdx_eq hk]
  refine ⟨hp, fun j hj => ?_⟩
  rw [List.any_eq_false] at h
  have := h xs[j] (by rw [List.mem_take_iff_getElem]; exact ⟨j, by omega, rfl⟩)
  simpa using this

theorem any_take_succ {α : Type} {p : α → Bool} {xs : List α} {k : Nat} {x : α} (hx : xs[k]? = some x) (h : (xs.take k).any p = false) (hp : p x = false) : (xs.take (k + 1)).any p = false := by
  rw [List.take_add_one, hx]; simp [List.any_append, h, hp]

theorem idxOf_none {α : Type} {p : α → Bool} {xs : List α} {k : Nat} (hk : xs.length ≤ k) (h : (xs.take k).any p = false) : idxOf p xs = -1 := by
  rw [List.take_of_length_le hk] at h
  simp [idxOf, h]

theorem idxOf_map {α : Type} (p : α → Bool) (xs : List α) : idxOf id (xs.map p) = idxOf p xs := by
  unfold idxOf
  rw [List.any_map, List.findIdx_map]
  rfl
theorem any_map_id {α : Type} (p : α → Bool) (xs : List α) : (xs.map p).any id = xs.any p := by rw [List.any_map]; rfl
theorem get_map {α : Type} {p : α → Bool} {xs : List α} {k : Nat} {m : α} {b : Bool} (h : xs[k]? = some m) (h2 : (xs.map p)[k]? = some b) : b = p m := by
  rw [List.getElem?_map, h] at h2
  exact (Option.some.inj h2).symm

theorem enters_of {P : Program} {f : FuncId} {fn : Func} {c : Code} (hf : P.funcs[f]? = some fn) (hname : (fn.name == "runtime.NumGoroutine") = false) (hb : fn.body = some c) : ∀ (args : Array Value) (w : World), (callFunc f args).run P w = .ok (.enter f args) w := by
  intro args w
  have h1 : fn.name ≠ "runtime.NumGoroutine" := by simpa using hname
  simp [callFunc, hf, h1, hb, mark]

end Go.Proofs.YtojknkpjnchchaaDoor
