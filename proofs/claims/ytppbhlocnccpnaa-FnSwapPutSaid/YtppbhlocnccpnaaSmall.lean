/- Small functions and plain facts that many contracts use. No conditions. -/
import Derived.Test.YtppbhlocnccpnaaInts
import Derived.Test.YtppbhlocnccpnaaLibD
namespace Go.Proofs.Ytppbhlocnccpnaa
open Go.ChangeShapes Go.WideShapes Go.RowKit
set_option linter.all false
attribute [local go_sem ↓] Go.wp_at_zero Go.wp_at_succ

/-- n lies between a and b. -/
def btw (a n b : Int) : Bool := decide (a ≤ n ∧ n ≤ b)

theorem within_c (n a b : Int) (w : World) : Calls Try.prog 55 #[.int .i64 n, .int .i64 a, .int .i64 b] w fun e w' => e = .returned (.bool (btw a n b)) ∧ w = w' := by
  go_enter Try.func55, Try.ntmps55
  go_wp2
  all_goals go_ret
  all_goals exact ⟨ret_bool (by simp [btw]; try omega), rfl⟩

theorem l6In_c (n a b : Int) (w : World) : Calls Try.prog 42 #[.int .i64 n, .int .i64 a, .int .i64 b] w fun e w' => e = .returned (.bool (btw a n b)) ∧ w = w' := by
  go_enter Try.func42, Try.ntmps42
  go_wp2
  all_goals go_ret
  all_goals exact ⟨ret_bool (by simp [btw]; try omega), rfl⟩

/-- The first place at which p holds, or -1. -/
def idxOf {α : Type} (p : α → Bool) (xs : List α) : Int := if xs.any p then (xs.findIdx p : Int) else -1

theorem idxOf_at {α : Type} {p : α → Bool} {xs : List α} {k : Nat} {x : α} (hx : xs[k]? = some x) (h : (xs.take k).any p = false) (hp : p x = true) : idxOf p xs = k := by
  obtain ⟨hk, rfl⟩ := List.getElem?_eq_some_iff.1 hx
  unfold idxOf
  have : xs.any p = true := List.any_eq_true.2 ⟨_, List.getElem_mem hk, hp⟩
  rw [if_pos this]
  congr 1
  rw [List.findIdx_eq hk]
  refine ⟨hp, fun j hj => ?_⟩
  rw [List.any_eq_false] at h
  have := h xs[j] (by rw [List.mem_take_iff_getElem]; exact ⟨j, by omega, rfl⟩)
  simpa using this

theorem any_take_succ {α : Type} {p : α → Bool} {xs : List α} {k : Nat} {x : α} (hx : xs[k]? = some x) (h : (xs.take k).any p = false) (hp : p x = false) : (xs.take (k + 1)).any p = false := by
  rw [List.take_add_one, hx]; simp [List.any_append, h, hp]

theorem idxOf_none {α : Type} {p : α → Bool} {xs : List α} {k : Nat} (hk : xs.length ≤ k) (h : (xs.take k).any p = false) : idxOf p xs = -1 := by
  rw [List.take_of_length_le hk] at h
  simp [idxOf, h]

theorem idxOf_map {α : Type} (p : α → Bool) (xs : List α) : idxOf id (xs.map p) = idxOf p xs := by
  unfold idxOf
  rw [List.any_map, List.findIdx_map]
  rfl
theorem any_map_id {α : Type} (p : α → Bool) (xs : List α) : (xs.map p).any id = xs.any p := by rw [List.any_map]; rfl
theorem get_map {α : Type} {p : α → Bool} {xs : List α} {k : Nat} {m : α} {b : Bool} (h : xs[k]? = some m) (h2 : (xs.map p)[k]? = some b) : b = p m := by
  rw [List.getElem?_map, h] at h2
  exact (Option.some.inj h2).symm

theorem enters_of {P : Program} {f : FuncId} {fn : Func} {c : Code} (hf : P.funcs[f]? = some fn) (hname : (fn.name == "runtime.NumGoroutine") = false) (hb : fn.body = some c) : ∀ (args : Array Value) (w : World), (callFunc f args).run P w = .ok (.enter f args) w := by
  intro args w
  have h1 : fn.name ≠ "runtime.NumGoroutine" := by simpa using hname
  simp [callFunc, hf, h1, hb, mark]
end Go.Proofs.Ytppbhlocnccpnaa
