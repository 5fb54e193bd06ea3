/- Contracts of the small functions on messages. No conditions but the readings of the arguments. -/
import Derived.Test.YtkpdjnfgmgnjdaaLib
namespace Go.Proofs.Ytkpdjnfgmgnjdaa
open Go.ChangeShapes Go.WideShapes Go.RowKit
set_option linter.all false
attribute [local go_sem ↓] Go.wp_at_zero Go.wp_at_succ

structure Mail where
  fr : Int
  tu : Int
  wd : Int
deriving DecidableEq
def Mail.enc (m : Mail) : List Value := [.int .i64 m.fr, .int .i64 m.tu, .int .i64 m.wd]
def Mail.val (m : Mail) : Value := .agg #[.int .i64 m.fr, .int .i64 m.tu, .int .i64 m.wd]
theorem Mail.enc_len (m : Mail) : m.enc.length = 3 := rfl
abbrev RdM := RdT Mail.enc 3
abbrev OwM := OwT Mail.enc 3 31

/-- n lies between a and b. -/
def btw (a n b : Int) : Bool := decide (a ≤ n ∧ n ≤ b)

theorem within_c (n a b : Int) (w : World) : Calls Try.prog 60 #[.int .i64 n, .int .i64 a, .int .i64 b] w fun e w' => e = .returned (.bool (btw a n b)) ∧ w = w' := by
  go_enter Try.func60, Try.ntmps60
  go_wp2
  all_goals go_ret
  all_goals exact ⟨ret_bool (by simp [btw]; try omega), rfl⟩

theorem l6In_c (n a b : Int) (w : World) : Calls Try.prog 59 #[.int .i64 n, .int .i64 a, .int .i64 b] w fun e w' => e = .returned (.bool (btw a n b)) ∧ w = w' := by
  go_enter Try.func59, Try.ntmps59
  go_wp2
  all_goals go_ret
  all_goals exact ⟨ret_bool (by simp [btw]; try omega), rfl⟩

theorem isEnv_c (n : Int) (w : World) : Calls Try.prog 57 #[.int .i64 n] w fun e w' => e = .returned (.bool (btw 0 n 2)) ∧ w = w' := by
  go_enter Try.func57, Try.ntmps57
  go_wp2_with (go_at_call 60; refine (within_c _ _ _ _).mono ?_; rintro e w' ⟨rfl, rfl⟩)
  go_ret
  exact ⟨rfl, rfl⟩

theorem isWord_c (n : Int) (w : World) : Calls Try.prog 58 #[.int .i64 n] w fun e w' => e = .returned (.bool (btw 0 n 9999)) ∧ w = w' := by
  go_enter Try.func58, Try.ntmps58
  go_wp2_with (go_at_call 60; refine (within_c _ _ _ _).mono ?_; rintro e w' ⟨rfl, rfl⟩)
  go_ret
  exact ⟨rfl, rfl⟩

/-- A message is good. -/
def Mail.ok (m : Mail) : Bool := btw 0 m.fr 2 && btw 0 m.tu 2 && btw 0 m.wd 9999

theorem mailOk_c (m : Mail) (w : World) : Calls Try.prog 50 #[m.val] w fun e w' => e = .returned (.bool m.ok) ∧ Below w.heap.size w w' := by
  obtain ⟨a, b, c⟩ := m
  unfold Mail.val Mail.ok
  dsimp only
  go_enter Try.func50, Try.ntmps50
  go_wp2_with (first | (go_at_call 57; refine (isEnv_c _ _).mono ?_; rintro e w' ⟨rfl, rfl⟩) | (go_at_call 58; refine (isWord_c _ _).mono ?_; rintro e w' ⟨rfl, rfl⟩))
  all_goals go_ret
  all_goals exact ⟨ret_bool (by simp [*]), by go_grown⟩

theorem l23Mail_c (m : Mail) (w : World) : Calls Try.prog 51 #[m.val] w fun e w' => e = .returned (.bool m.ok) ∧ Below w.heap.size w w' := by
  obtain ⟨a, b, c⟩ := m
  unfold Mail.val Mail.ok
  dsimp only
  go_enter Try.func51, Try.ntmps51
  go_wp2_with (go_at_call 59; refine (l6In_c _ _ _ _).mono ?_; rintro e w' ⟨rfl, rfl⟩)
  all_goals go_ret
  all_goals exact ⟨ret_bool (by simp [*]), by go_grown⟩

theorem eqMail_c (m n : Mail) (w : World) : Calls Try.prog 43 #[m.val, n.val] w fun e w' => e = .returned (.bool (decide (m = n))) ∧ Below w.heap.size w w' := by
  obtain ⟨a, b, c⟩ := m
  obtain ⟨a', b', c'⟩ := n
  unfold Mail.val
  dsimp only
  simp only [Mail.mk.injEq]
  go_enter Try.func43, Try.ntmps43
  go_wp2
  all_goals go_ret
  all_goals exact ⟨ret_bool (by simp_all), by go_grown⟩

theorem toMail_c (m : Mail) (w : World) : Calls Try.prog 37 #[m.val] w fun e w' => e = .returned m.val ∧ Below w.heap.size w w' := by
  obtain ⟨a, b, c⟩ := m
  unfold Mail.val
  dsimp only
  go_enter Try.func37, Try.ntmps37
  go_wp2
  go_returns
  exact ⟨rfl, by go_grown⟩

theorem szMailS_c (xs : List Mail) (v : Value) (left : Int) (w : World) (h : RdM w v xs) (hl : 0 ≤ left ∧ left ≤ 1048576) : Calls Try.prog 23 #[v, .int .i64 left] w fun e w' =>
    e = .returned (.int .i64 (szv left xs.length)) ∧ w = w' := by
  obtain ⟨a, c, rfl, h1, h2, -⟩ := h
  generalize xs.length = n at *
  unfold maxLen at h2
  go_enter Try.func23, Try.ntmps23
  go_wp2
  all_goals go_ret
  all_goals exact ⟨ret_int (by unfold szv; split <;> first | rfl | omega), rfl⟩
end Go.Proofs.Ytkpdjnfgmgnjdaa
