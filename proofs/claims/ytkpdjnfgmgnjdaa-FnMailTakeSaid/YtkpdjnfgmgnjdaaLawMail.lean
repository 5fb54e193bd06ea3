/- Common lemmas for the statements on messages. No conditions. -/
import Derived.Test.YtkpdjnfgmgnjdaaDrawMail
import Derived.Test.YtkpdjnfgmgnjdaaSameMail
import Derived.Test.YtkpdjnfgmgnjdaaMailG
import Derived.Test.YtkpdjnfgmgnjdaaMailF
import Derived.Test.YtkpdjnfgmgnjdaaLibC
import Derived.Test.YtkpdjnfgmgnjdaaOpen
namespace Go.Proofs.Ytkpdjnfgmgnjdaa
open Go.ChangeShapes Go.WideShapes Go.ChangeAt Go.RowKit
set_option linter.all false
attribute [local go_sem ↓] Go.wp_at_zero Go.wp_at_succ

theorem sendL_le (xs : List Mail) (m : Mail) : (sendL xs m).length ≤ xs.length + 1 := by
  unfold sendL; split
  · split <;> simp
  · simp

theorem mailsOk_snoc {xs : List Mail} {m : Mail} (h : mailsOk xs = true) (hm : m.ok = true) (hl : xs.length < 8) : mailsOk (xs ++ [m]) = true := by
  simp [mailsOk] at h ⊢
  exact ⟨by omega, h.2, hm⟩

/-- What holds where a message was sent. -/
theorem send_true {xs : List Mail} {m : Mail} (h : sendB xs m = true) : ∃ ws, mailWords (sendL xs m) m.fr m.tu = ws ++ [m.wd] ∧ sendL xs m = xs ++ [m] := by
  simp only [sendB, Bool.and_eq_true, decide_eq_true_eq] at h
  obtain ⟨⟨h1, h2⟩, h3⟩ := h
  have e : sendL xs m = xs ++ [m] := by unfold sendL; rw [h1, h2]; simp; omega
  refine ⟨wordsF xs m.fr m.tu, ?_, e⟩
  rw [e]
  unfold mailWords
  rw [if_pos (mailsOk_snoc h1 h2 h3)]
  simp [wordsF, List.filter_append]



theorem takeL_le (xs : List Mail) (env : Int) : (takeL xs env).length ≤ xs.length := by
  unfold takeL; split
  · split
    · exact List.length_eraseIdx_le _ _
    · exact Nat.le_refl _
  · simp
theorem takeB_true {xs : List Mail} {env : Int} (h : takeB xs env = true) : mailsOk xs = true ∧ xs.any (fun m => decide (m.tu = env)) = true := by
  simp only [takeB, Bool.and_eq_true] at h; exact h
end Go.Proofs.Ytkpdjnfgmgnjdaa
