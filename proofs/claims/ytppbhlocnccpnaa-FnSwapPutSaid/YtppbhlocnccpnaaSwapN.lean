/- What storing words in a swap does. No conditions. -/
import Derived.Test.YtppbhlocnccpnaaSwapJ
namespace Go.Proofs.Ytppbhlocnccpnaa
open Go.ChangeShapes Go.WideShapes Go.ChangeAt Go.RowKit
set_option linter.all false
attribute [local go_sem ↓] Go.wp_at_zero Go.wp_at_succ

theorem put_at {xss : List (List Int)} {ys : List Int} (h : putB xss ys = true) : ∃ (k : Nat) (x : List Int), putI xss ys = (k : Int) ∧ putL xss ys = xss.set k ys ∧ xss[k]? = some x ∧ x.length = 0 ∧ k < xss.length ∧ xss.length = 16 ∧ ys.length = 4 ∧ swapOk xss = true ∧ wordsOk ys = true ∧ (xss.take k).any isFree = false := by
  obtain ⟨hv, hw, hf⟩ := put_len h
  obtain ⟨k, x, hk, hx, hp, hn⟩ := idx_found hf
  refine ⟨k, x, ?_, ?_, hx, by simpa [isFree] using hp, (List.getElem?_eq_some_iff.1 hx).1, swapOk_len hv, wordsOk_len hw, hv, hw, hn⟩
  · simp [putI, h, freeI, hk]
  · simp [putL, h, putAt, hf, freeI, hk]
theorem put_valid {xss : List (List Int)} {ys : List Int} (h : putB xss ys = true) : swapOk (putL xss ys) = true := by
  obtain ⟨k, x, h1, h2, h3, h4, h5, h6, h7, h8, h9, -⟩ := put_at h
  rw [h2]
  simp only [swapOk, Bool.and_eq_true, decide_eq_true_eq, Bool.not_eq_true', List.any_eq_false, List.length_set] at h8 ⊢
  refine ⟨h8.1, fun xs hx => ?_⟩
  rcases List.mem_or_eq_of_mem_set hx with hx | rfl
  · exact h8.2 xs hx
  · simp [badRow, h9]
theorem put_kept {xss : List (List Int)} {ys : List Int} (h : putB xss ys = true) : keptB (putL xss ys) (putI xss ys) = true ∧ getL (putL xss ys) (putI xss ys) = ys ∧ dropL (putL xss ys) (putI xss ys) = xss := by
  have hv := put_valid h
  obtain ⟨k, x, h1, h2, h3, h4, h5, h6, h7, h8, h9, -⟩ := put_at h
  have hr : rowAt (putL xss ys) (putI xss ys) = ys := by rw [h1, h2]; simp [rowAt, h5]
  have hk : keptB (putL xss ys) (putI xss ys) = true := by
    unfold keptB
    rw [hr, hv, h1]
    simp [btw, h7]; omega
  refine ⟨hk, by simp [getL, hk, hr], ?_⟩
  have : x = [] := List.eq_nil_of_length_eq_zero h4
  subst this
  simp only [dropL, hk, if_true]
  rw [h1, h2]
  apply List.ext_getElem?
  intro i
  by_cases hi : k = i
  · subst hi; rw [h3]; simp [h5]
  · simp [hi]

end Go.Proofs.Ytppbhlocnccpnaa
