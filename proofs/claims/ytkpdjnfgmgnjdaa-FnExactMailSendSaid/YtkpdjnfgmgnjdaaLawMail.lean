/- Common lemmas for the statements on messages. No conditions. -/
import Derived.Test.YtkpdjnfgmgnjdaaDrawMail
import Derived.Test.YtkpdjnfgmgnjdaaSameMail
import Derived.Test.YtkpdjnfgmgnjdaaMailG
import Derived.Test.YtkpdjnfgmgnjdaaMailF
import Derived.Test.YtkpdjnfgmgnjdaaLibC
import Derived.Test.YtkpdjnfgmgnjdaaOpen
namespace Go.Proofs.Ytkpdjnfgmgnjdaa
open Go.ChangeShapes Go.WideShapes Go.ChangeAt Go.RowKit
set_option linter.all false
attribute [local go_sem ↓] Go.wp_at_zero Go.wp_at_succ

theorem sendL_le (xs : List Mail) (m : Mail) : (sendL xs m).length ≤ xs.length + 1 := by
  unfold sendL; split
  · split <;> simp
  · simp

theorem mailsOk_snoc {xs : List Mail} {m : Mail} (h : mailsOk xs = true) (hm : m.ok = true) (hl : xs.length < 8) : mailsOk (xs ++ [m]) = true := by
  simp [mailsOk] at h ⊢
  exact ⟨by omega, h.2, hm⟩

/-- What holds where a message was sent. -/
theorem send_true {xs : List Mail} {m : Mail} (h : sendB xs m = true) : ∃ ws, mailWords (sendL xs m) m.fr m.tu = ws ++ [m.wd] ∧ sendL xs m = xs ++ [m] := by
  simp only [sendB, Bool.and_eq_true, decide_eq_true_eq] at h
  obtain ⟨⟨h1, h2⟩, h3⟩ := h
  have e : sendL xs m = xs ++ [m] := by unfold sendL; rw [h1, h2]; simp; omega
  refine ⟨wordsF xs m.fr m.tu, ?_, e⟩
  rw [e]
  unfold mailWords
  rw [if_pos (mailsOk_snoc h1 h2 h3)]
  simp [wordsF, List.filter_append]



theorem takeL_le (xs : List Mail) (env : Int) : (takeL xs env).length ≤ xs.length := by
  unfold takeL; split
  · split
    · exact List.length_eraseIdx_le _ _
    · exact Nat.le_refl _
  · simp
theorem takeB_true {xs : List Mail} {env : Int} (h : takeB xs env = true) : mailsOk xs = true ∧ xs.any (fun m => decide (m.tu = env)) = true := by
  simp only [takeB, Bool.and_eq_true] at h; exact h
theorem mailsOk_erase {xs : List Mail} (k : Nat) (h : mailsOk xs = true) : mailsOk (xs.take k ++ xs.drop (k + 1)) = true := by
  simp [mailsOk] at h ⊢
  exact ⟨by omega, fun x hx => h.2 x (List.mem_of_mem_take hx), fun x hx => h.2 x (List.mem_of_mem_drop hx)⟩

theorem take_split {xs : List Mail} {env : Int} (h : takeB xs env = true) : ∃ k m, mailsOk xs = true ∧ xs[k]? = some m ∧ m.tu = env ∧ (xs.take k).any (fun m => decide (m.tu = env)) = false ∧ takeM xs env = m ∧ takeL xs env = xs.take k ++ xs.drop (k + 1) := by
  obtain ⟨hv, ha⟩ := takeB_true h
  obtain ⟨k, m, -, hm, hp, hn⟩ := idx_some ha
  have he : m.tu = env := by simpa using hp
  obtain ⟨-, t2, t3⟩ := take_some hv hm hn he
  exact ⟨k, m, hv, hm, he, hn, t2, t3⟩

theorem split_at {α : Type} {xs : List α} {k : Nat} {x : α} (h : xs[k]? = some x) : xs = xs.take k ++ x :: xs.drop (k + 1) := by
  obtain ⟨hk, rfl⟩ := List.getElem?_eq_some_iff.1 h
  rw [← List.drop_eq_getElem_cons hk, List.take_append_drop]

/-- The words to an environment, before and behind the taking of a message. -/
theorem take_words {xs : List Mail} {env : Int} {m : Mail} (h : takeB xs env = true) (hm : m = takeM xs env) : ∃ ws, mailWords xs m.fr env = m.wd :: ws ∧ mailWords (takeL xs env) m.fr env = ws := by
  obtain ⟨k, p, hv, hp, he, hn, t2, t3⟩ := take_split h
  have hpm : m = p := by rw [hm, t2]
  subst hpm
  have hz : ∀ f, wordsF (xs.take k) f env = [] := by
    intro f
    unfold wordsF
    rw [List.map_eq_nil_iff, List.filter_eq_nil_iff]
    intro x hx
    rw [List.any_eq_false] at hn
    have := hn x hx
    simp at this ⊢
    exact fun _ => this
  have hsplit : ∀ (a b : List Mail) (f t : Int), wordsF (a ++ b) f t = wordsF a f t ++ wordsF b f t := by intro a b f t; simp [wordsF]
  refine ⟨wordsF (xs.drop (k + 1)) m.fr env, ?_, ?_⟩
  · unfold mailWords
    rw [if_pos hv, split_at hp, hsplit, hz, List.nil_append]
    have : (xs.take k ++ m :: xs.drop (k + 1)).drop (k + 1) = xs.drop (k + 1) := by rw [← split_at hp]
    rw [← split_at hp]
    simp [wordsF, List.filter_cons, he]
  · unfold mailWords
    rw [t3, if_pos (mailsOk_erase k hv), hsplit, hz, List.nil_append]

theorem take_other {xs : List Mail} {env f t : Int} (h : takeB xs env = true) (ht : t ≠ env) : mailWords (takeL xs env) f t = mailWords xs f t := by
  obtain ⟨k, p, hv, hp, he, hn, t2, t3⟩ := take_split h
  have hsplit : ∀ (a b : List Mail) (f t : Int), wordsF (a ++ b) f t = wordsF a f t ++ wordsF b f t := by intro a b f t; simp [wordsF]
  unfold mailWords
  rw [t3, if_pos (mailsOk_erase k hv), if_pos hv, hsplit]
  have e := split_at hp
  have : wordsF xs f t = wordsF (xs.take k ++ p :: xs.drop (k + 1)) f t := by rw [← e]
  rw [this, hsplit]
  congr 1
  have hpt : p.tu ≠ t := by rw [he]; exact fun h => ht h.symm
  simp [wordsF, List.filter_cons, hpt]
/-- How many words to an environment come from the first j environments. -/
def cntW (xs : List Mail) (env : Int) : Nat → Nat
  | 0 => 0
  | j + 1 => cntW xs env j + (mailWords xs (j : Int) env).length
theorem cntW_le (xs : List Mail) (env : Int) : ∀ j, cntW xs env j ≤ j * xs.length
  | 0 => by simp [cntW]
  | j + 1 => by
    have h1 := cntW_le xs env j
    have h2 := mailWords_le xs (j : Int) env
    simp only [cntW, Nat.succ_mul]; omega
theorem words_ne {xs : List Mail} {f t : Int} (hv : mailsOk xs = true) {m : Mail} (hm : m ∈ xs) (hf : m.fr = f) (ht : m.tu = t) : 0 < (mailWords xs f t).length := by
  unfold mailWords
  rw [if_pos hv]
  unfold wordsF
  rw [List.length_map, List.length_pos_iff]
  intro h
  rw [List.filter_eq_nil_iff] at h
  exact h m hm (by simp [hf, ht])
theorem words_none {xs : List Mail} {f t : Int} (h : xs.any (fun m => decide (m.tu = t)) = false) : mailWords xs f t = [] := by
  unfold mailWords
  split
  · unfold wordsF
    rw [List.map_eq_nil_iff, List.filter_eq_nil_iff]
    intro m hm
    rw [List.any_eq_false] at h
    have := h m hm
    simp at this ⊢
    exact fun _ => this
  · rfl
theorem cntW_zero {xs : List Mail} {env : Int} (hv : mailsOk xs = true) (h : takeB xs env = false) : cntW xs env 3 = 0 := by
  simp only [takeB, hv, Bool.true_and] at h
  simp [cntW, words_none h]
theorem cntW_pos {xs : List Mail} {env : Int} (hv : mailsOk xs = true) : 0 < cntW xs env 3 ↔ takeB xs env = true := by
  constructor
  · intro h
    cases hb : takeB xs env
    · rw [cntW_zero hv hb] at h; cases h
    · rfl
  · intro h
    obtain ⟨-, ha⟩ := takeB_true h
    obtain ⟨m, hm, ht⟩ := List.any_eq_true.1 ha
    have ht : m.tu = env := by simpa using ht
    have hok : m.ok = true := by
      simp [mailsOk] at hv
      exact hv.2 m hm
    have hr : 0 ≤ m.fr ∧ m.fr ≤ 2 := by
      simp [Mail.ok, btw] at hok; omega
    have hc : m.fr = 0 ∨ m.fr = 1 ∨ m.fr = 2 := by omega
    rcases hc with h0 | h0 | h0
    all_goals
      have := words_ne hv hm h0 ht
      simp [cntW]
      omega
theorem takeL_none {xs : List Mail} {env : Int} (hv : mailsOk xs = true) (h : takeB xs env = false) : takeL xs env = xs := by
  unfold takeL; rw [hv, h]; rfl
theorem wordsF_get {xs : List Mail} {k : Nat} {p : Mail} {f t : Int} (hp : xs[k]? = some p) (hf : p.fr = f ∧ p.tu = t) : (wordsF xs f t)[(wordsF (xs.take k) f t).length]? = some p.wd := by
  have hsplit : ∀ (a b : List Mail) (f t : Int), wordsF (a ++ b) f t = wordsF a f t ++ wordsF b f t := by intro a b f t; simp [wordsF]
  have e := split_at hp
  have : wordsF xs f t = wordsF (xs.take k ++ p :: xs.drop (k + 1)) f t := by rw [← e]
  rw [this, hsplit, List.getElem?_append_right (Nat.le_refl _), Nat.sub_self]
  simp [wordsF, List.filter_cons, hf.1, hf.2]
end Go.Proofs.Ytkpdjnfgmgnjdaa
