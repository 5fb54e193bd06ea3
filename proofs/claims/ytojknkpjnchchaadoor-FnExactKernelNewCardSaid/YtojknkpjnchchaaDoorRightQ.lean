/- Plain facts on adding to rights, and on taking from them. No conditions. -/
import Derived.Test.YtojknkpjnchchaaDoorRightP
namespace Go.Proofs.YtojknkpjnchchaaDoor
set_option linter.all false
set_option maxRecDepth 100000

/-- Where a text belongs. -/
def place (xs : List Txt) (s : Txt) : Nat := (xs.takeWhile (ltT · s)).length
theorem place_cons (a : Txt) (r : List Txt) (s : Txt) : place (a :: r) s = if ltT a s then place r s + 1 else 0 := by
  unfold place
  rw [List.takeWhile_cons]
  split <;> simp
theorem place_le (xs : List Txt) (s : Txt) : place xs s ≤ xs.length := by
  induction xs with
  | nil => simp [place]
  | cons a r ih => rw [place_cons]; split <;> simp <;> omega
theorem place_lt {s : Txt} : ∀ {xs : List Txt} {t : Nat} {z : Txt}, t < place xs s → xs[t]? = some z → ltT z s = true := by
  intro xs
  induction xs with
  | nil => intro t z h; simp [place] at h
  | cons a r ih =>
    intro t z h hz
    rw [place_cons] at h
    split at h
    · cases t with
      | zero => simp at hz; subst hz; assumption
      | succ t => simp at hz; exact ih (by omega) hz
    · omega
theorem place_ge {s : Txt} : ∀ {xs : List Txt}, xs.Pairwise (· < ·) → ∀ {t : Nat} {z : Txt}, place xs s ≤ t → xs[t]? = some z → ltT z s = false := by
  intro xs
  induction xs with
  | nil => intro _ t z h hz; simp at hz
  | cons a r ih =>
    intro hp t z h hz
    have hp2 := List.pairwise_cons.1 hp
    rw [place_cons] at h
    split at h
    · cases t with
      | zero => omega
      | succ t => simp at hz; exact ih hp2.2 (by omega) hz
    · rename_i ha
      cases t with
      | zero => simp at hz; subst hz; simpa using ha
      | succ t =>
        simp at hz
        have haz := hp2.1 z (List.mem_of_getElem? hz)
        cases hzs : ltT z s
        · rfl
        · exact absurd (ltT_iff.2 (txt_trans haz (ltT_iff.1 hzs))) ha
theorem place_mem {xs : List Txt} {s : Txt} (hp : xs.Pairwise (· < ·)) : s ∈ xs ↔ xs[place xs s]? = some s := by
  constructor
  · intro h
    obtain ⟨t, ht⟩ := List.getElem?_of_mem h
    have h0 : ¬ t < place xs s := fun hlt => txt_irrefl s (ltT_iff.1 (place_lt hlt ht))
    by_cases he : t = place xs s
    · rw [← he]; exact ht
    · exfalso
      obtain ⟨hl, rfl⟩ := List.getElem?_eq_some_iff.1 ht
      have hl2 : place xs xs[t] < xs.length := by omega
      have := List.pairwise_iff_getElem.1 hp (place xs xs[t]) t hl2 hl (by omega)
      have h2 := place_ge hp (s := xs[t]) (Nat.le_refl _) (List.getElem?_eq_getElem hl2)
      rw [ltT_iff.2 this] at h2
      cases h2
  · exact List.mem_of_getElem?

def hasB (xs : List Txt) (s : Txt) : Bool := decide (s ∈ xs)
def addB (xs : List Txt) (s : Txt) : Bool := rightsOk xs && rightOk s && (hasB xs s || decide (xs.length < 6))
def insT (xs : List Txt) (s : Txt) : List Txt := xs.take (place xs s) ++ s :: xs.drop (place xs s)
def addL (xs : List Txt) (s : Txt) : List Txt := if rightsOk xs && rightOk s then (if hasB xs s then xs else if xs.length < 6 then insT xs s else xs) else []
def dropL (xs : List Txt) (s : Txt) : List Txt := if rightsOk xs && rightOk s then xs.filter (fun r => !covB s r) else []

theorem ins_mem {xs : List Txt} {s x : Txt} : x ∈ insT xs s ↔ x = s ∨ x ∈ xs := by
  unfold insT
  have h : ∀ y, y ∈ xs ↔ y ∈ xs.take (place xs s) ∨ y ∈ xs.drop (place xs s) := fun y => by rw [← List.mem_append, List.take_append_drop]
  rw [List.mem_append, List.mem_cons, h]
  constructor
  · rintro (h | h | h) <;> simp [h]
  · rintro (h | h | h) <;> simp [h]
theorem ins_pair {xs : List Txt} {s : Txt} (hp : xs.Pairwise (· < ·)) (hn : s ∉ xs) : (insT xs s).Pairwise (· < ·) := by
  unfold insT
  refine List.pairwise_append.2 ⟨hp.sublist (List.take_sublist _ _), List.pairwise_cons.2 ⟨fun z hz => ?_, hp.sublist (List.drop_sublist _ _)⟩, fun a ha b hb => ?_⟩
  · obtain ⟨i, hi⟩ := List.getElem?_of_mem hz
    rw [List.getElem?_drop] at hi
    have h1 := place_ge hp (s := s) (t := place xs s + i) (by omega) hi
    have hzx : z ∈ xs := List.mem_of_getElem? hi
    rcases txt_tri s z with h | h | h
    · exact h
    · exact absurd (h ▸ hzx) hn
    · rw [ltT_iff.2 h] at h1; cases h1
  · obtain ⟨i, hi, rfl⟩ := List.mem_take_iff_getElem.1 ha
    have h1 := ltT_iff.1 (place_lt (xs := xs) (s := s) (t := i) (by omega) (List.getElem?_eq_getElem (by omega)))
    rcases List.mem_cons.1 hb with rfl | hb
    · exact h1
    · obtain ⟨j, hj⟩ := List.getElem?_of_mem hb
      rw [List.getElem?_drop] at hj
      obtain ⟨hl, rfl⟩ := List.getElem?_eq_some_iff.1 hj
      exact List.pairwise_iff_getElem.1 hp i (place xs s + j) (by omega) hl (by omega)
theorem ins_len (xs : List Txt) (s : Txt) : (insT xs s).length = xs.length + 1 := by
  have := place_le xs s
  simp [insT]; omega
theorem add_ok {xs : List Txt} {s : Txt} (h : addB xs s = true) : rightsOk (addL xs s) = true ∧ s ∈ addL xs s ∧ (∀ x ∈ xs, x ∈ addL xs s) := by
  simp only [addB, Bool.and_eq_true, Bool.or_eq_true, decide_eq_true_eq] at h
  obtain ⟨⟨hv, hs⟩, h⟩ := h
  unfold addL
  simp only [hv, hs, Bool.and_self, if_true]
  by_cases hh : hasB xs s = true
  · rw [if_pos hh]
    exact ⟨hv, by simpa [hasB] using hh, fun x hx => hx⟩
  · rw [if_neg hh]
    have hl : xs.length < 6 := by rcases h with h | h; exact absurd h hh; exact h
    rw [if_pos hl]
    have hn : s ∉ xs := by simpa [hasB] using hh
    refine ⟨rightsOk_mk (by rw [ins_len]; omega) (fun x hx => ?_) (ins_pair (rightsOk_asc hv) hn), ins_mem.2 (.inl rfl), fun x hx => ins_mem.2 (.inr hx)⟩
    rcases ins_mem.1 hx with rfl | hx
    · exact hs
    · exact rightsOk_all hv x hx
theorem add_again {xs : List Txt} {s : Txt} (h : addB xs s = true) : addB (addL xs s) s = true ∧ addL (addL xs s) s = addL xs s := by
  obtain ⟨h1, h2, h3⟩ := add_ok h
  have hs : rightOk s = true := by simp only [addB, Bool.and_eq_true] at h; exact h.1.2
  have hh : hasB (addL xs s) s = true := by simp [hasB, h2]
  constructor
  · simp [addB, h1, hs, hh]
  · generalize addL xs s = ys at *
    simp [addL, h1, hs, hh]
theorem may_mem {xs : List Txt} {s : Txt} (h : s ∈ xs) : mayB xs s = true := List.any_eq_true.2 ⟨s, h, cov_refl s⟩
theorem addL_le (xs : List Txt) (s : Txt) : (addL xs s).length ≤ 6 := by
  unfold addL
  by_cases h : (rightsOk xs && rightOk s) = true
  · rw [if_pos h]
    simp only [Bool.and_eq_true] at h
    have := rightsOk_len h.1
    split
    · exact this
    · split
      · rw [ins_len]; omega
      · exact this
  · rw [if_neg h]; simp
end Go.Proofs.YtojknkpjnchchaaDoor
