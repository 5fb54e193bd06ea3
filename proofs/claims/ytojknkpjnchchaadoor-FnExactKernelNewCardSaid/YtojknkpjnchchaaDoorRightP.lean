/- Plain facts on rights: texts of few letters, in order. No conditions. -/
import Derived.Test.YtojknkpjnchchaaDoorStrA
import Derived.Lib.SlTrimSet
namespace Go.Proofs.YtojknkpjnchchaaDoor
set_option linter.all false
set_option maxRecDepth 100000

/-- One of the letters of a right. -/
def letter (b : UInt8) : Bool := ([97, 98, 99] : Txt).contains b
theorem letter_iff (b : UInt8) : letter b = decide (97 ≤ b.toNat ∧ b.toNat ≤ 99) := by
  unfold letter
  rw [Bool.eq_iff_iff]
  simp only [List.contains_cons, List.contains_nil, Bool.or_false, Bool.or_eq_true, beq_iff_eq, decide_eq_true_eq]
  constructor
  · rintro (rfl | rfl | rfl) <;> decide
  · rintro ⟨h1, h2⟩
    have h : b.toNat = 97 ∨ b.toNat = 98 ∨ b.toNat = 99 := by omega
    rcases h with h | h | h
    · exact .inl (UInt8.toNat_inj.1 h)
    · exact .inr (.inl (UInt8.toNat_inj.1 h))
    · exact .inr (.inr (UInt8.toNat_inj.1 h))
def rightOk (x : Txt) : Bool := decide (x.length ≤ 4) && x.all letter
/-- a is the beginning of b. -/
def covB (a b : Txt) : Bool := a.isPrefixOf b

theorem dropWhile_nil {α : Type} (p : α → Bool) : ∀ l : List α, l.dropWhile p = [] ↔ l.all p = true := by
  intro l
  induction l with
  | nil => simp
  | cons a t ih =>
    simp only [List.dropWhile_cons, List.all_cons, Bool.and_eq_true]
    by_cases h : p a = true
    · simp only [h, if_true, true_and]; exact ih
    · simp [h]
theorem dropWhile_head {α : Type} (p : α → Bool) : ∀ l : List α, ∀ a t, l.dropWhile p = a :: t → p a = false := by
  intro l
  induction l with
  | nil => intro a t h; simp at h
  | cons b r ih =>
    intro a t h
    simp only [List.dropWhile_cons] at h
    by_cases hb : p b = true
    · rw [if_pos hb] at h; exact ih a t h
    · rw [if_neg hb] at h
      simp only [List.cons.injEq] at h
      rw [← h.1]; simpa using hb
theorem trim_nil (l cs : Txt) : (Lib.trimS l cs == []) = l.all (cs.contains ·) := by
  unfold Lib.trimS Lib.trimLeftS Lib.trimRightS
  rw [Bool.eq_iff_iff, beq_iff_eq, dropWhile_nil]
  constructor
  · intro h
    cases hd : l.reverse.dropWhile (cs.contains ·) with
    | nil =>
      rw [dropWhile_nil, List.all_reverse] at hd
      exact hd
    | cons a t =>
      have h1 := dropWhile_head _ _ _ _ hd
      rw [hd, List.all_eq_true] at h
      have := h a (by simp)
      simp only [h1] at this
      cases this
  · intro h
    have : l.reverse.dropWhile (cs.contains ·) = [] := by rw [dropWhile_nil, List.all_reverse]; exact h
    rw [this]; rfl

theorem bl_eq : ∀ (x y : Txt), Op.bytesLess x y = decide (x < y)
  | [], [] => by simp [Op.bytesLess]
  | _ :: _, [] => by simp [Op.bytesLess]
  | [], _ :: _ => by simp [Op.bytesLess]
  | a :: x, b :: y => by
    rw [Op.bytesLess, bl_eq x y]
    simp only [List.cons_lt_cons_iff]
    by_cases h1 : a < b <;> by_cases h2 : a = b <;> by_cases h3 : x < y <;> simp [h1, h2, h3]

def ltT (a b : Txt) : Bool := Op.bytesLess a b
theorem ltT_iff {a b : Txt} : ltT a b = true ↔ a < b := by simp [ltT, bl_eq]
theorem txt_irrefl (a : Txt) : ¬ a < a := List.lt_irrefl a
theorem txt_trans {a b c : Txt} (h : a < b) (k : b < c) : a < c := List.lt_trans h k
theorem txt_tri (a b : Txt) : a < b ∨ a = b ∨ b < a := by
  by_cases h : a < b
  · exact .inl h
  · by_cases h2 : b < a
    · exact .inr (.inr h2)
    · exact .inr (.inl (List.le_antisymm (List.not_lt.1 h2) (List.not_lt.1 h)))

/-- Texts ascend. -/
def ascB : List Txt → Bool
  | a :: b :: t => ltT a b && ascB (b :: t)
  | _ => true
theorem ascB_pair : ∀ xs : List Txt, ascB xs = true ↔ xs.Pairwise (· < ·)
  | [] => by simp [ascB]
  | [a] => by simp [ascB]
  | a :: b :: t => by
    have ih := ascB_pair (b :: t)
    simp only [ascB, Bool.and_eq_true, ltT_iff, ih]
    constructor
    · rintro ⟨h, hp⟩
      refine List.pairwise_cons.2 ⟨fun c hc => ?_, hp⟩
      rcases List.mem_cons.1 hc with rfl | hc
      · exact h
      · exact txt_trans h ((List.pairwise_cons.1 hp).1 c hc)
    · intro h
      have h1 := List.pairwise_cons.1 h
      exact ⟨h1.1 b (by simp), h1.2⟩
theorem asc_snoc {xs : List Txt} {z y : Txt} : ascB (xs ++ [z, y]) = (ascB (xs ++ [z]) && ltT z y) := by
  induction xs with
  | nil => simp [ascB]
  | cons a t ih =>
    cases t with
    | nil => simp [ascB, Bool.and_assoc]
    | cons b r =>
      simp only [List.cons_append, ascB] at ih ⊢
      rw [ih, Bool.and_assoc]
theorem asc_take_zero (xs : List Txt) : ascB (xs.take 1) = true := by cases xs <;> simp [ascB]
theorem asc_take_succ {xs : List Txt} {k : Nat} {z y : Txt} (hz : xs[k]? = some z) (hy : xs[k + 1]? = some y) : ascB (xs.take (k + 2)) = (ascB (xs.take (k + 1)) && ltT z y) := by
  have h1 : xs.take (k + 1) = xs.take k ++ [z] := by rw [List.take_add_one, hz]; rfl
  have h2 : xs.take (k + 2) = xs.take k ++ [z, y] := by rw [List.take_add_one, hy, h1]; simp
  rw [h1, h2, asc_snoc]
theorem asc_take {xs : List Txt} (h : ascB xs = true) (k : Nat) : ascB (xs.take k) = true := by
  rw [ascB_pair] at h ⊢
  exact h.sublist (List.take_sublist _ _)

def rightsOk (xs : List Txt) : Bool := decide (xs.length ≤ 6) && (xs.all rightOk && ascB xs)
/-- Some right allows g. -/
def mayB (xs : List Txt) (g : Txt) : Bool := xs.any fun s => covB s g
theorem rightsOk_len {xs : List Txt} (h : rightsOk xs = true) : xs.length ≤ 6 := by simp [rightsOk] at h; exact h.1
theorem rightOk_len {x : Txt} (h : rightOk x = true) : x.length ≤ 4 := by simp [rightOk] at h; exact h.1
theorem rightsOk_all {xs : List Txt} (h : rightsOk xs = true) : ∀ x ∈ xs, rightOk x = true := by simp [rightsOk] at h; exact h.2.1
theorem rightsOk_asc {xs : List Txt} (h : rightsOk xs = true) : xs.Pairwise (· < ·) := by rw [← ascB_pair]; simp [rightsOk] at h; exact h.2.2
theorem rightsOk_mk {xs : List Txt} (h1 : xs.length ≤ 6) (h2 : ∀ x ∈ xs, rightOk x = true) (h3 : xs.Pairwise (· < ·)) : rightsOk xs = true := by
  rw [← ascB_pair] at h3
  simp only [rightsOk, h3, Bool.and_true, Bool.and_eq_true, decide_eq_true_eq, List.all_eq_true]
  exact ⟨h1, h2⟩
theorem rightsOk_sub {xs ys : List Txt} (h : rightsOk ys = true) (hs : xs.Sublist ys) : rightsOk xs = true :=
  rightsOk_mk (Nat.le_trans hs.length_le (rightsOk_len h)) (fun x hx => rightsOk_all h x (hs.mem hx)) ((rightsOk_asc h).sublist hs)

theorem cov_iff {a b : Txt} : covB a b = true ↔ ∃ c, b = a ++ c := by
  unfold covB
  rw [List.isPrefixOf_iff_prefix]
  exact ⟨fun ⟨c, h⟩ => ⟨c, h.symm⟩, fun ⟨c, h⟩ => ⟨c, h.symm⟩⟩
theorem cov_refl (a : Txt) : covB a a = true := cov_iff.2 ⟨[], by simp⟩
theorem cov_nil (a : Txt) : covB [] a = true := cov_iff.2 ⟨a, by simp⟩
theorem cov_trans {a b c : Txt} (h : covB a b = true) (k : covB b c = true) : covB a c = true := by
  obtain ⟨x, rfl⟩ := cov_iff.1 h
  obtain ⟨y, rfl⟩ := cov_iff.1 k
  exact cov_iff.2 ⟨x ++ y, by simp⟩
theorem cov_antisymm {a b : Txt} (h : covB a b = true) (k : covB b a = true) : a = b := by
  obtain ⟨x, rfl⟩ := cov_iff.1 h
  obtain ⟨y, hy⟩ := cov_iff.1 k
  have := congrArg List.length hy
  simp only [List.length_append] at this
  have h0 : x = [] := List.eq_nil_of_length_eq_zero (by omega)
  simp [h0]
end Go.Proofs.YtojknkpjnchchaaDoor
