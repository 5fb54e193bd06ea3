/- Plain facts on rights: texts of few letters, in order. No conditions. Plain facts on adding to rights, and on taking from them. No conditions. What the statements on rights ask of the plain functions. No conditions. Contracts of the functions on one right. No conditions but the sizes of the texts. -/
import Derived.Test.YtojknkpjnchchaaGreatDoorGStr
import Derived.Lib.SlTrimSet
import Derived.Test.YtojknkpjnchchaaGreatDoorShelf
namespace Go.Proofs.YtojknkpjnchchaaGreatDoor
set_option linter.all false
set_option maxRecDepth 100000

/-- One of the letters of a right. -/
def letter (b : UInt8) : Bool := ([97, 98, 99] : Txt).contains b
theorem letter_iff (b : UInt8) : letter b = decide (97 ≤ b.toNat ∧ b.toNat ≤ 99) := by
  unfold letter
  rw [Bool.eq_iff_iff]
  simp only [List.contains_cons, List.contains_nil, Bool.or_false, Bool.or_eq_true, beq_iff_eq, decide_eq_true_eq]
  constructor
  · rintro (rfl | rfl | rfl) <;> decide
  · rintro ⟨h1, h2⟩
    have h : b.toNat = 97 ∨ b.toNat = 98 ∨ b.toNat = 99 := by omega
    rcases h with h | h | h
    · exact .inl (UInt8.toNat_inj.1 h)
    · exact .inr (.inl (UInt8.toNat_inj.1 h))
    · exact .inr (.inr (UInt8.toNat_inj.1 h))
def rightOk (x : Txt) : Bool := decide (x.length ≤ 4) && x.all letter
/-- a is the beginning of b. -/
def covB (a b : Txt) : Bool := a.isPrefixOf b

theorem dropWhile_nil {α : Type} (p : α → Bool) : ∀ l : List α, l.dropWhile p = [] ↔ l.all p = true := by
  intro l
  induction l with
  | nil => simp
  | cons a t ih =>
    simp only [List.dropWhile_cons, List.all_cons, Bool.and_eq_true]
    by_cases h : p a = true
    · simp only [h, if_true, true_and]; exact ih
    · simp [h]
theorem dropWhile_head {α : Type} (p : α → Bool) : ∀ l : List α, ∀ a t, l.dropWhile p = a :: t → p a = false := by
  intro l
  induction l with
  | nil => intro a t h; simp at h
  | cons b r ih =>
    intro a t h
    simp only [List.dropWhile_cons] at h
    by_cases hb : p b = true
    · rw [if_pos hb] at h; exact ih a t h
    · rw [if_neg hb] at h
      simp only [List.cons.injEq] at h
      rw [← h.1]; simpa using hb
theorem trim_nil (l cs : Txt) : (Lib.trimS l cs == []) = l.all (cs.contains ·) := by
  unfold Lib.trimS Lib.trimLeftS Lib.trimRightS
  rw [Bool.eq_iff_iff, beq_iff_eq, dropWhile_nil]
  constructor
  · intro h
    cases hd : l.reverse.dropWhile (cs.contains ·) with
    | nil =>
      rw [dropWhile_nil, List.all_reverse] at hd
      exact hd
    | cons a t =>
      have h1 := dropWhile_head _ _ _ _ hd
      rw [hd, List.all_eq_true] at h
      have := h a (by simp)
      simp only [h1] at this
      cases this
  · intro h
    have : l.reverse.dropWhile (cs.contains ·) = [] := by rw [dropWhile_nil, List.all_reverse]; exact h
    rw [this]; rfl

theorem bl_eq : ∀ (x y : Txt), Op.bytesLess x y = decide (x < y)
  | [], [] => by simp [Op.bytesLess]
  | _ :: _, [] => by simp [Op.bytesLess]
  | [], _ :: _ => by simp [Op.bytesLess]
  | a :: x, b :: y => by
    rw [Op.bytesLess, bl_eq x y]
    simp only [List.cons_lt_cons_iff]
    by_cases h1 : a < b <;> by_cases h2 : a = b <;> by_cases h3 : x < y <;> simp [h1, h2, h3]

def ltT (a b : Txt) : Bool := Op.bytesLess a b
theorem ltT_iff {a b : Txt} : ltT a b = true ↔ a < b := by simp [ltT, bl_eq]
theorem txt_irrefl (a : Txt) : ¬ a < a := List.lt_irrefl a
theorem txt_trans {a b c : Txt} (h : a < b) (k : b < c) : a < c := List.lt_trans h k
theorem txt_tri (a b : Txt) : a < b ∨ a = b ∨ b < a := by
  by_cases h : a < b
  · exact .inl h
  · by_cases h2 : b < a
    · exact .inr (.inr h2)
    · exact .inr (.inl (List.le_antisymm (List.not_lt.1 h2) (List.not_lt.1 h)))

/-- Texts ascend. -/
def ascB : List Txt → Bool
  | a :: b :: t => ltT a b && ascB (b :: t)
  | _ => true
theorem ascB_pair : ∀ xs : List Txt, ascB xs = true ↔ xs.Pairwise (· < ·)
  | [] => by simp [ascB]
  | [a] => by simp [ascB]
  | a :: b :: t => by
    have ih := ascB_pair (b :: t)
    simp only [ascB, Bool.and_eq_true, ltT_iff, ih]
    constructor
    · rintro ⟨h, hp⟩
      refine List.pairwise_cons.2 ⟨fun c hc => ?_, hp⟩
      rcases List.mem_cons.1 hc with rfl | hc
      · exact h
      · exact txt_trans h ((List.pairwise_cons.1 hp).1 c hc)
    · intro h
      have h1 := List.pairwise_cons.1 h
      exact ⟨h1.1 b (by simp), h1.2⟩
theorem asc_snoc {xs : List Txt} {z y : Txt} : ascB (xs ++ [z, y]) = (ascB (xs ++ [z]) && ltT z y) := by
  induction xs with
  | nil => simp [ascB]
  | cons a t ih =>
    cases t with
    | nil => simp [ascB, Bool.and_assoc]
    | cons b r =>
      simp only [List.cons_append, ascB] at ih ⊢
      rw [ih, Bool.and_assoc]
theorem asc_take_zero (xs : List Txt) : ascB (xs.take 1) = true := by cases xs <;> simp [ascB]
theorem asc_take_succ {xs : List Txt} {k : Nat} {z y : Txt} (hz : xs[k]? = some z) (hy : xs[k + 1]? = some y) : ascB (xs.take (k + 2)) = (ascB (xs.take (k + 1)) && ltT z y) := by
  have h1 : xs.take (k + 1) = xs.take k ++ [z] := by rw [List.take_add_one, hz]; rfl
  have h2 : xs.take (k + 2) = xs.take k ++ [z, y] := by rw [List.take_add_one, hy, h1]; simp
  rw [h1, h2, asc_snoc]
theorem asc_take {xs : List Txt} (h : ascB xs = true) (k : Nat) : ascB (xs.take k) = true := by
  rw [ascB_pair] at h ⊢
  exact h.sublist (List.take_sublist _ _)

def rightsOk (xs : List Txt) : Bool := decide (xs.length ≤ 6) && (xs.all rightOk && ascB xs)
/-- Some right allows g. -/
def mayB (xs : List Txt) (g : Txt) : Bool := xs.any fun s => covB s g
theorem rightsOk_len {xs : List Txt} (h : rightsOk xs = true) : xs.length ≤ 6 := by simp [rightsOk] at h; exact h.1
theorem rightOk_len {x : Txt} (h : rightOk x = true) : x.length ≤ 4 := by simp [rightOk] at h; exact h.1
theorem rightsOk_all {xs : List Txt} (h : rightsOk xs = true) : ∀ x ∈ xs, rightOk x = true := by simp [rightsOk] at h; exact h.2.1
theorem rightsOk_asc {xs : List Txt} (h : rightsOk xs = true) : xs.Pairwise (· < ·) := by rw [← ascB_pair]; simp [rightsOk] at h; exact h.2.2
theorem rightsOk_mk {xs : List Txt} (h1 : xs.length ≤ 6) (h2 : ∀ x ∈ xs, rightOk x = true) (h3 : xs.Pairwise (· < ·)) : rightsOk xs = true := by
  rw [← ascB_pair] at h3
  simp only [rightsOk, h3, Bool.and_true, Bool.and_eq_true, decide_eq_true_eq, List.all_eq_true]
  exact ⟨h1, h2⟩
theorem rightsOk_sub {xs ys : List Txt} (h : rightsOk ys = true) (hs : xs.Sublist ys) : rightsOk xs = true :=
  rightsOk_mk (Nat.le_trans hs.length_le (rightsOk_len h)) (fun x hx => rightsOk_all h x (hs.mem hx)) ((rightsOk_asc h).sublist hs)

theorem cov_iff {a b : Txt} : covB a b = true ↔ ∃ c, b = a ++ c := by
  unfold covB
  rw [List.isPrefixOf_iff_prefix]
  exact ⟨fun ⟨c, h⟩ => ⟨c, h.symm⟩, fun ⟨c, h⟩ => ⟨c, h.symm⟩⟩
theorem cov_refl (a : Txt) : covB a a = true := cov_iff.2 ⟨[], by simp⟩
theorem cov_nil (a : Txt) : covB [] a = true := cov_iff.2 ⟨a, by simp⟩
theorem cov_trans {a b c : Txt} (h : covB a b = true) (k : covB b c = true) : covB a c = true := by
  obtain ⟨x, rfl⟩ := cov_iff.1 h
  obtain ⟨y, rfl⟩ := cov_iff.1 k
  exact cov_iff.2 ⟨x ++ y, by simp⟩
theorem cov_antisymm {a b : Txt} (h : covB a b = true) (k : covB b a = true) : a = b := by
  obtain ⟨x, rfl⟩ := cov_iff.1 h
  obtain ⟨y, hy⟩ := cov_iff.1 k
  have := congrArg List.length hy
  simp only [List.length_append] at this
  have h0 : x = [] := List.eq_nil_of_length_eq_zero (by omega)
  simp [h0]
end Go.Proofs.YtojknkpjnchchaaGreatDoor
namespace Go.Proofs.YtojknkpjnchchaaGreatDoor
set_option linter.all false
set_option maxRecDepth 100000

/-- Where a text belongs. -/
def place (xs : List Txt) (s : Txt) : Nat := (xs.takeWhile (ltT · s)).length
theorem place_cons (a : Txt) (r : List Txt) (s : Txt) : place (a :: r) s = if ltT a s then place r s + 1 else 0 := by
  unfold place
  rw [List.takeWhile_cons]
  split <;> simp
theorem place_le (xs : List Txt) (s : Txt) : place xs s ≤ xs.length := by
  induction xs with
  | nil => simp [place]
  | cons a r ih => rw [place_cons]; split <;> simp <;> omega
theorem place_lt {s : Txt} : ∀ {xs : List Txt} {t : Nat} {z : Txt}, t < place xs s → xs[t]? = some z → ltT z s = true := by
  intro xs
  induction xs with
  | nil => intro t z h; simp [place] at h
  | cons a r ih =>
    intro t z h hz
    rw [place_cons] at h
    split at h
    · cases t with
      | zero => simp at hz; subst hz; assumption
      | succ t => simp at hz; exact ih (by omega) hz
    · omega
theorem place_ge {s : Txt} : ∀ {xs : List Txt}, xs.Pairwise (· < ·) → ∀ {t : Nat} {z : Txt}, place xs s ≤ t → xs[t]? = some z → ltT z s = false := by
  intro xs
  induction xs with
  | nil => intro _ t z h hz; simp at hz
  | cons a r ih =>
    intro hp t z h hz
    have hp2 := List.pairwise_cons.1 hp
    rw [place_cons] at h
    split at h
    · cases t with
      | zero => omega
      | succ t => simp at hz; exact ih hp2.2 (by omega) hz
    · rename_i ha
      cases t with
      | zero => simp at hz; subst hz; simpa using ha
      | succ t =>
        simp at hz
        have haz := hp2.1 z (List.mem_of_getElem? hz)
        cases hzs : ltT z s
        · rfl
        · exact absurd (ltT_iff.2 (txt_trans haz (ltT_iff.1 hzs))) ha
theorem place_mem {xs : List Txt} {s : Txt} (hp : xs.Pairwise (· < ·)) : s ∈ xs ↔ xs[place xs s]? = some s := by
  constructor
  · intro h
    obtain ⟨t, ht⟩ := List.getElem?_of_mem h
    have h0 : ¬ t < place xs s := fun hlt => txt_irrefl s (ltT_iff.1 (place_lt hlt ht))
    by_cases he : t = place xs s
    · rw [← he]; exact ht
    · exfalso
      obtain ⟨hl, rfl⟩ := List.getElem?_eq_some_iff.1 ht
      have hl2 : place xs xs[t] < xs.length := by omega
      have := List.pairwise_iff_getElem.1 hp (place xs xs[t]) t hl2 hl (by omega)
      have h2 := place_ge hp (s := xs[t]) (Nat.le_refl _) (List.getElem?_eq_getElem hl2)
      rw [ltT_iff.2 this] at h2
      cases h2
  · exact List.mem_of_getElem?

def hasB (xs : List Txt) (s : Txt) : Bool := decide (s ∈ xs)
def addB (xs : List Txt) (s : Txt) : Bool := rightsOk xs && rightOk s && (hasB xs s || decide (xs.length < 6))
def insT (xs : List Txt) (s : Txt) : List Txt := xs.take (place xs s) ++ s :: xs.drop (place xs s)
def addL (xs : List Txt) (s : Txt) : List Txt := if rightsOk xs && rightOk s then (if hasB xs s then xs else if xs.length < 6 then insT xs s else xs) else []
def dropL (xs : List Txt) (s : Txt) : List Txt := if rightsOk xs && rightOk s then xs.filter (fun r => !covB s r) else []

theorem ins_mem {xs : List Txt} {s x : Txt} : x ∈ insT xs s ↔ x = s ∨ x ∈ xs := by
  unfold insT
  have h : ∀ y, y ∈ xs ↔ y ∈ xs.take (place xs s) ∨ y ∈ xs.drop (place xs s) := fun y => by rw [← List.mem_append, List.take_append_drop]
  rw [List.mem_append, List.mem_cons, h]
  constructor
  · rintro (h | h | h) <;> simp [h]
  · rintro (h | h | h) <;> simp [h]
theorem ins_pair {xs : List Txt} {s : Txt} (hp : xs.Pairwise (· < ·)) (hn : s ∉ xs) : (insT xs s).Pairwise (· < ·) := by
  unfold insT
  refine List.pairwise_append.2 ⟨hp.sublist (List.take_sublist _ _), List.pairwise_cons.2 ⟨fun z hz => ?_, hp.sublist (List.drop_sublist _ _)⟩, fun a ha b hb => ?_⟩
  · obtain ⟨i, hi⟩ := List.getElem?_of_mem hz
    rw [List.getElem?_drop] at hi
    have h1 := place_ge hp (s := s) (t := place xs s + i) (by omega) hi
    have hzx : z ∈ xs := List.mem_of_getElem? hi
    rcases txt_tri s z with h | h | h
    · exact h
    · exact absurd (h ▸ hzx) hn
    · rw [ltT_iff.2 h] at h1; cases h1
  · obtain ⟨i, hi, rfl⟩ := List.mem_take_iff_getElem.1 ha
    have h1 := ltT_iff.1 (place_lt (xs := xs) (s := s) (t := i) (by omega) (List.getElem?_eq_getElem (by omega)))
    rcases List.mem_cons.1 hb with rfl | hb
    · exact h1
    · obtain ⟨j, hj⟩ := List.getElem?_of_mem hb
      rw [List.getElem?_drop] at hj
      obtain ⟨hl, rfl⟩ := List.getElem?_eq_some_iff.1 hj
      exact List.pairwise_iff_getElem.1 hp i (place xs s + j) (by omega) hl (by omega)
theorem ins_len (xs : List Txt) (s : Txt) : (insT xs s).length = xs.length + 1 := by
  have := place_le xs s
  simp [insT]; omega
theorem add_ok {xs : List Txt} {s : Txt} (h : addB xs s = true) : rightsOk (addL xs s) = true ∧ s ∈ addL xs s ∧ (∀ x ∈ xs, x ∈ addL xs s) := by
  simp only [addB, Bool.and_eq_true, Bool.or_eq_true, decide_eq_true_eq] at h
  obtain ⟨⟨hv, hs⟩, h⟩ := h
  unfold addL
  simp only [hv, hs, Bool.and_self, if_true]
  by_cases hh : hasB xs s = true
  · rw [if_pos hh]
    exact ⟨hv, by simpa [hasB] using hh, fun x hx => hx⟩
  · rw [if_neg hh]
    have hl : xs.length < 6 := by rcases h with h | h; exact absurd h hh; exact h
    rw [if_pos hl]
    have hn : s ∉ xs := by simpa [hasB] using hh
    refine ⟨rightsOk_mk (by rw [ins_len]; omega) (fun x hx => ?_) (ins_pair (rightsOk_asc hv) hn), ins_mem.2 (.inl rfl), fun x hx => ins_mem.2 (.inr hx)⟩
    rcases ins_mem.1 hx with rfl | hx
    · exact hs
    · exact rightsOk_all hv x hx
theorem add_again {xs : List Txt} {s : Txt} (h : addB xs s = true) : addB (addL xs s) s = true ∧ addL (addL xs s) s = addL xs s := by
  obtain ⟨h1, h2, h3⟩ := add_ok h
  have hs : rightOk s = true := by simp only [addB, Bool.and_eq_true] at h; exact h.1.2
  have hh : hasB (addL xs s) s = true := by simp [hasB, h2]
  constructor
  · simp [addB, h1, hs, hh]
  · generalize addL xs s = ys at *
    simp [addL, h1, hs, hh]
theorem may_mem {xs : List Txt} {s : Txt} (h : s ∈ xs) : mayB xs s = true := List.any_eq_true.2 ⟨s, h, cov_refl s⟩
theorem addL_le (xs : List Txt) (s : Txt) : (addL xs s).length ≤ 6 := by
  unfold addL
  by_cases h : (rightsOk xs && rightOk s) = true
  · rw [if_pos h]
    simp only [Bool.and_eq_true] at h
    have := rightsOk_len h.1
    split
    · exact this
    · split
      · rw [ins_len]; omega
      · exact this
  · rw [if_neg h]; simp
end Go.Proofs.YtojknkpjnchchaaGreatDoor
namespace Go.Proofs.YtojknkpjnchchaaGreatDoor
set_option linter.all false
set_option maxRecDepth 100000

def rcB (a b : Txt) : Bool := rightOk a && rightOk b && covB a b
def rmB (xs : List Txt) (g : Txt) : Bool := rightsOk xs && rightOk g && mayB xs g

theorem rightOk_sub {a b : Txt} (h : covB a b = true) (hb : rightOk b = true) : rightOk a = true := by
  obtain ⟨c, rfl⟩ := cov_iff.1 h
  simp only [rightOk, Bool.and_eq_true, decide_eq_true_eq, List.length_append, List.all_append] at hb ⊢
  exact ⟨by omega, hb.2.1⟩
theorem rightOk_nil : rightOk [] = true := by decide
theorem rc_two {a b : Txt} (h : rcB a b = true) : rcB b a = decide (a = b) ∧ rcB a a = true ∧ rcB [] b = true := by
  simp only [rcB, Bool.and_eq_true] at h
  obtain ⟨⟨ha, hb⟩, hc⟩ := h
  refine ⟨?_, by simp [rcB, ha, cov_refl], by simp [rcB, hb, rightOk_nil, cov_nil]⟩
  by_cases he : a = b
  · subst he; simp [rcB, ha, cov_refl]
  · have hn : covB b a = false := by
      cases hba : covB b a
      · rfl
      · exact absurd (cov_antisymm hc hba) he
    simp [rcB, hn, he]
theorem rm_long {xs : List Txt} {g : Txt} {c : UInt8} (h : rmB xs g = true) : rmB xs (g ++ [c]) = rightOk (g ++ [c]) := by
  simp only [rmB, Bool.and_eq_true] at h
  obtain ⟨⟨hv, hg⟩, hm⟩ := h
  obtain ⟨s, hs, hc⟩ := List.any_eq_true.1 hm
  have : mayB xs (g ++ [c]) = true := List.any_eq_true.2 ⟨s, hs, cov_trans hc (cov_iff.2 ⟨[c], rfl⟩)⟩
  simp [rmB, hv, this]
theorem rm_some {xs : List Txt} {g : Txt} (hv : rightsOk xs = true) (hg : rightOk g = true) : rmB xs g = xs.any (fun s => rcB s g) := by
  simp only [rmB, hv, hg, Bool.and_self, Bool.true_and]
  unfold mayB
  rw [Bool.eq_iff_iff, List.any_eq_true, List.any_eq_true]
  constructor
  · rintro ⟨s, hs, hc⟩; exact ⟨s, hs, by simp [rcB, hg, hc, rightsOk_all hv s hs]⟩
  · rintro ⟨s, hs, hc⟩
    simp only [rcB, Bool.and_eq_true] at hc
    exact ⟨s, hs, hc.2⟩
theorem rights_less {xs : List Txt} (k : Nat) (h : rightsOk xs = true) : rightsOk (xs.take k ++ xs.drop (k + 1)) = true := by
  refine rightsOk_sub h ?_
  rw [← List.eraseIdx_eq_take_drop_succ]
  exact List.eraseIdx_sublist _ _
theorem rights_twice {xs : List Txt} {k : Nat} {x : Txt} (hx : xs[k]? = some x) : rightsOk (xs.take (k + 1) ++ xs.drop k) = false := by
  cases h : rightsOk (xs.take (k + 1) ++ xs.drop k)
  · rfl
  · exfalso
    have hp := rightsOk_asc h
    obtain ⟨hl, rfl⟩ := List.getElem?_eq_some_iff.1 hx
    have := (List.pairwise_append.1 hp).2.2 xs[k] (by rw [List.mem_take_iff_getElem]; exact ⟨k, by omega, rfl⟩) xs[k] (List.mem_of_getElem? (i := 0) (by rw [List.getElem?_drop]; simpa using hx))
    exact txt_irrefl _ this
theorem drop_filter {xs : List Txt} {s : Txt} (hv : rightsOk xs = true) (hs : rightOk s = true) : dropL xs s = xs.filter (fun r => !rcB s r) := by
  unfold dropL
  simp only [hv, hs, Bool.and_self, if_true]
  refine List.filter_congr fun r hr => ?_
  simp [rcB, hs, rightsOk_all hv r hr]
theorem dropL_le (xs : List Txt) (s : Txt) : (dropL xs s).length ≤ 6 := by
  unfold dropL
  by_cases h : (rightsOk xs && rightOk s) = true
  · rw [if_pos h]
    simp only [Bool.and_eq_true] at h
    exact Nat.le_trans (List.length_filter_le _ _) (rightsOk_len h.1)
  · rw [if_neg h]; simp
theorem add_full {xs : List Txt} {s : Txt} (hv : rightsOk xs = true) (hs : rightOk s = true) : addB xs s = (hasB xs s || decide (xs.length < 6)) ∧ (addB xs s = false → addL xs s = xs) := by
  refine ⟨by simp [addB, hv, hs], fun h => ?_⟩
  simp only [addB, hv, hs, Bool.and_self, Bool.true_and, Bool.or_eq_false_iff, decide_eq_false_iff_not] at h
  simp only [addL, hv, hs, Bool.and_self, if_true, h.1, Bool.false_eq_true, if_false]
  rw [if_neg h.2]
end Go.Proofs.YtojknkpjnchchaaGreatDoor
namespace Go.Proofs.YtojknkpjnchchaaGreatDoor
open Go.ChangeShapes Go.WideShapes Go.RowKit
set_option linter.all false
set_option maxRecDepth 100000
attribute [local go_sem ↓] Go.wp_at_zero Go.wp_at_succ

theorem hasPrefix_c (a b : Txt) (w : World) : Calls Tryz.prog 146 #[tv a, tv b] w fun e w' => e = .returned (.bool (covB b a)) ∧ w = w' :=
  (Any.strings_HasPrefix Tryz.hasPrefixL ⟨a.toArray⟩ ⟨b.toArray⟩ w).mono (by rintro e w' ⟨he, hw⟩; exact ⟨by rw [he]; simp [Lib.hasPrefix, covB], hw.symm⟩)

theorem trim_c (x : Txt) (w : World) (hx : x.length ≤ 9223372036854775807) : Calls Tryz.prog 142 #[tv x, .string ⟨#[97, 98, 99]⟩] w fun e w' => e = .returned (tv (Lib.trimS x [97, 98, 99])) ∧ Below w.heap.size w w' :=
  (Any.strings_Trim_laid Tryz.trimL (by kernel_rfl) ⟨x.toArray⟩ ⟨#[97, 98, 99]⟩ w (by rw [tv_size]; exact hx) (by decide) (ascii_of_all (by decide))).mono (by rintro e w' ⟨he, hb⟩; exact ⟨by rw [he], hb⟩)

theorem implRightValid_c (x : Txt) (w : World) (hx : x.length ≤ 9223372036854775807) : Calls Tryz.prog 104 #[tv x] w fun e w' => e = .returned (.bool (rightOk x)) ∧ Below w.heap.size w w' := by
  have hsz := tv_size x
  by_cases h4 : x.length ≤ 4
  · have HR := Lib.hid (show rightOk x = (Lib.trimS x [97, 98, 99] == []) by rw [trim_nil]; simp only [rightOk, h4, decide_true, Bool.true_and]; rfl)
    go_enter Tryz.func104, Tryz.ntmps104
    go_wp2_with fail
    refine (trim_c x _ hx).mono ?_
    rintro e w1 ⟨rfl, hb⟩
    generalize Lib.trimS x [97, 98, 99] = y at *
    go_wp2
    go_ret
    exact ⟨ret_bool (by rw [HR.out]; cases y <;> rfl), hb⟩
  · have HR := Lib.hid (show rightOk x = false by simp [rightOk, h4])
    go_enter Tryz.func104, Tryz.ntmps104
    go_wp2
    go_ret
    exact ⟨ret_bool HR.out.symm, bref _⟩

theorem rightOk_bad {x : Txt} {k : Nat} {b : UInt8} (hb : x[k]? = some b) (h : letter b = false) : rightOk x = false := by
  cases hr : rightOk x
  · rfl
  · simp only [rightOk, Bool.and_eq_true, List.all_eq_true] at hr
    have := hr.2 b (List.mem_of_getElem? hb)
    rw [h] at this; cases this
theorem rightOk_good {x : Txt} {k : Nat} (hk : x.length ≤ k) (h : (x.take k).all letter = true) : rightOk x = decide (x.length ≤ 4) := by
  rw [List.take_of_length_le hk] at h
  simp [rightOk, h]
theorem all_take_succ {α : Type} {p : α → Bool} {xs : List α} {k : Nat} {x : α} (hx : xs[k]? = some x) (h : (xs.take k).all p = true) (hp : p x = true) : (xs.take (k + 1)).all p = true := by
  rw [List.take_add_one, hx]; simp [List.all_append, h, hp]

set_option maxHeartbeats 1000000 in
theorem specRightValid_c (x : Txt) (w : World) (hx : x.length ≤ 9223372036854775807) : Calls Tryz.prog 127 #[tv x] w fun e w' => e = .returned (.bool (rightOk x)) ∧ w = w' := by
  have hsz := tv_size x
  obtain ⟨n, hn⟩ : ∃ n, n = x.length := ⟨_, rfl⟩
  rw [← hn] at hsz hx
  have HN := Lib.hid hn
  clear hn
  go_enter Tryz.func127, Tryz.ntmps127
  go_wp2
  go_loop [3] (fun i => ∃ k : Nat, k ≤ n ∧ i = .int .i64 k ∧ Hid ((x.take k).all letter = true)) (fun i => n - (intOf i).toNat)
  case atStart => exact ⟨0, Nat.zero_le _, rfl, by simp [Hid]⟩
  case round =>
    obtain ⟨k, hk, rfl, hal⟩ := hrel
    by_cases hlt : k < n
    · obtain ⟨b, hb⟩ : ∃ b, x[k]? = some b := ⟨_, List.getElem?_eq_getElem (by have := HN.out; omega)⟩
      have hg : ∀ h : k < (ByteArray.mk x.toArray).size, (ByteArray.mk x.toArray)[k]'h = b := by
        intro h
        obtain ⟨h1, h2⟩ := List.getElem?_eq_some_iff.1 hb
        rw [← h2]; rfl
      have hbn := b.toNat_lt
      have HL := Lib.hid (letter_iff b)
      have HB := Lib.hid hb
      clear hb
      by_cases h97 : (b.toNat : Int) < 97
      · have HF := Lib.hid (show letter b = false by rw [HL.out]; simp; omega)
        go_wp2
        go_ret
        exact ⟨ret_bool (rightOk_bad HB.out HF.out).symm, rfl⟩
      · by_cases h99 : (99 : Int) < (b.toNat : Int)
        · have HF := Lib.hid (show letter b = false by rw [HL.out]; simp; omega)
          go_wp2
          go_ret
          exact ⟨ret_bool (rightOk_bad HB.out HF.out).symm, rfl⟩
        · have HT := Lib.hid (show letter b = true by rw [HL.out]; simp; omega)
          go_wp2
          go_round
          case rel => exact ⟨k + 1, by omega, by go_num, all_take_succ HB.out hal.out HT.out⟩
          case measure => simp [intOf]; omega
    · go_wp2
      go_ret
      exact ⟨ret_bool (by rw [rightOk_good (by have := HN.out; omega) hal.out, ← HN.out]; first | rfl | (simp; try omega)), rfl⟩

theorem cov_extract {a b : Txt} (h : a.length ≤ b.length) : (((ByteArray.mk b.toArray).extract 0 a.length).toList == a) = covB a b := by
  rw [Lib.extract_toList]
  simp only [Nat.sub_zero, List.drop_zero]
  rw [Bool.eq_iff_iff, beq_iff_eq, cov_iff]
  constructor
  · intro h1; exact ⟨b.drop a.length, by conv => lhs; rw [← List.take_append_drop a.length b, h1]⟩
  · rintro ⟨c, rfl⟩; simp

theorem l11Covers_c (a b : Txt) (w : World) (ha : a.length ≤ 9223372036854775807) (hb : b.length ≤ 9223372036854775807) : Calls Tryz.prog 153 #[tv a, tv b] w fun e w' => e = .returned (.bool (covB a b)) ∧ w = w' := by
  have hza := tv_size a
  have hzb := tv_size b
  by_cases hl : a.length ≤ b.length
  · go_enter Tryz.func153, Tryz.ntmps153
    go_wp2
    go_ret
    exact ⟨ret_bool (cov_extract hl), rfl⟩
  · go_enter Tryz.func153, Tryz.ntmps153
    go_wp2
    go_ret
    exact ⟨ret_bool (by rw [eq_comm, ← Bool.not_eq_true]; intro h; obtain ⟨c, rfl⟩ := cov_iff.1 h; simp at hl), rfl⟩
end Go.Proofs.YtojknkpjnchchaaGreatDoor
