/- Slices of slices: readable, and owned with distinct rows. No conditions. -/
import Derived.Test.YtojknkpjnchchaaDoorLibC
namespace Go.Proofs.YtojknkpjnchchaaDoor
open Go.ChangeShapes Go.WideShapes Go.RowKit
set_option linter.all false
set_option maxRecDepth 100000

/-- The words of a slice: where it lies, how long it is, how long it may be. -/
abbrev Sl := Option Addr × Nat × Nat
def slv (s : Sl) : Value := .slice s.1 s.2.1 s.2.2
def encL (s : Sl) : List Value := [slv s]
def slN : Sl := (none, 0, 0)
theorem encL_len (s : Sl) : (encL s).length = 1 := rfl

section
variable {α : Type} {enc : α → List Value} {K : Nat} {e eo : TypeId}

theorem RdT.sl {w : World} {v : Value} {xs : List α} (h : RdT enc K w v xs) : ∃ s : Sl, v = slv s := by
  obtain ⟨a, c, rfl, -⟩ := h
  exact ⟨(a, xs.length, c), rfl⟩

/-- Rows that can be read. -/
def InR (enc : α → List Value) (K : Nat) (w : World) (rows : List Sl) (xss : List (List α)) : Prop :=
  rows.length = xss.length ∧ ∀ (k : Nat) (s : Sl) (xs : List α), rows[k]? = some s → xss[k]? = some xs → RdT enc K w (slv s) xs
/-- A slice of slices that can be read. -/
def RdN (enc : α → List Value) (K : Nat) (w : World) (v : Value) (xss : List (List α)) : Prop :=
  ∃ rows : List Sl, RdT encL 1 w v rows ∧ InR enc K w rows xss

theorem InR.below {w w' : World} {rows : List Sl} {xss : List (List α)} (h : InR enc K w rows xss) (hb : Below w.heap.size w w') : InR enc K w' rows xss :=
  ⟨h.1, fun k s xs h1 h2 => (h.2 k s xs h1 h2).below hb⟩
theorem RdN.below {w w' : World} {v : Value} {xss : List (List α)} (h : RdN enc K w v xss) (hb : Below w.heap.size w w') : RdN enc K w' v xss := by
  obtain ⟨rows, h1, h2⟩ := h
  exact ⟨rows, h1.below hb, h2.below hb⟩
theorem InR.get {w : World} {rows : List Sl} {xss : List (List α)} (h : InR enc K w rows xss) {k : Nat} {xs : List α} (hk : xss[k]? = some xs) : ∃ s, rows[k]? = some s ∧ RdT enc K w (slv s) xs := by
  have hlt : k < rows.length := by rw [h.1]; exact (List.getElem?_eq_some_iff.1 hk).1
  exact ⟨rows[k], List.getElem?_eq_getElem hlt, h.2 k _ _ (List.getElem?_eq_getElem hlt) hk⟩

/-- Rows that are owned, in blocks of their own. -/
structure InO (enc : α → List Value) (K : Nat) (e : TypeId) (lo hi : Nat) (w : World) (rows : List Sl) (xss : List (List α)) : Prop where
  len : rows.length = xss.length
  row : ∀ (k : Nat) (s : Sl) (xs : List α), rows[k]? = some s → xss[k]? = some xs → OwF enc K e lo hi w (slv s) xs
  apart : ∀ (i j : Nat) (s t : Sl), rows[i]? = some s → rows[j]? = some t → i ≠ j → ∀ b, (slv s).ownBlock = some b → (slv t).ownBlock ≠ some b

/-- An owned slice of owned slices. -/
def OwN (enc : α → List Value) (K : Nat) (e eo : TypeId) (lo hi : Nat) (w : World) (v : Value) (xss : List (List α)) : Prop :=
  ∃ rows : List Sl, OwF encL 1 eo lo hi w v rows ∧ InO enc K e lo hi w rows xss

theorem OwF.nil (lo hi : Nat) (w : World) : OwF enc K e lo hi w (.slice none 0 0) ([] : List α) :=
  ⟨World.ownsRow_nil _ _ _ _, by simp [Value.ownBlock]⟩
theorem OwF.mono {lo hi lo' hi' : Nat} {w : World} {v : Value} {xs : List α} (h : OwF enc K e lo hi w v xs) (h1 : lo' ≤ lo) (h2 : hi ≤ hi') : OwF enc K e lo' hi' w v xs :=
  ⟨h.1.mono h1, fun k hk => by have := h.2 k hk; omega⟩
/-- Every block but one reads as before: an owned row in another block stays. -/
theorem OwF.stay {lo hi : Nat} {w w' : World} {v : Value} {xs : List α} (h : OwF enc K e lo hi w v xs) (hk : ∀ g, v.ownBlock = some g → w'.heap[g]? = w.heap[g]?) : OwF enc K e lo hi w' v xs := by
  obtain ⟨⟨h1, h2⟩, h3⟩ := h
  refine ⟨⟨h1, ?_⟩, h3⟩
  rcases h2 with h2 | ⟨g, cap, cur, hv, hg, hh, r⟩
  · exact .inl h2
  · exact .inr ⟨g, cap, cur, hv, hg, (hk g (by rw [hv]; rfl)).trans hh, r⟩
/-- Owned rows of two types lie in two blocks. -/
theorem OwF.other {β : Type} {encb : β → List Value} {Kb : Nat} {lo hi lo' hi' : Nat} {w : World} {v u : Value} {xs : List α} {ys : List β} (hne : e ≠ eo) (h : OwF enc K e lo hi w v xs) (h' : OwF encb Kb eo lo' hi' w u ys)
    (g : Nat) (hv : v.ownBlock = some g) : u.ownBlock ≠ some g := by
  intro hu
  obtain ⟨⟨-, h2⟩, -⟩ := h
  obtain ⟨⟨-, h3⟩, -⟩ := h'
  rcases h2 with ⟨rfl, -⟩ | ⟨g1, c1, cur1, rfl, -, hh1, -⟩
  · simp [Value.ownBlock] at hv
  rcases h3 with ⟨rfl, -⟩ | ⟨g2, c2, cur2, rfl, -, hh2, -⟩
  · simp [Value.ownBlock] at hu
  simp only [Value.ownBlock, Option.some.injEq] at hv hu
  subst hv; subst hu
  rw [hh1] at hh2
  simp only [Option.some.injEq, Obj.cells.injEq] at hh2
  exact hne hh2.2.1
theorem OwF.lt {lo hi : Nat} {w : World} {v : Value} {xs : List α} (h : OwF enc K e lo hi w v xs) (g : Nat) (hg : v.ownBlock = some g) : lo ≤ g ∧ g < hi ∧ g < w.heap.size :=
  ⟨(h.2 g hg).1, (h.2 g hg).2, (World.ownsRow.lt h.1 g hg).2⟩

theorem InO.get {lo hi : Nat} {w : World} {rows : List Sl} {xss : List (List α)} (h : InO enc K e lo hi w rows xss) {k : Nat} {xs : List α} (hk : xss[k]? = some xs) : ∃ s, rows[k]? = some s ∧ OwF enc K e lo hi w (slv s) xs := by
  have hlt : k < rows.length := by rw [h.len]; exact (List.getElem?_eq_some_iff.1 hk).1
  exact ⟨rows[k], List.getElem?_eq_getElem hlt, h.row k _ _ (List.getElem?_eq_getElem hlt) hk⟩
theorem InO.rget {lo hi : Nat} {w : World} {rows : List Sl} {xss : List (List α)} (h : InO enc K e lo hi w rows xss) {k : Nat} {s : Sl} (hk : rows[k]? = some s) : ∃ xs, xss[k]? = some xs ∧ OwF enc K e lo hi w (slv s) xs := by
  have hlt : k < xss.length := by rw [← h.len]; exact (List.getElem?_eq_some_iff.1 hk).1
  exact ⟨xss[k], List.getElem?_eq_getElem hlt, h.row k _ _ hk (List.getElem?_eq_getElem hlt)⟩
theorem InO.rd {lo hi : Nat} {w : World} {rows : List Sl} {xss : List (List α)} (hK : ∀ x, (enc x).length = K) (h : InO enc K e lo hi w rows xss) : InR enc K w rows xss :=
  ⟨h.len, fun k s xs h1 h2 => (h.row k s xs h1 h2).rd hK⟩
theorem InO.keep {lo hi lo' hi' : Nat} {w w' : World} {rows : List Sl} {xss : List (List α)} (h : InO enc K e lo hi w rows xss) (c : Chg lo' hi' w w') (d : hi ≤ lo' ∨ hi' ≤ lo) : InO enc K e lo hi w' rows xss :=
  ⟨h.len, fun k s xs h1 h2 => (h.row k s xs h1 h2).keep c d, h.apart⟩
theorem InO.stay {lo hi : Nat} {w w' : World} {rows : List Sl} {xss : List (List α)} (h : InO enc K e lo hi w rows xss) (hk : ∀ s g, s ∈ rows → (slv s).ownBlock = some g → w'.heap[g]? = w.heap[g]?) : InO enc K e lo hi w' rows xss :=
  ⟨h.len, fun k s xs h1 h2 => (h.row k s xs h1 h2).stay (fun g hg => hk s g (List.mem_of_getElem? h1) hg), h.apart⟩
theorem InO.mono {lo hi lo' hi' : Nat} {w : World} {rows : List Sl} {xss : List (List α)} (h : InO enc K e lo hi w rows xss) (h1 : lo' ≤ lo) (h2 : hi ≤ hi') : InO enc K e lo' hi' w rows xss :=
  ⟨h.len, fun k s xs a b => (h.row k s xs a b).mono h1 h2, h.apart⟩
theorem InO.lt {lo hi : Nat} {w : World} {rows : List Sl} {xss : List (List α)} (h : InO enc K e lo hi w rows xss) {s : Sl} {g : Nat} (hs : s ∈ rows) (hg : (slv s).ownBlock = some g) : lo ≤ g ∧ g < hi ∧ g < w.heap.size := by
  obtain ⟨k, hk⟩ := List.getElem?_of_mem hs
  obtain ⟨xs, -, ho⟩ := h.rget hk
  exact ho.lt g hg
theorem InO.empty (lo hi : Nat) (w : World) : InO enc K e lo hi w [] ([] : List (List α)) :=
  ⟨rfl, fun k s xs h => by simp at h, fun i j s t h => by simp at h⟩
theorem rep {β : Type} {n k : Nat} {x y : β} (h : (List.replicate n x)[k]? = some y) : y = x := List.eq_of_mem_replicate (List.mem_of_getElem? h)
/-- Rows of nil. -/
theorem InO.nils (lo hi n : Nat) (w : World) : InO enc K e lo hi w (List.replicate n slN) (List.replicate n ([] : List α)) := by
  refine ⟨by simp, fun k s xs h1 h2 => ?_, fun i j s t h1 h2 _ b hb => ?_⟩
  · obtain rfl := rep h1
    obtain rfl := rep h2
    exact OwF.nil _ _ _
  · obtain rfl := rep h1
    simp [slv, slN, Value.ownBlock] at hb
/-- One row more, in a block of its own. -/
theorem InO.snoc {lo hi lo' hi' : Nat} {w : World} {rows : List Sl} {xss : List (List α)} {s : Sl} {xs : List α} (h : InO enc K e lo hi w rows xss) (hs : OwF enc K e lo' hi' w (slv s) xs) (h1 : hi ≤ lo') (h2 : lo ≤ lo') (h3 : hi ≤ hi') :
    InO enc K e lo hi' w (rows ++ [s]) (xss ++ [xs]) := by
  refine ⟨by simp [h.len], fun k t ys a b => ?_, fun i j t u a b hij g hg => ?_⟩
  · rw [List.getElem?_append] at a b
    by_cases hk : k < rows.length
    · rw [if_pos hk] at a
      rw [if_pos (by rw [← h.len]; exact hk)] at b
      exact (h.row k t ys a b).mono (Nat.le_refl _) h3
    · rw [if_neg hk] at a
      rw [if_neg (by rw [← h.len]; exact hk)] at b
      have hz : k - rows.length = 0 := by
        have := (List.getElem?_eq_some_iff.1 a).1
        simp at this; omega
      have hz2 : k - xss.length = 0 := by rw [← h.len]; exact hz
      rw [hz] at a
      rw [hz2] at b
      simp at a b
      subst a; subst b
      exact hs.mono h2 (Nat.le_refl _)
  · rw [List.getElem?_append] at a b
    have inl : ∀ (k : Nat) (r : Sl), k < rows.length → rows[k]? = some r → ∀ b, (slv r).ownBlock = some b → b < hi := fun k r _ hr b hb => (h.lt (List.mem_of_getElem? hr) hb).2.1
    have inr : ∀ b, (slv s).ownBlock = some b → lo' ≤ b := fun b hb => (hs.2 b hb).1
    have last : ∀ (k : Nat) (r : Sl), ¬ k < rows.length → [s][k - rows.length]? = some r → r = s ∧ k = rows.length := by
      intro k r hk hr
      have hz : k - rows.length = 0 := by
        have := (List.getElem?_eq_some_iff.1 hr).1
        simp at this; omega
      rw [hz] at hr
      simp at hr
      exact ⟨hr.symm, by omega⟩
    by_cases hi1 : i < rows.length <;> by_cases hj1 : j < rows.length
    · rw [if_pos hi1] at a; rw [if_pos hj1] at b
      exact h.apart i j t u a b hij g hg
    · rw [if_pos hi1] at a; rw [if_neg hj1] at b
      obtain ⟨rfl, -⟩ := last j u hj1 b
      intro hc
      have := inl i t hi1 a g hg
      have := inr g hc
      omega
    · rw [if_neg hi1] at a; rw [if_pos hj1] at b
      obtain ⟨rfl, -⟩ := last i t hi1 a
      intro hc
      have := inl j u hj1 b g hc
      have := inr g hg
      omega
    · rw [if_neg hi1] at a; rw [if_neg hj1] at b
      obtain ⟨-, e1⟩ := last i t hi1 a
      obtain ⟨-, e2⟩ := last j u hj1 b
      omega
/-- One row is another, in a block of its own. -/
theorem InO.put {lo hi lo' hi' : Nat} {w : World} {rows : List Sl} {xss : List (List α)} {s : Sl} {xs : List α} (h : InO enc K e lo hi w rows xss) (hs : OwF enc K e lo' hi' w (slv s) xs) (h1 : hi ≤ lo' ∨ (slv s).ownBlock = none) (h2 : lo ≤ lo') (h3 : hi ≤ hi') (k : Nat) :
    InO enc K e lo hi' w (rows.set k s) (xss.set k xs) := by
  have hl := h.len
  refine ⟨by simp [h.len], fun i t ys a b => ?_, fun i j t u a b hij g hg => ?_⟩
  · rw [List.getElem?_set] at a b
    by_cases hk : k = i
    · subst hk
      rw [if_pos rfl] at a b
      split at a
      · split at b
        · simp only [Option.some.injEq] at a b
          subst a; subst b
          exact hs.mono h2 (Nat.le_refl _)
        · simp at b
      · simp at a
    · rw [if_neg hk] at a b
      exact (h.row i t ys a b).mono (Nat.le_refl _) h3
  · rw [List.getElem?_set] at a b
    have inl : ∀ (k : Nat) (r : Sl), rows[k]? = some r → ∀ b, (slv r).ownBlock = some b → b < hi := fun k r hr b hb => (h.lt (List.mem_of_getElem? hr) hb).2.1
    have inr : ∀ b, (slv s).ownBlock = some b → hi ≤ b := fun b hb => by
      rcases h1 with h1 | h1
      · exact Nat.le_trans h1 (hs.2 b hb).1
      · rw [h1] at hb; simp at hb
    by_cases hi1 : k = i <;> by_cases hj1 : k = j
    · omega
    · rw [if_pos hi1] at a; rw [if_neg hj1] at b
      split at a
      · simp only [Option.some.injEq] at a
        subst a
        intro hc
        have := inl j u b g hc
        have := inr g hg
        omega
      · simp at a
    · rw [if_neg hi1] at a; rw [if_pos hj1] at b
      split at b
      · simp only [Option.some.injEq] at b
        subst b
        intro hc
        have := inl i t a g hg
        have := inr g hc
        omega
      · simp at b
    · rw [if_neg hi1] at a; rw [if_neg hj1] at b
      exact h.apart i j t u a b hij g hg

theorem OwN.rd {lo hi : Nat} {w : World} {v : Value} {xss : List (List α)} (hK : ∀ x, (enc x).length = K) (h : OwN enc K e eo lo hi w v xss) : RdN enc K w v xss := by
  obtain ⟨rows, h1, h2⟩ := h
  exact ⟨rows, h1.rd encL_len, h2.rd hK⟩
theorem OwN.keep {lo hi lo' hi' : Nat} {w w' : World} {v : Value} {xss : List (List α)} (h : OwN enc K e eo lo hi w v xss) (c : Chg lo' hi' w w') (d : hi ≤ lo' ∨ hi' ≤ lo) : OwN enc K e eo lo hi w' v xss := by
  obtain ⟨rows, h1, h2⟩ := h
  exact ⟨rows, h1.keep c d, h2.keep c d⟩
theorem OwN.mono {lo hi lo' hi' : Nat} {w : World} {v : Value} {xss : List (List α)} (h : OwN enc K e eo lo hi w v xss) (h1 : lo' ≤ lo) (h2 : hi ≤ hi') : OwN enc K e eo lo' hi' w v xss := by
  obtain ⟨rows, a, b⟩ := h
  exact ⟨rows, a.mono h1 h2, b.mono h1 h2⟩
theorem OwN.below {lo hi : Nat} {w w' : World} {v : Value} {xss : List (List α)} (h : OwN enc K e eo lo hi w v xss) (hb : Below w.heap.size w w') : OwN enc K e eo lo hi w' v xss :=
  h.keep (Chg.of_below hb) (.inr (Nat.zero_le _))

/-- A store of an owned row into the outer slice. -/
theorem OwN.stored {lo hi lo' hi' g n c : Nat} {w : World} {xss : List (List α)} {s : Sl} {xs : List α} (hne : e ≠ eo) (h : OwN enc K e eo lo hi w (.slice (some ⟨g, 0, none⟩) n c) xss)
    (hs : OwF enc K e lo' hi' w (slv s) xs) (h1 : hi ≤ lo' ∨ (slv s).ownBlock = none) (h2 : lo ≤ lo') (h3 : hi ≤ hi') (k : Nat) (hk : k < xss.length) :
    OwN enc K e eo lo hi' (w.setCell ⟨g, k, none⟩ (slv s)) (.slice (some ⟨g, 0, none⟩) n c) (xss.set k xs) := by
  obtain ⟨rows, a, b⟩ := h
  have hg : g < hi := (a.2 g rfl).2
  have old : ∀ t : Sl, ∀ b', (slv t).ownBlock = some b' → b' ≠ g → (w.setCell ⟨g, k, none⟩ (slv s)).heap[b']? = w.heap[b']? := fun t b' _ hn => Below.heap_setCell w _ _ _ hn
  have hs' : OwF enc K e lo' hi' (w.setCell ⟨g, k, none⟩ (slv s)) (slv s) xs := by
    refine hs.stay fun b' hb' => Below.heap_setCell w _ _ _ ?_
    intro he
    subst he
    exact hs.other hne a b' hb' rfl
  have b' : InO enc K e lo hi (w.setCell ⟨g, k, none⟩ (slv s)) rows xss := by
    refine b.stay fun t b' ht hb' => Below.heap_setCell w _ _ _ ?_
    intro he
    subst he
    obtain ⟨i, hi⟩ := List.getElem?_of_mem ht
    obtain ⟨ys, -, ho⟩ := b.rget hi
    exact ho.other hne a b' hb' rfl
  refine ⟨rows.set k s, ⟨a.1.stored1 encL_len k s (slv s) (by rw [b.len]; exact hk) rfl, fun b' hb' => ?_⟩, b'.put hs' h1 h2 h3 k⟩
  have := a.2 b' hb'
  omega

/-- One row is changed in its place. -/
theorem InO.mod {lo hi : Nat} {w w' : World} {rows : List Sl} {xss : List (List α)} {s : Sl} {xs : List α} {k : Nat} (h : InO enc K e lo hi w rows xss) (hk : rows[k]? = some s) (hs : OwT enc K e lo w' (slv s) xs)
    (h1 : ∀ g, (slv s).ownBlock = some g → w.grownBy w' (some g)) (h2 : (slv s).ownBlock = none → w = w') : InO enc K e lo hi w' rows (xss.set k xs) := by
  obtain ⟨ys, hys, ho⟩ := h.rget hk
  refine ⟨by simp [h.len], fun i t zs a b => ?_, h.apart⟩
  rw [List.getElem?_set] at b
  by_cases hki : k = i
  · subst hki
    rw [if_pos rfl] at b
    rw [hk] at a
    split at b
    · simp only [Option.some.injEq] at a b
      subst a; subst b
      exact ⟨hs, ho.2⟩
    · simp at b
  · rw [if_neg hki] at b
    have hr := h.row i t zs a b
    cases hv : (slv s).ownBlock with
    | none => rw [← h2 hv]; exact hr
    | some g =>
      refine hr.stay fun g' hg' => (h1 g hv).block g' (hr.lt g' hg').2.2 ?_
      intro he
      simp at he
      subst he
      exact h.apart i k t s a hk (fun e => hki e.symm) _ hg' hv
theorem OwN.mod {lo hi : Nat} {w w' : World} {v : Value} {rows : List Sl} {xss : List (List α)} {s : Sl} {xs : List α} {k : Nat} (hne : e ≠ eo) (h0 : OwF encL 1 eo lo hi w v rows) (h : InO enc K e lo hi w rows xss) (hk : rows[k]? = some s) (hs : OwT enc K e lo w' (slv s) xs)
    (h1 : ∀ g, (slv s).ownBlock = some g → w.grownBy w' (some g)) (h2 : (slv s).ownBlock = none → w = w') : OwF encL 1 eo lo hi w' v rows ∧ InO enc K e lo hi w' rows (xss.set k xs) ∧ Chg lo hi w w' := by
  obtain ⟨ys, hys, ho⟩ := h.rget hk
  refine ⟨?_, h.mod hk hs h1 h2, Chg.of_mark ho.2 h1 h2⟩
  cases hv : (slv s).ownBlock with
  | none => rw [← h2 hv]; exact h0
  | some g =>
    refine h0.stay fun g' hg' => (h1 g hv).block g' (h0.lt g' hg').2.2 ?_
    intro he
    simp at he
    subst he
    exact ho.other hne h0 _ hv hg'
end
end Go.Proofs.YtojknkpjnchchaaDoor
