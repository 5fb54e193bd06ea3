/- Bundles of slices of slices: stores into a row, and rows that are cut. No conditions. -/
import Derived.Test.YtojknkpjnchchaaGreatDoorTabB
namespace Go.Proofs.YtojknkpjnchchaaGreatDoor
open Go.ChangeShapes Go.WideShapes Go.RowKit
set_option linter.all false
set_option maxRecDepth 100000
attribute [local go_sem ↓] Go.wp_at_zero Go.wp_at_succ

abbrev rowS (v : Value) (ss : List Sl) : Res := Res.row encL 1 41 v ss
abbrev rowI (v : Value) (xs : List Int) : Res := Res.row encI 1 3 v xs
abbrev rowsI (ss : List Sl) (xss : List (List Int)) : Res := Res.rows encI 1 3 ss xss

theorem InO.take {α : Type} {enc : α → List Value} {K : Nat} {e : TypeId} {lo hi : Nat} {w : World} {ss : List Sl} {xss : List (List α)} (hin : InO enc K e lo hi w ss xss) (i : Nat) : InO enc K e lo hi w (ss.take i) (xss.take i) := by
  refine ⟨by simp [hin.len], fun k s xs a b => ?_, fun k j s t a b hkj => ?_⟩
  · rw [List.getElem?_take] at a b
    by_cases h : k < i
    · rw [if_pos h] at a b; exact hin.row k s xs a b
    · rw [if_neg h] at a; simp at a
  · rw [List.getElem?_take] at a b
    by_cases h : k < i <;> by_cases h' : j < i
    · rw [if_pos h] at a; rw [if_pos h'] at b; exact hin.apart k j s t a b hkj
    · rw [if_neg h'] at b; simp at b
    · rw [if_neg h] at a; simp at a
    · rw [if_neg h] at a; simp at a

section
variable {w0 w : World} {row : Option Nat} {rs : List Res}

/-- The first rows of a slice of slices. -/
theorem Bun.cutRows {g n c i : Nat} {ss : List Sl} {xss : List (List Int)} (h : Bun w0 row w (rowS (.slice (some ⟨g, 0, none⟩) n c) ss :: rowsI ss xss :: rs)) (hi : i ≤ n) :
    Bun w0 row w (rowS (.slice (some ⟨g, 0, none⟩) i c) (ss.take i) :: rowsI (ss.take i) (xss.take i) :: rs) := by
  have h1 : Bun w0 row w (rowS (.slice (some ⟨g, 0, none⟩) i c) (ss.take i) :: rowsI ss xss :: rs) := h.recast (OwT.cut encL_len (h.get 0 rfl : OwT encL 1 41 0 w (.slice (some ⟨g, 0, none⟩) n c) ss) hi) (fun k hk => hk)
  have h2 := h1.front 1 rfl
  have hin : InO encI 1 3 0 w.heap.size w ss xss := h.get 1 rfl
  have h3 := h2.mod (Chs.of_below (bref w)) (rowsI (ss.take i) (xss.take i)) (hin.take i) (fun k ⟨s, hs, hk⟩ => .inl ⟨s, List.mem_of_mem_take hs, hk⟩) (fun k ⟨s, hs, hk⟩ => .inl ⟨s, List.mem_of_mem_take hs, hk⟩)
  exact h3.front 1 rfl

/-- What a walk asks of a row of a slice of owned slices. -/
theorem Bun.inner {ss : List Sl} {xss : List (List Int)} {i k : Nat} {s : Sl} {ws : List Int} (h : Bun w0 row w rs) (hi : rs[i]? = some (rowsI ss xss)) (hs : ss[k]? = some s) (hw : xss[k]? = some ws) (hne : ws ≠ []) :
    ∃ g c, s = (some ⟨g, 0, none⟩, ws.length, c) ∧ ws.length ≤ c ∧ c ≤ maxLen ∧ g < w.heap.size ∧ (∀ j, w.frozen? ⟨g, j, none⟩ = false) ∧ ∀ j x, ws[j]? = some x → w.cell? ⟨g, j, none⟩ = some (.int .i64 x) := by
  have hin : InO encI 1 3 0 w.heap.size w ss xss := h.get i hi
  have ho := (hin.row k s ws hs hw).1
  rcases ho.2 with ⟨hv, hz⟩ | ⟨g, c, cur, hv, -⟩
  · exact absurd (List.eq_nil_of_length_eq_zero hz) hne
  · obtain ⟨a, n, c'⟩ := s
    simp only [slv, Value.slice.injEq] at hv
    obtain ⟨rfl, rfl, rfl⟩ := hv
    obtain ⟨-, -, h3, h4, h5, h6, h7⟩ := OwT.open encI_len ho
    refine ⟨g, c', rfl, h4, h5, h3, h6, fun j x hx => ?_⟩
    have := h7 j x 0 _ hx rfl
    simpa using this

/-- A store into a row. -/
theorem Bun.storeRow {ss : List Sl} {xss : List (List Int)} {k j g n c : Nat} {ws : List Int} (h : Bun w0 row w (rowsI ss xss :: rs)) (hs : ss[k]? = some (some ⟨g, 0, none⟩, n, c)) (hw : xss[k]? = some ws) (hj : j < ws.length) (x : Int) :
    Bun w0 row (w.setCell ⟨g, j, none⟩ (.int .i64 x)) (rowsI ss (xss.set k (ws.set j x)) :: rs) := by
  have hin : InO encI 1 3 0 w.heap.size w ss xss := h.get 0 rfl
  have ho := (hin.row k _ ws hs hw).1
  have ho2 : OwT encI 1 3 0 (w.setCell ⟨g, j, none⟩ (.int .i64 x)) (slv (some ⟨g, 0, none⟩, n, c)) (ws.set j x) := OwT.stored1 encI_len ho j x (.int .i64 x) hj rfl
  have hi2 := hin.mod hs ho2 (fun q hq => by
    have : g = q := by simpa [slv, Value.ownBlock] using hq
    subst this
    exact grown_set (World.grownBy.refl _ _) _ _) (fun hq => by simp [slv, Value.ownBlock] at hq)
  refine h.mod (Chs.set w ⟨g, j, none⟩ _ ⟨_, List.mem_of_getElem? hs, rfl⟩) (rowsI ss (xss.set k (ws.set j x))) ?_ (fun _ h => .inl h) (fun _ h => .inl h)
  exact hi2.mono (Nat.le_refl _) (by simp)

/-- A row that is cut, and stored anew. -/
theorem Bun.cutRow {ss : List Sl} {xss : List (List Int)} {G N C k g n c q : Nat} {ws : List Int} (h : Bun w0 row w (rowS (.slice (some ⟨G, 0, none⟩) N C) ss :: rowsI ss xss :: rs)) (hs : ss[k]? = some (some ⟨g, 0, none⟩, n, c)) (hw : xss[k]? = some ws) (hq : q ≤ n) :
    Bun w0 row (w.setCell ⟨G, k, none⟩ (.slice (some ⟨g, 0, none⟩) q c)) (rowS (.slice (some ⟨G, 0, none⟩) N C) (ss.set k (some ⟨g, 0, none⟩, q, c)) :: rowsI (ss.set k (some ⟨g, 0, none⟩, q, c)) (xss.set k (ws.take q)) :: rs) := by
  have ho : OwT encL 1 41 0 w (.slice (some ⟨G, 0, none⟩) N C) ss := h.get 0 rfl
  have hk : k < ss.length := (List.getElem?_eq_some_iff.1 hs).1
  have h1 : Bun w0 row (w.setCell ⟨G, k, none⟩ (.slice (some ⟨g, 0, none⟩) q c)) (rowS (.slice (some ⟨G, 0, none⟩) N C) (ss.set k (some ⟨g, 0, none⟩, q, c)) :: rowsI ss xss :: rs) :=
    h.mod (Chs.set w ⟨G, k, none⟩ _ (by exact (rfl : (some G : Option Nat) = some G))) (rowS (.slice (some ⟨G, 0, none⟩) N C) (ss.set k (some ⟨g, 0, none⟩, q, c))) (OwT.stored1 encL_len ho k (some ⟨g, 0, none⟩, q, c) _ hk rfl) (fun _ h => .inl h) (fun _ h => .inl h)
  have hin : InO encI 1 3 0 (w.setCell ⟨G, k, none⟩ (.slice (some ⟨g, 0, none⟩) q c)).heap.size (w.setCell ⟨G, k, none⟩ (.slice (some ⟨g, 0, none⟩) q c)) ss xss := h1.get 1 rfl
  have hof := hin.row k _ ws hs hw
  have hcut : OwF encI 1 3 0 (w.setCell ⟨G, k, none⟩ (.slice (some ⟨g, 0, none⟩) q c)).heap.size (w.setCell ⟨G, k, none⟩ (.slice (some ⟨g, 0, none⟩) q c)) (slv (some ⟨g, 0, none⟩, q, c)) (ws.take q) := ⟨OwT.cut encI_len hof.1 hq, fun b hb => hof.2 b hb⟩
  have back : ∀ (i : Nat) (t : Sl), (ss.set k (some ⟨g, 0, none⟩, q, c))[i]? = some t → ∃ t', ss[i]? = some t' ∧ (slv t).ownBlock = (slv t').ownBlock := by
    intro i t ht
    rw [List.getElem?_set] at ht
    by_cases hki : k = i
    · subst hki
      rw [if_pos rfl, if_pos hk] at ht
      simp only [Option.some.injEq] at ht
      subst ht
      exact ⟨_, hs, rfl⟩
    · rw [if_neg hki] at ht; exact ⟨t, ht, rfl⟩
  have hin2 : InO encI 1 3 0 (w.setCell ⟨G, k, none⟩ (.slice (some ⟨g, 0, none⟩) q c)).heap.size (w.setCell ⟨G, k, none⟩ (.slice (some ⟨g, 0, none⟩) q c)) (ss.set k (some ⟨g, 0, none⟩, q, c)) (xss.set k (ws.take q)) := by
    refine ⟨by simp [hin.len], fun i t ys a b => ?_, fun i j t u a b hij b' hb' => ?_⟩
    · rw [List.getElem?_set] at a b
      by_cases hki : k = i
      · subst hki
        rw [if_pos rfl] at a b
        rw [if_pos hk] at a
        rw [if_pos (by rw [← hin.len]; exact hk)] at b
        simp only [Option.some.injEq] at a b
        subst a; subst b
        exact hcut
      · rw [if_neg hki] at a b
        exact hin.row i t ys a b
    · obtain ⟨t', ht', e1⟩ := back i t a
      obtain ⟨u', hu', e2⟩ := back j u b
      rw [e2]
      exact hin.apart i j t' u' ht' hu' hij b' (e1 ▸ hb')
  have h2 := (h1.front 1 rfl).mod (Chs.of_below (bref _)) (rowsI (ss.set k (some ⟨g, 0, none⟩, q, c)) (xss.set k (ws.take q))) hin2 (fun b ⟨t, ht, hb⟩ => by
    obtain ⟨i, hi⟩ := List.getElem?_of_mem ht
    obtain ⟨t', ht', e⟩ := back i t hi
    exact .inl ⟨t', List.mem_of_getElem? ht', e ▸ hb⟩) (fun b ⟨t, ht, hb⟩ => by
    obtain ⟨i, hi⟩ := List.getElem?_of_mem ht
    obtain ⟨t', ht', e⟩ := back i t hi
    exact .inl ⟨t', List.mem_of_getElem? ht', e ▸ hb⟩)
  exact h2.front 1 rfl
end
end Go.Proofs.YtojknkpjnchchaaGreatDoor
