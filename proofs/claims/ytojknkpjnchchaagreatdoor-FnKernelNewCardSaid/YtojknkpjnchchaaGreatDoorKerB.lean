/- Environments: slices of rights and a number, readable and owned. No conditions. -/
import Derived.Test.YtojknkpjnchchaaGreatDoorKerA
import Derived.Test.YtojknkpjnchchaaGreatDoorGInfo
namespace Go.Proofs.YtojknkpjnchchaaGreatDoor
open Go.ChangeShapes Go.WideShapes Go.RowKit
set_option linter.all false
set_option maxRecDepth 100000
attribute [local go_sem ↓] Go.wp_at_zero Go.wp_at_succ

structure Env where
  rg : List Txt
  rt : Int
deriving DecidableEq
/-- An environment in its slice's words. -/
abbrev Es := Sl × Int
def encE (x : Es) : List Value := [slv x.1, .int .i64 x.2]
theorem encE_len (x : Es) : (encE x).length = 2 := rfl
def esN : Es := (slN, 0)
theorem infoEnv : (Tryz.prog.info? 55).map (fun i => (i.zero, i.size, i.bytes)) = some (some (.agg #[.slice none 0 0, .int .i64 0]), 2, 32) := by kernel_rfl
theorem eltEnv : Elt Tryz.prog encE 2 55 31 esN := by
  obtain ⟨i0, hi, hz0, hz1, hz2⟩ := info_parts infoEnv
  refine ⟨encE_len, by decide, ?_, Tryz.underlying31, i0, _, hi, hz0, hz1, by omega, rfl⟩
  intro x u hu
  simp [encE] at hu
  rcases hu with rfl | rfl <;> rfl
theorem neEs : 9 ≠ 55 := by decide

/-- Environments that can be read. -/
def RdE (w : World) (v : Value) (envs : List Env) : Prop :=
  ∃ rows : List Es, RdT encE 2 w v rows ∧ InR encS 1 w (rows.map (·.1)) (envs.map (·.rg)) ∧ rows.map (·.2) = envs.map (·.rt)
theorem RdE.below {w w' : World} {v : Value} {envs : List Env} (h : RdE w v envs) (hb : Below w.heap.size w w') : RdE w' v envs := by
  obtain ⟨rows, h1, h2, h3⟩ := h
  exact ⟨rows, h1.below hb, h2.below hb, h3⟩
theorem getE {w : World} {rows : List Es} {envs : List Env} (hin : InR encS 1 w (rows.map (·.1)) (envs.map (·.rg))) (hrt : rows.map (·.2) = envs.map (·.rt)) {k : Nat} {e : Env} (hk : envs[k]? = some e) :
    ∃ s : Sl, rows[k]? = some (s, e.rt) ∧ RdS w (slv s) e.rg := by
  have hl : rows.length = envs.length := by have := hin.1; simpa using this
  have hlt : k < rows.length := by rw [hl]; exact (List.getElem?_eq_some_iff.1 hk).1
  have h1 : rows[k]? = some rows[k] := List.getElem?_eq_getElem hlt
  have h2 : (rows.map (·.2))[k]? = (envs.map (·.rt))[k]? := by rw [hrt]
  rw [List.getElem?_map, List.getElem?_map, h1, hk] at h2
  simp only [Option.map_some, Option.some.injEq] at h2
  have h3 := hin.2 k rows[k].1 e.rg (by rw [List.getElem?_map, h1]; rfl) (by rw [List.getElem?_map, hk]; rfl)
  exact ⟨rows[k].1, by rw [h1, ← h2], h3⟩
theorem RdE.len {w : World} {rows : List Es} {envs : List Env} (hin : InR encS 1 w (rows.map (·.1)) (envs.map (·.rg))) : rows.length = envs.length := by have := hin.1; simpa using this

/-- Environments that are owned, their rights in blocks of their own. -/
def OwE (lo hi : Nat) (w : World) (v : Value) (envs : List Env) : Prop :=
  ∃ rows : List Es, OwF encE 2 55 lo hi w v rows ∧ InO encS 1 9 lo hi w (rows.map (·.1)) (envs.map (·.rg)) ∧ rows.map (·.2) = envs.map (·.rt)
theorem OwE.rd {lo hi : Nat} {w : World} {v : Value} {envs : List Env} (h : OwE lo hi w v envs) : RdE w v envs := by
  obtain ⟨rows, h1, h2, h3⟩ := h
  exact ⟨rows, h1.rd encE_len, h2.rd encS_len, h3⟩
theorem OwE.keep {lo hi lo' hi' : Nat} {w w' : World} {v : Value} {envs : List Env} (h : OwE lo hi w v envs) (c : Chg lo' hi' w w') (d : hi ≤ lo' ∨ hi' ≤ lo) : OwE lo hi w' v envs := by
  obtain ⟨rows, h1, h2, h3⟩ := h
  exact ⟨rows, h1.keep c d, h2.keep c d, h3⟩
theorem OwE.mono {lo hi lo' hi' : Nat} {w : World} {v : Value} {envs : List Env} (h : OwE lo hi w v envs) (h1 : lo' ≤ lo) (h2 : hi ≤ hi') : OwE lo' hi' w v envs := by
  obtain ⟨rows, a, b, c⟩ := h
  exact ⟨rows, a.mono h1 h2, b.mono h1 h2, c⟩
theorem OwE.below {lo hi : Nat} {w w' : World} {v : Value} {envs : List Env} (h : OwE lo hi w v envs) (hb : Below w.heap.size w w') : OwE lo hi w' v envs :=
  h.keep (Chg.of_below hb) (.inr (Nat.zero_le _))
theorem rowO {lo hi : Nat} {w : World} {rows : List Es} {envs : List Env} (hin : InO encS 1 9 lo hi w (rows.map (·.1)) (envs.map (·.rg))) (hrt : rows.map (·.2) = envs.map (·.rt)) {k : Nat} {e : Env} (hk : envs[k]? = some e) :
    ∃ s : Sl, rows[k]? = some (s, e.rt) ∧ OwF encS 1 9 lo hi w (slv s) e.rg := by
  obtain ⟨s, hs, -⟩ := getE (hin.rd encS_len) hrt hk
  exact ⟨s, hs, hin.row k s e.rg (by rw [List.getElem?_map, hs]; rfl) (by rw [List.getElem?_map, hk]; rfl)⟩

theorem set2_other {w : World} {g b i j : Nat} {u v : Value} (h : b ≠ g) : ((w.setCell ⟨g, i, none⟩ u).setCell ⟨g, j, none⟩ v).heap[b]? = w.heap[b]? :=
  (Below.heap_setCell _ _ _ _ h).trans (Below.heap_setCell _ _ _ _ h)

/-- A store of an environment. -/
theorem OwE.stored {lo hi lo' hi' g n c : Nat} {w : World} {envs : List Env} {s : Sl} {xs : List Txt} (h : OwE lo hi w (.slice (some ⟨g, 0, none⟩) n c) envs)
    (hs : OwF encS 1 9 lo' hi' w (slv s) xs) (h1 : hi ≤ lo' ∨ (slv s).ownBlock = none) (h2 : lo ≤ lo') (h3 : hi ≤ hi') (k : Nat) (hk : k < envs.length) (rt : Int) :
    OwE lo hi' ((w.setCell ⟨g, k * 2, none⟩ (slv s)).setCell ⟨g, k * 2 + 1, none⟩ (.int .i64 rt)) (.slice (some ⟨g, 0, none⟩) n c) (envs.set k ⟨xs, rt⟩) := by
  obtain ⟨rows, a, b, hrt⟩ := h
  have hl : rows.length = envs.length := by have := b.len; simpa using this
  have hs' : OwF encS 1 9 lo' hi' ((w.setCell ⟨g, k * 2, none⟩ (slv s)).setCell ⟨g, k * 2 + 1, none⟩ (.int .i64 rt)) (slv s) xs := by
    refine hs.stay fun b' hb' => set2_other ?_
    intro he
    subst he
    exact hs.other neEs a b' hb' rfl
  have b' : InO encS 1 9 lo hi ((w.setCell ⟨g, k * 2, none⟩ (slv s)).setCell ⟨g, k * 2 + 1, none⟩ (.int .i64 rt)) (rows.map (·.1)) (envs.map (·.rg)) := by
    refine b.stay fun t b' ht hb' => set2_other ?_
    intro he
    subst he
    obtain ⟨i, hi⟩ := List.getElem?_of_mem ht
    obtain ⟨ys, -, ho⟩ := b.rget hi
    exact ho.other neEs a b' hb' rfl
  refine ⟨rows.set k (s, rt), ⟨a.1.stored2 encE_len k (s, rt) (slv s) (.int .i64 rt) (by omega) rfl, fun b' hb' => ?_⟩, ?_, ?_⟩
  · have := a.2 b' hb'
    omega
  · rw [List.map_set, List.map_set]
    exact b'.put hs' h1 h2 h3 k
  · rw [List.map_set, List.map_set, hrt]

/-- One environment's rights are changed in their place. -/
theorem OwE.mod {lo hi : Nat} {w w' : World} {v : Value} {rows : List Es} {envs : List Env} {s : Sl} {e : Env} {xs : List Txt} {k : Nat} (h0 : OwF encE 2 55 lo hi w v rows) (h : InO encS 1 9 lo hi w (rows.map (·.1)) (envs.map (·.rg))) (hk : rows[k]? = some (s, e.rt)) (he : envs[k]? = some e)
    (hrt : rows.map (·.2) = envs.map (·.rt)) (hs : OwT encS 1 9 lo w' (slv s) xs)
    (h1 : ∀ g, (slv s).ownBlock = some g → w.grownBy w' (some g)) (h2 : (slv s).ownBlock = none → w = w') : OwF encE 2 55 lo hi w' v rows ∧ InO encS 1 9 lo hi w' (rows.map (·.1)) ((envs.set k ⟨xs, e.rt⟩).map (·.rg)) ∧ rows.map (·.2) = (envs.set k ⟨xs, e.rt⟩).map (·.rt) ∧ Chg lo hi w w' := by
  have hk' : (rows.map (·.1))[k]? = some s := by rw [List.getElem?_map, hk]; rfl
  obtain ⟨ys, hys, ho⟩ := h.rget hk'
  refine ⟨?_, ?_, ?_, Chg.of_mark ho.2 h1 h2⟩
  · cases hv : (slv s).ownBlock with
    | none => rw [← h2 hv]; exact h0
    | some g =>
      refine h0.stay fun g' hg' => (h1 g hv).block g' (h0.lt g' hg').2.2 ?_
      intro he
      simp at he
      subst he
      exact ho.other neEs h0 _ hv hg'
  · rw [List.map_set]
    exact h.mod hk' hs h1 h2
  · rw [List.map_set, hrt]
    apply List.ext_getElem?
    intro i
    rw [List.getElem?_set]
    by_cases hi : k = i
    · subst hi
      have hlt := (List.getElem?_eq_some_iff.1 he).1
      rw [if_pos rfl, if_pos (by simpa using hlt), List.getElem?_map, he]; rfl
    · rw [if_neg hi]
/-- The number of an environment is another. -/
theorem OwE.rooted {lo hi g n c : Nat} {w : World} {envs : List Env} {e : Env} {k : Nat} (h : OwE lo hi w (.slice (some ⟨g, 0, none⟩) n c) envs) (hk : envs[k]? = some e) (q : Int) :
    OwE lo hi (w.setCell ⟨g, k * 2 + 1, none⟩ (.int .i64 q)) (.slice (some ⟨g, 0, none⟩) n c) (envs.set k ⟨e.rg, q⟩) ∧ Chg lo hi w (w.setCell ⟨g, k * 2 + 1, none⟩ (.int .i64 q)) := by
  obtain ⟨rows, a, b, hrt⟩ := h
  obtain ⟨s, hs, -⟩ := rowO b hrt hk
  have hg := a.2 g rfl
  refine ⟨⟨rows.set k (s, q), ⟨a.1.storeF (j := 1) (x' := (s, q)) (u := .int .i64 q) encE_len hs (by omega) rfl, a.2⟩, ?_, ?_⟩, Chg.of_grown (grown_set (World.grownBy.refl _ _) _ _) hg.1 hg.2⟩
  · have e1 : (rows.set k (s, q)).map (·.1) = rows.map (·.1) := by
      rw [List.map_set]
      apply List.ext_getElem?
      intro i
      rw [List.getElem?_set]
      by_cases hi : k = i
      · subst hi
        have hlt := (List.getElem?_eq_some_iff.1 hs).1
        rw [if_pos rfl, if_pos (by simpa using hlt), List.getElem?_map, hs]; rfl
      · rw [if_neg hi]
    have e2 : (envs.set k ⟨e.rg, q⟩).map (·.rg) = envs.map (·.rg) := by
      rw [List.map_set]
      apply List.ext_getElem?
      intro i
      rw [List.getElem?_set]
      by_cases hi : k = i
      · subst hi
        have hlt := (List.getElem?_eq_some_iff.1 hk).1
        rw [if_pos rfl, if_pos (by simpa using hlt), List.getElem?_map, hk]; rfl
      · rw [if_neg hi]
    rw [e1, e2]
    refine b.stay fun t b' ht hb' => Below.heap_setCell w _ _ _ ?_
    intro he
    subst he
    obtain ⟨i, hi⟩ := List.getElem?_of_mem ht
    obtain ⟨ys, -, ho⟩ := b.rget hi
    exact ho.other neEs a b' hb' rfl
  · rw [List.map_set, List.map_set, hrt]
end Go.Proofs.YtojknkpjnchchaaGreatDoor
