/- Sorting and compacting owned rows of integers. No conditions but the readings of the arguments. -/
import Derived.Test.YtojknkpjnchchaaGreatDoorGLib
import Derived.Test.YtojknkpjnchchaaGreatDoorGStr
import Derived.Test.YtojknkpjnchchaaGreatDoorSortL
import Derived.Lib.SortBridge
namespace Go.Proofs.YtojknkpjnchchaaGreatDoor
open Go.ChangeShapes Go.WideShapes Go.ChangeAt Go.RowKit
set_option linter.all false
set_option maxRecDepth 100000
attribute [local go_sem ↓] Go.wp_at_zero Go.wp_at_succ

theorem Bun.litsK {α : Type} {enc : α → List Value} {K : Nat} {e t : TypeId} {z : α} {P : Program} {w0 w : World} {row : Option Nat} {rs : List Res} (h : Bun w0 row w rs) (a : Nat) (E : Elt P enc K e t z) (cs : Array Value) (xs : List α) (n : Nat) (hc : cs.toList = xs.flatMap enc) (hn : xs.length = n) (hb : n ≤ 1000000000) (ha : a = w.heap.size) :
    Bun w0 row (w.alloc (.cells cs e)) (Res.row enc K e (.slice (some ⟨a, 0, none⟩) n n) xs :: rs) := by subst ha; exact h.lits E cs xs n hc hn hb
/-- Two ascending lists of the same numbers are equal. -/
theorem asc_ext : ∀ xs ys : List Int, xs.Pairwise (· < ·) → ys.Pairwise (· < ·) → (∀ x, x ∈ xs ↔ x ∈ ys) → xs = ys := by
  intro xs
  induction xs with
  | nil =>
    intro ys _ _ h
    cases ys with
    | nil => rfl
    | cons y s => exact absurd ((h y).2 (by simp)) (by simp)
  | cons x t ih =>
    intro ys hx hy h
    cases ys with
    | nil => exact absurd ((h x).1 (by simp)) (by simp)
    | cons y s =>
      obtain ⟨hx1, hx2⟩ := List.pairwise_cons.1 hx
      obtain ⟨hy1, hy2⟩ := List.pairwise_cons.1 hy
      have e : x = y := by
        rcases List.mem_cons.1 ((h x).1 (by simp)) with h1 | h1
        · exact h1
        · rcases List.mem_cons.1 ((h y).2 (by simp)) with h2 | h2
          · exact h2.symm
          · have := hx1 y h2
            have := hy1 x h1
            omega
      subst e
      rw [ih s hx2 hy2 fun z => ?_]
      constructor
      · intro hz
        rcases List.mem_cons.1 ((h z).1 (by simp [hz])) with h1 | h1
        · have := hx1 z hz; omega
        · exact h1
      · intro hz
        rcases List.mem_cons.1 ((h z).2 (by simp [hz])) with h1 | h1
        · have := hy1 z hz; omega
        · exact h1
/-- The numbers below twelve that a list has, ascending, each once. -/
def uniq (zs : List Int) : List Int := ((List.range 12).map (fun n : Nat => (n : Int))).filter (fun x => decide (x ∈ zs))
theorem range12_asc : ((List.range 12).map (fun n : Nat => (n : Int))).Pairwise (· < ·) := by decide
theorem uniq_asc (zs : List Int) : (uniq zs).Pairwise (· < ·) := List.Pairwise.sublist List.filter_sublist range12_asc
theorem mem_range12 {x : Int} : x ∈ (List.range 12).map (fun n : Nat => (n : Int)) ↔ 0 ≤ x ∧ x ≤ 11 := by
  simp only [List.mem_map, List.mem_range]
  constructor
  · rintro ⟨n, hn, rfl⟩; omega
  · rintro ⟨h1, h2⟩; exact ⟨x.toNat, by omega, by omega⟩
theorem uniq_mem {zs : List Int} {x : Int} : x ∈ uniq zs ↔ (0 ≤ x ∧ x ≤ 11) ∧ x ∈ zs := by
  unfold uniq
  rw [List.mem_filter, mem_range12, decide_eq_true_eq]
theorem uniq_len (zs : List Int) : (uniq zs).length ≤ 12 := by
  unfold uniq
  exact Nat.le_trans (List.length_filter_le _ _) (by simp)
theorem uniq_congr {xs ys : List Int} (h : ∀ x, x ∈ xs ↔ x ∈ ys) : uniq xs = uniq ys := by
  unfold uniq
  refine List.filter_congr fun x _ => ?_
  simp [h x]

def sortI (zs : List Int) : List Int := zs.mergeSort fun x y => decide (x ≤ y)
theorem sortI_len (zs : List Int) : (sortI zs).length = zs.length := by simp [sortI]
theorem sortI_mem {zs : List Int} {x : Int} : x ∈ sortI zs ↔ x ∈ zs := by simp [sortI, List.mem_mergeSort]
theorem sortI_asc (zs : List Int) : (sortI zs).Pairwise (· ≤ ·) := by
  have h := List.pairwise_mergeSort (le := fun (x y : Int) => decide (x ≤ y)) (fun a b c h1 h2 => by simp at h1 h2 ⊢; omega) (fun a b => by simp; omega) zs
  exact h.imp (by intro a b h; simpa using h)

theorem compact_upto {d : Array Int} (h : d.toList.Pairwise (· ≤ ·)) : ∀ m, m ≤ d.size → (Lib.compactUpTo d m).Pairwise (· < ·) ∧ ∀ x, x ∈ Lib.compactUpTo d m ↔ ∃ j, j < m ∧ d[j]! = x := by
  have hle : ∀ i j, i ≤ j → j < d.size → d[i]! ≤ d[j]! := by
    intro i j hij hj
    rcases Nat.lt_or_ge i j with h1 | h1
    · have := List.pairwise_iff_getElem.1 h i j (by simpa using Nat.lt_trans h1 hj) (by simpa using hj) h1
      rw [getElem!_pos d i (by omega), getElem!_pos d j hj]
      simpa using this
    · have : i = j := by omega
      subst this
      exact Int.le_refl _
  intro m
  induction m with
  | zero => intro _; exact ⟨by simp [Lib.compactUpTo], fun x => by simp [Lib.compactUpTo]⟩
  | succ m ih =>
    intro hm
    obtain ⟨h1, h2⟩ := ih (by omega)
    rw [Lib.compactUpTo_succ]
    cases hk : Lib.keeps d m
    · have hk2 : ¬ (m = 0 ∨ d[m]! ≠ d[m - 1]!) := by simpa [Lib.keeps] using hk
      have hm0 : m ≠ 0 := fun e => hk2 (.inl e)
      have he : d[m]! = d[m - 1]! := Classical.byContradiction fun e => hk2 (.inr e)
      simp only [Bool.false_eq_true, if_false, List.append_nil]
      refine ⟨h1, fun x => (h2 x).trans ⟨fun ⟨j, hj, e⟩ => ⟨j, by omega, e⟩, fun ⟨j, hj, e⟩ => ?_⟩⟩
      by_cases hjm : j = m
      · subst hjm; exact ⟨j - 1, by omega, by rw [← he]; exact e⟩
      · exact ⟨j, by omega, e⟩
    · simp only [if_true]
      refine ⟨List.pairwise_append.2 ⟨h1, by simp, fun a ha b hb => ?_⟩, fun x => ?_⟩
      · obtain ⟨j, hj, rfl⟩ := (h2 a).1 ha
        simp only [List.mem_singleton] at hb
        subst hb
        have h3 := hle j (m - 1) (by omega) (by omega)
        have h4 := hle (m - 1) m (by omega) (by omega)
        have h5 : m = 0 ∨ d[m]! ≠ d[m - 1]! := by simpa [Lib.keeps] using hk
        rcases h5 with h5 | h5
        · omega
        · omega
      · rw [List.mem_append, h2 x]
        constructor
        · rintro (⟨j, hj, e⟩ | hx)
          · exact ⟨j, by omega, e⟩
          · simp only [List.mem_singleton] at hx; exact ⟨m, by omega, hx.symm⟩
        · rintro ⟨j, hj, e⟩
          by_cases hjm : j = m
          · subst hjm; exact .inr (by simp [e])
          · exact .inl ⟨j, by omega, e⟩
theorem compact_sort {zs : List Int} (h : ∀ x ∈ zs, 0 ≤ x ∧ x ≤ 11) : Lib.compact (sortI zs) = uniq zs := by
  have h1 := compact_upto (d := (sortI zs).toArray) (by simpa using sortI_asc zs) (sortI zs).length (by simp)
  refine asc_ext _ _ h1.1 (uniq_asc zs) fun x => ?_
  unfold Lib.compact
  rw [h1.2 x, uniq_mem]
  constructor
  · rintro ⟨j, hj, e⟩
    have hx : x ∈ zs := by
      rw [← sortI_mem, ← e, getElem!_pos _ j (by simpa using hj)]
      simp
    exact ⟨h x hx, hx⟩
  · rintro ⟨-, hx⟩
    rw [← sortI_mem] at hx
    obtain ⟨j, hj, e⟩ := List.mem_iff_getElem.1 hx
    exact ⟨j, hj, by rw [getElem!_pos _ j (by simpa using hj)]; simpa using e⟩

section
variable {w0 w : World} {row : Option Nat} {rs : List Res}
theorem Bun.setCells {g n c : Nat} : ∀ (ys a b : List Int) (w : World), b.length = ys.length → Bun w0 row w (Res.row encI 1 3 (.slice (some ⟨g, 0, none⟩) n c) (a ++ b) :: rs) → Bun w0 row (w.setCells g a.length (ys.map (Value.int .i64))) (Res.row encI 1 3 (.slice (some ⟨g, 0, none⟩) n c) (a ++ ys) :: rs) := by
  intro ys
  induction ys with
  | nil => intro a b w hl h; have : b = [] := List.eq_nil_of_length_eq_zero (by simpa using hl); subst this; exact h
  | cons y t ih =>
    intro a b w hl h
    cases b with
    | nil => simp at hl
    | cons z b =>
      have hx : (a ++ z :: b)[a.length]? = some z := by simp
      have h1 := h.store (j := 0) (x' := y) (u := .int .i64 y) encI_len hx (by omega) rfl
      have e : (a ++ z :: b).set a.length y = (a ++ [y]) ++ b := by rw [List.set_append_right _ _ (Nat.le_refl _)]; simp
      rw [e] at h1
      simp only [Nat.mul_one, Nat.add_zero] at h1
      have h2 := ih (a ++ [y]) b _ (by simpa using hl) h1
      rw [List.append_assoc] at h2
      have e2 : (a ++ [y]).length = a.length + 1 := by simp
      rw [e2] at h2
      exact h2
theorem below_grow (w : World) (os : Array Obj) : Below w.heap.size w (Sort.grow w os) := by
  refine ⟨rfl, rfl, rfl, by simp, fun k hk => ?_⟩
  exact Sort.heap_grow_old w os hk

theorem sortI_b (xs : List Int) (v : Value) (H : Bun w0 row w (Res.row encI 1 3 v xs :: rs)) (hl : xs.length ≤ 1000000) : Calls Tryz.prog 110 #[v] w fun e w' => e = .returned (.tuple #[]) ∧ Bun w0 row w' (Res.row encI 1 3 v (sortI xs) :: rs) := by
  have ho : OwT encI 1 3 0 w v xs := H.get 0 rfl
  by_cases hz : xs.length = 0
  · have hx : xs = [] := List.eq_nil_of_length_eq_zero hz
    obtain ⟨a, c, rfl, -⟩ := ho.rd encI_len
    rw [hz]
    refine (Any.slices_Sort_int_none Tryz.sortL a c w).mono ?_
    rintro e w' ⟨rfl, rfl⟩
    refine ⟨rfl, ?_⟩
    subst hx
    rw [show sortI [] = [] by simp [sortI]]
    exact H
  · obtain ⟨x0, hx0⟩ : ∃ x, xs[0]? = some x := ⟨_, List.getElem?_eq_getElem (by omega)⟩
    obtain ⟨g, c, rfl, -, h2, h3, h4, h5, -⟩ := H.at 0 rfl encI_len hx0
    have hcs : Sort.Holds (Value.int .i64) w g 0 xs.toArray := by
      intro j hj
      have hj' : j < xs.length := by simpa using hj
      obtain ⟨g', c', e1, -, -, -, -, -, h6⟩ := H.at 0 rfl encI_len (List.getElem?_eq_getElem hj')
      simp only [Value.slice.injEq, Option.some.injEq, Addr.mk.injEq, and_true] at e1
      obtain ⟨rfl, -, -⟩ := e1
      have := h6 0 _ rfl
      refine ⟨?_, by rw [Nat.zero_add]; exact h5 j⟩
      rw [Nat.zero_add, getElem!_pos _ j hj]
      simpa using this
    refine (Any.slices_Sort_int Tryz.sortL g 0 c xs w hcs h4 (by omega)).mono ?_
    rintro e w' ⟨rfl, q, os, rfl⟩
    refine ⟨rfl, ?_⟩
    have hs := Lib.sorted_world (Value.int .i64) w g 0 q xs.toArray (sortI xs) os hcs (by simp [sortI])
    have hw : Sort.grow (Sort.putRow (Value.int .i64) (Sort.ahead w q) g 0 (sortI xs).toArray) os = Sort.grow ((w.drewN q).setCells g 0 ((sortI xs).map (Value.int .i64))) os := hs
    unfold sortI at hw
    rw [hw]
    have h6 := Bun.setCells (g := g) (n := xs.length) (c := c) (sortI xs) [] xs (w.drewN q) (by rw [sortI_len]) (H.call (below_drewN (bref _) _))
    exact h6.call (below_grow _ _)

theorem compactI_b (xs : List Int) (v : Value) (H : Bun w0 row w (Res.row encI 1 3 v xs :: rs)) (hl : xs.length ≤ 1000000) : Calls Tryz.prog 111 #[v] w fun e w' => ∃ u, e = .returned u ∧ Bun w0 row w' (Res.row encI 1 3 u (Lib.compact xs) :: rs) := by
  have ho : OwT encI 1 3 0 w v xs := H.get 0 rfl
  by_cases hz : xs.length = 0
  · have hx : xs = [] := List.eq_nil_of_length_eq_zero hz
    obtain ⟨a, c, rfl, -⟩ := ho.rd encI_len
    rw [hz]
    refine (Any.slices_Compact_int_empty Tryz.compactL a c w).mono ?_
    rintro e w' ⟨rfl, rfl⟩
    refine ⟨_, rfl, ?_⟩
    subst hx
    exact H
  · obtain ⟨x0, hx0⟩ : ∃ x, xs[0]? = some x := ⟨_, List.getElem?_eq_getElem (by omega)⟩
    obtain ⟨g, c, rfl, -, h2, h3, h4, h5, -⟩ := H.at 0 rfl encI_len hx0
    have hcs : Sort.Holds (Value.int .i64) w g 0 xs.toArray := by
      intro j hj
      have hj' : j < xs.length := by simpa using hj
      obtain ⟨g', c', e1, -, -, -, -, -, h6⟩ := H.at 0 rfl encI_len (List.getElem?_eq_getElem hj')
      simp only [Value.slice.injEq, Option.some.injEq, Addr.mk.injEq, and_true] at e1
      obtain ⟨rfl, -, -⟩ := e1
      have := h6 0 _ rfl
      refine ⟨?_, by rw [Nat.zero_add]; exact h5 j⟩
      rw [Nat.zero_add, getElem!_pos _ j hj]
      simpa using this
    refine (Any.slices_Compact_int Tryz.compactL g 0 c xs w hcs (by omega) h2).mono ?_
    rintro e w' ⟨rfl, q, rfl⟩
    have hle := Lib.compact_length_le xs
    have hs := Lib.sorted_world (Value.int .i64) w g 0 q xs.toArray (Lib.compact xs ++ List.replicate (xs.length - (Lib.compact xs).length) 0) #[] hcs (by simp; omega)
    simp only [Sort.grow_empty] at hs
    rw [hs]
    have h6 := Bun.setCells (g := g) (n := xs.length) (c := c) (Lib.compact xs ++ List.replicate (xs.length - (Lib.compact xs).length) 0) [] xs (w.drewN q) (by simp; omega) (H.call (below_drewN (bref _) _))
    simp only [List.nil_append, List.length_nil] at h6
    refine ⟨_, rfl, h6.recast ?_ (fun k hk => hk)⟩
    have h7 : OwT encI 1 3 0 _ (.slice (some ⟨g, 0, none⟩) xs.length c) _ := h6.get 0 rfl
    have h8 := OwT.cut encI_len h7 hle
    rw [List.take_left] at h8
    exact h8
end
end Go.Proofs.YtojknkpjnchchaaGreatDoor
