/- Plain notions for the proofs of this seat: slices that can be read, slices that the call owns, and what a call leaves as it was. No conditions. Plain facts that many contracts use. No conditions. What a call may change: new blocks, and blocks between two numbers. Owned rows between two numbers. No conditions. Slices of slices: readable, and owned with distinct rows. No conditions. Laws for rows whose capacity is known: append within the room, clear, cuts. No conditions. Bundles: what a walk knows of the blocks that it made, each block under one fact. No conditions. -/
import Derived.Test.YtojknkpjnchchaaGreatDoorProg
import Derived.WalkKit
import Derived.WalkLawsBesides
import Derived.WalkSpells
import Derived.Handy
import Derived.Outline
import Derived.Deep.RegionHeld3
import Derived.Deep.DrawnRows
import Derived.Deep.AppendLies
import Derived.Maps.AppendAt
import Derived.Deep.Slices
import Derived.Deep.Fields
import Derived.Deep.DeepCutAuto
import Derived.BigQuiet
import Derived.Deep.QuietTactic
import Derived.Deep.DeepFit
import Derived.Laws.StructEq
import Derived.Lib.Hide
import Derived.StillTailTactics
namespace Go.Proofs.YtojknkpjnchchaaGreatDoor
open Go.ChangeShapes Go.WideShapes Go.RowKit
set_option linter.all false
set_option maxRecDepth 100000

/-- v is a slice of the elements xs, each laid out in K cells by enc. -/
def RdT {α : Type} (enc : α → List Value) (K : Nat) (w : World) (v : Value) (xs : List α) : Prop :=
  ∃ a c, v = .slice a xs.length c ∧ xs.length ≤ c ∧ c ≤ maxLen ∧ (a = none → c = 0) ∧
    ∀ k x, xs[k]? = some x → ∃ b o, a = some ⟨b, o, none⟩ ∧ b < w.heap.size ∧ ∀ j y, (enc x)[j]? = some y → w.cell? ⟨b, o + k * K + j, none⟩ = some y

theorem RdT.nil {α : Type} (enc : α → List Value) (K : Nat) (w : World) : RdT enc K w (.slice none 0 0) [] :=
  ⟨none, 0, rfl, Nat.le_refl _, by unfold maxLen; omega, fun _ => rfl, fun k x h => by simp at h⟩

theorem RdT.below {α : Type} {enc : α → List Value} {K : Nat} {w w' : World} {v : Value} {xs : List α} (h : RdT enc K w v xs) (hb : Below w.heap.size w w') : RdT enc K w' v xs := by
  obtain ⟨a, c, rfl, h1, h2, h0, h3⟩ := h
  refine ⟨a, c, rfl, h1, h2, h0, fun k x hx => ?_⟩
  obtain ⟨b, o, ha, hlt, hc⟩ := h3 k x hx
  exact ⟨b, o, ha, Nat.lt_of_lt_of_le hlt hb.size, fun j y hy => (hb.cell (p := ⟨b, o + k * K + j, none⟩) hlt).trans (hc j y hy)⟩

theorem flatMap_get {α β : Type} (enc : α → List β) (K : Nat) (hK : ∀ x, (enc x).length = K) : ∀ (xs : List α) (k : Nat) (x : α) (j : Nat) (y : β), xs[k]? = some x → (enc x)[j]? = some y → (xs.flatMap enc)[k * K + j]? = some y := by
  intro xs
  induction xs with
  | nil => intro k x j y h; simp at h
  | cons a t ih =>
    intro k x j y hx hy
    cases k with
    | zero =>
      simp at hx; subst hx
      have hj : j < (enc a).length := (List.getElem?_eq_some_iff.1 hy).1
      simp only [Nat.zero_mul, Nat.zero_add, List.flatMap_cons]
      rw [List.getElem?_append_left hj]; exact hy
    | succ k =>
      simp at hx
      have := ih k x j y hx hy
      simp only [List.flatMap_cons]
      rw [List.getElem?_append_right (by rw [hK]; rw [Nat.succ_mul]; omega)]
      rw [hK, show (k + 1) * K + j - K = k * K + j from by rw [Nat.succ_mul]; omega]
      exact this

theorem flatMap_len {α β : Type} (enc : α → List β) (K : Nat) (hK : ∀ x, (enc x).length = K) (xs : List α) : (xs.flatMap enc).length = xs.length * K := by
  induction xs with
  | nil => simp
  | cons a t ih => simp [hK, ih, Nat.succ_mul]; omega

/-- The call owns the slice v of the elements xs: from block 'base' on, writable. -/
def OwT {α : Type} (enc : α → List Value) (K : Nat) (e : TypeId) (base : Nat) (w : World) (v : Value) (xs : List α) : Prop :=
  w.ownsRow base e K v xs.length (xs.flatMap enc)

theorem OwT.rd {α : Type} {enc : α → List Value} {K : Nat} (hK : ∀ x, (enc x).length = K) {e base : Nat} {w : World} {v : Value} {xs : List α} (h : OwT enc K e base w v xs) : RdT enc K w v xs := by
  obtain ⟨h0, h1⟩ := h
  rcases h1 with ⟨rfl, hn⟩ | ⟨g, cap, cur, rfl, hb, hg, hn, hm, hs, ht⟩
  · have : xs = [] := List.eq_nil_of_length_eq_zero hn
    subst this; exact RdT.nil _ _ _
  · refine ⟨_, _, rfl, hn, hm, by simp, fun k x hx => ⟨g, 0, rfl, (Array.getElem?_eq_some_iff.1 hg).1, fun j y hy => ?_⟩⟩
    have hk : k < xs.length := (List.getElem?_eq_some_iff.1 hx).1
    have hj : j < K := by rw [← hK x]; exact (List.getElem?_eq_some_iff.1 hy).1
    have h2 := flatMap_get enc K hK xs k x j y hx hy
    have hlt : k * K + j < xs.length * K := by
      have : (k + 1) * K ≤ xs.length * K := Nat.mul_le_mul_right _ hk
      rw [Nat.succ_mul] at this; omega
    rw [← ht, List.getElem?_take, if_pos hlt] at h2
    rw [Nat.zero_add, cell_of_row w g _ cur e (0, 0) hg]
    simpa using h2

theorem OwT.below {α : Type} {enc : α → List Value} {K e base : Nat} {w w' : World} {v : Value} {xs : List α} (h : OwT enc K e base w v xs) (hb : Below w.heap.size w w') : OwT enc K e base w' v xs :=
  World.ownsRow.kept (row := none) h ⟨hb.os, hb.tape, hb.output, hb.size, fun k hk _ => hb.block k hk⟩ (by cases hv : v.ownBlock <;> simp)

theorem below_grown {w w' : World} (h : Below w.heap.size w w') (row : Option Nat) : w.grownBy w' row := ⟨h.os, h.tape, h.output, h.size, fun k hk _ => h.block k hk⟩
theorem grown_below {w w' : World} (h : w.grownBy w' none) : Below w.heap.size w w' := ⟨h.os, h.tape, h.output, h.size, fun k hk => h.block k hk (by simp)⟩

/-- All old cells and marks read as before. -/
theorem bcell {B : Nat} {W w1 : World} (hb : Below B W w1) : (∀ b o, b < B → w1.cell? ⟨b, o, none⟩ = W.cell? ⟨b, o, none⟩) ∧ (∀ b o, b < B → w1.frozen? ⟨b, o, none⟩ = W.frozen? ⟨b, o, none⟩) :=
  ⟨fun b o h => hb.cell (p := ⟨b, o, none⟩) h, fun b o h => hb.frozen (p := ⟨b, o, none⟩) h⟩

theorem flatMap_set1 {α β : Type} (enc : α → List β) (hK : ∀ x, (enc x).length = 1) : ∀ (xs : List α) (k : Nat) (x : α) (a : β), k < xs.length → enc x = [a] → (xs.flatMap enc).set k a = (xs.set k x).flatMap enc := by
  intro xs
  induction xs with
  | nil => intro k x a h; simp at h
  | cons y t ih =>
    intro k x a hk hx
    have hy := hK y
    match h : enc y, hy with
    | [p], _ =>
      cases k with
      | zero => simp [h, hx]
      | succ k =>
        have := ih k x a (by simpa using hk) hx
        simp [h, ← this]

theorem flatMap_set2 {α β : Type} (enc : α → List β) (hK : ∀ x, (enc x).length = 2) : ∀ (xs : List α) (k : Nat) (x : α) (a b : β), k < xs.length → enc x = [a, b] → ((xs.flatMap enc).set (k * 2) a).set (k * 2 + 1) b = (xs.set k x).flatMap enc := by
  intro xs
  induction xs with
  | nil => intro k x a b h; simp at h
  | cons y t ih =>
    intro k x a b hk hx
    have hy := hK y
    match h : enc y, hy with
    | [p, q], _ =>
      cases k with
      | zero => simp [h, hx]
      | succ k =>
        have := ih k x a b (by simpa using hk) hx
        simp [h, ← this, Nat.succ_mul]

theorem flatMap_set3 {α β : Type} (enc : α → List β) (hK : ∀ x, (enc x).length = 3) : ∀ (xs : List α) (k : Nat) (x : α) (a b c : β), k < xs.length → enc x = [a, b, c] → (((xs.flatMap enc).set (k * 3) a).set (k * 3 + 1) b).set (k * 3 + 2) c = (xs.set k x).flatMap enc := by
  intro xs
  induction xs with
  | nil => intro k x a b c h; simp at h
  | cons y t ih =>
    intro k x a b c hk hx
    have hy := hK y
    match h : enc y, hy with
    | [p, q, r], _ =>
      cases k with
      | zero => simp [h, hx]
      | succ k =>
        have := ih k x a b c (by simpa using hk) hx
        simp [h, ← this, Nat.succ_mul]

/-- What a loop that fills a new row has made behind k rounds. -/
def filled {α : Type} (z : α) (xs : List α) (k : Nat) : List α := xs.take k ++ List.replicate (xs.length - k) z
theorem filled_len {α : Type} (z : α) (xs : List α) (k : Nat) (h : k ≤ xs.length) : (filled z xs k).length = xs.length := by simp [filled]; omega
theorem filled_zero {α : Type} (z : α) (xs : List α) : filled z xs 0 = List.replicate xs.length z := by simp [filled]
theorem filled_all {α : Type} (z : α) (xs : List α) : filled z xs xs.length = xs := by simp [filled]
theorem filled_step {α : Type} (z : α) (xs : List α) (k : Nat) (x : α) (h : xs[k]? = some x) : (filled z xs k).set k x = filled z xs (k + 1) := by
  have hk : k < xs.length := (List.getElem?_eq_some_iff.1 h).1
  unfold filled
  rw [List.take_add_one, h, List.set_append, if_neg (by simp; omega)]
  have e : xs.length - k = (xs.length - (k + 1)) + 1 := by omega
  rw [e, List.replicate_succ]
  simp [List.length_take, Nat.min_eq_left (Nat.le_of_lt hk)]

theorem made_flat {α : Type} (enc : α → List Value) (K : Nat) (hK : ∀ x, (enc x).length = K) (hp : 0 < K) (z : α) (zc : Array Value) (hz : zc.toList = enc z) (n : Nat) : (madeCells zc (n * K)).toList = (List.replicate n z).flatMap enc := by
  apply List.ext_getElem?
  intro j
  have hs : zc.size = K := by rw [← Array.length_toList, hz, hK]
  have hl : ((List.replicate n z).flatMap enc).length = n * K := by rw [flatMap_len enc K hK]; simp
  by_cases hj : j < n * K
  · have hm : j % K < K := Nat.mod_lt _ hp
    have hd : j / K < n := Nat.div_lt_of_lt_mul (by rw [Nat.mul_comm]; exact hj)
    have h1 : (List.replicate n z)[j / K]? = some z := by rw [List.getElem?_replicate, if_pos hd]
    have h2 : (enc z)[j % K]? = some (zc[j % K]!) := by
      rw [← hz, Array.getElem?_toList, getElem!_pos zc (j % K) (by omega), Array.getElem?_eq_getElem (by omega)]
    have h3 := flatMap_get enc K hK _ (j / K) z (j % K) _ h1 h2
    have e : j / K * K + j % K = j := Nat.div_add_mod' j K
    rw [e] at h3
    rw [h3]
    simp [madeCells, hj, hs]
  · rw [List.getElem?_eq_none (by simp [size_madeCells]; omega), List.getElem?_eq_none (by omega)]

/-- What lies in an owned row whose address is known. -/
theorem OwT.open {α : Type} {enc : α → List Value} {K e base g n c : Nat} {w : World} {xs : List α} (hK : ∀ x, (enc x).length = K) (h : OwT enc K e base w (.slice (some ⟨g, 0, none⟩) n c) xs) :
    n = xs.length ∧ base ≤ g ∧ g < w.heap.size ∧ n ≤ c ∧ c ≤ maxLen ∧ (∀ j, w.frozen? ⟨g, j, none⟩ = false) ∧ ∀ k x j y, xs[k]? = some x → (enc x)[j]? = some y → w.cell? ⟨g, k * K + j, none⟩ = some y := by
  have hr := OwT.rd hK h
  obtain ⟨h0, h1⟩ := h
  rcases h1 with ⟨h', _⟩ | ⟨g', cap, cur, hv, hb, hg, hn, hm, hs, ht⟩
  · simp at h'
  · simp only [Value.slice.injEq, Option.some.injEq, Addr.mk.injEq, and_true, true_and] at hv
    obtain ⟨rfl, rfl, rfl⟩ := hv
    refine ⟨rfl, hb, (Array.getElem?_eq_some_iff.1 hg).1, hn, hm, fun j => frozen_of_row w g j cur e hg, fun k x j y hx hy => ?_⟩
    obtain ⟨a, c', hv, _, _, _, h3⟩ := hr
    obtain ⟨b, o, ha, _, hc⟩ := h3 k x hx
    simp only [Value.slice.injEq] at hv
    obtain ⟨hv, _, _⟩ := hv
    rw [← hv] at ha
    simp only [Option.some.injEq, Addr.mk.injEq, and_true] at ha
    obtain ⟨rfl, rfl⟩ := ha
    have := hc j y hy
    rwa [Nat.zero_add] at this

theorem OwT.stored1 {α : Type} {enc : α → List Value} {e base g n c : Nat} {w : World} {xs : List α} (hK : ∀ x, (enc x).length = 1) (h : OwT enc 1 e base w (.slice (some ⟨g, 0, none⟩) n c) xs)
    (k : Nat) (x : α) (a1 : Value) (hk : k < xs.length) (hx : enc x = [a1]) :
    OwT enc 1 e base (w.setCell ⟨g, k, none⟩ a1) (.slice (some ⟨g, 0, none⟩) n c) (xs.set k x) := by
  have hn := (OwT.open hK h).1
  subst hn
  have s1 := (World.ownsRow.stored h k a1).1
  rw [flatMap_set1 enc hK xs k x a1 hk hx] at s1
  unfold OwT; rw [List.length_set]; exact s1

theorem OwT.stored2 {α : Type} {enc : α → List Value} {e base g n c : Nat} {w : World} {xs : List α} (hK : ∀ x, (enc x).length = 2) (h : OwT enc 2 e base w (.slice (some ⟨g, 0, none⟩) n c) xs)
    (k : Nat) (x : α) (a1 a2 : Value) (hk : k < xs.length) (hx : enc x = [a1, a2]) :
    OwT enc 2 e base ((w.setCell ⟨g, k * 2, none⟩ a1).setCell ⟨g, k * 2 + 1, none⟩ a2) (.slice (some ⟨g, 0, none⟩) n c) (xs.set k x) := by
  have hn := (OwT.open hK h).1
  subst hn
  have s1 := (World.ownsRow.stored h (k * 2) a1).1
  have s2 := (World.ownsRow.stored s1 (k * 2 + 1) a2).1
  rw [flatMap_set2 enc hK xs k x a1 a2 hk hx] at s2
  unfold OwT; rw [List.length_set]; exact s2

theorem OwT.stored3 {α : Type} {enc : α → List Value} {e base g n c : Nat} {w : World} {xs : List α} (hK : ∀ x, (enc x).length = 3) (h : OwT enc 3 e base w (.slice (some ⟨g, 0, none⟩) n c) xs)
    (k : Nat) (x : α) (a1 a2 a3 : Value) (hk : k < xs.length) (hx : enc x = [a1, a2, a3]) :
    OwT enc 3 e base (((w.setCell ⟨g, k * 3, none⟩ a1).setCell ⟨g, k * 3 + 1, none⟩ a2).setCell ⟨g, k * 3 + 2, none⟩ a3) (.slice (some ⟨g, 0, none⟩) n c) (xs.set k x) := by
  have hn := (OwT.open hK h).1
  subst hn
  have s1 := (World.ownsRow.stored h (k * 3) a1).1
  have s2 := (World.ownsRow.stored s1 (k * 3 + 1) a2).1
  have s3 := (World.ownsRow.stored s2 (k * 3 + 2) a3).1
  rw [flatMap_set3 enc hK xs k x a1 a2 a3 hk hx] at s3
  unfold OwT; rw [List.length_set]; exact s3

theorem grown_set {w w' : World} {g : Nat} (h : w.grownBy w' (some g)) (o : Nat) (u : Value) : w.grownBy (w'.setCell ⟨g, o, none⟩ u) (some g) :=
  ⟨h.os, h.tape, h.output, by simpa using h.size, fun k hk hne => (Below.heap_setCell w' ⟨g, o, none⟩ u k (fun e => hne (by rw [e]))).trans (h.block k hk hne)⟩

theorem grown_then {w a b : World} {row : Option Nat} (h : w.grownBy a row) (k : Below a.heap.size a b) : w.grownBy b row :=
  ⟨k.os.trans h.os, k.tape.trans h.tape, k.output.trans h.output, Nat.le_trans h.size k.size, fun i hi hne => (k.block i (Nat.lt_of_lt_of_le hi h.size)).trans (h.block i hi hne)⟩

theorem grown_drew {w a : World} {row : Option Nat} (h : w.grownBy a row) : w.grownBy a.drew row := ⟨h.os, h.tape, h.output, h.size, h.block⟩

theorem RdT.grown {α : Type} {enc : α → List Value} {K : Nat} {w w' : World} {v : Value} {xs : List α} {g : Nat} (h : RdT enc K w v xs) (hg : w.grownBy w' (some g)) (hne : xs ≠ [] → ∀ b, v.ownBlock = some b → b ≠ g) : RdT enc K w' v xs := by
  obtain ⟨a, c, rfl, h1, h2, h0, h3⟩ := h
  refine ⟨a, c, rfl, h1, h2, h0, fun k x hx => ?_⟩
  obtain ⟨b, o, ha, hlt, hc⟩ := h3 k x hx
  subst ha
  have := hne (by rintro rfl; simp at hx) b rfl
  exact ⟨b, o, rfl, Nat.lt_of_lt_of_le hlt hg.size, fun j y hy => (World.cell?_of_block (hg.block b hlt (by simpa using this))).trans (hc j y hy)⟩

theorem OwT.grown {α : Type} {enc : α → List Value} {K e base : Nat} {w w' : World} {v : Value} {xs : List α} {g : Nat} (h : OwT enc K e base w v xs) (hg : w.grownBy w' (some g)) (hne : ∀ b, v.ownBlock = some b → b ≠ g) : OwT enc K e base w' v xs :=
  World.ownsRow.kept h hg (by cases hv : v.ownBlock with | none => exact .inl rfl | some b => exact .inr (by simpa using hne b hv))

theorem OwT.mono {α : Type} {enc : α → List Value} {K e base base' : Nat} {w : World} {v : Value} {xs : List α} (h : OwT enc K e base w v xs) (hb : base' ≤ base) : OwT enc K e base' w v xs := by
  obtain ⟨h1, h2⟩ := h
  refine ⟨h1, ?_⟩
  rcases h2 with h2 | ⟨g, cap, cur, hv, hg, r⟩
  · exact .inl h2
  · exact .inr ⟨g, cap, cur, hv, Nat.le_trans hb hg, r⟩

/-- What the program's tables say of an element type. -/
structure Elt {α : Type} (P : Program) (enc : α → List Value) (K : Nat) (e t : TypeId) (z : α) : Prop where
  len : ∀ x, (enc x).length = K
  pos : 0 < K
  one : ∀ x, ∀ u ∈ enc x, u.oneCell' = true
  sl : P.underlying t = some (.slice e)
  info : ∃ i zv, P.info? e = some i ∧ i.zero = some zv ∧ i.size = K ∧ i.bytes ≤ 64 ∧ zv.cells.toList = enc z

theorem flatMap_at {α β : Type} (enc : α → List β) (K : Nat) (hK : ∀ x, (enc x).length = K) (hp : 0 < K) (xs : List α) (j : Nat) (y : β) (h : (xs.flatMap enc)[j]? = some y) : ∃ x, xs[j / K]? = some x ∧ (enc x)[j % K]? = some y := by
  have hl := flatMap_len enc K hK xs
  have hj : j < xs.length * K := by rw [← hl]; exact (List.getElem?_eq_some_iff.1 h).1
  have hd : j / K < xs.length := Nat.div_lt_of_lt_mul (by rw [Nat.mul_comm]; exact hj)
  have hm : j % K < K := Nat.mod_lt _ hp
  refine ⟨_, List.getElem?_eq_getElem hd, ?_⟩
  have h2 : (enc xs[j / K])[j % K]? = some ((enc xs[j / K])[j % K]'(by rw [hK]; exact hm)) := List.getElem?_eq_getElem _
  have h3 := flatMap_get enc K hK xs (j / K) _ (j % K) _ (List.getElem?_eq_getElem hd) h2
  rw [Nat.div_add_mod' j K, h] at h3
  rw [h2]; exact h3.symm

theorem RdT.flat {α : Type} {enc : α → List Value} {K : Nat} {w : World} {ad : Addr} {n c : Nat} {xs : List α} (hK : ∀ x, (enc x).length = K) (hp : 0 < K) (h : RdT enc K w (.slice (some ad) n c) xs) :
    ∀ j u, (xs.flatMap enc)[j]? = some u → w.cell? (ad.add j) = some u := by
  intro j u hu
  obtain ⟨x, hx, hy⟩ := flatMap_at enc K hK hp xs j u hu
  obtain ⟨a, c', hv, _, _, _, h3⟩ := h
  obtain ⟨b, o, ha, _, hc⟩ := h3 _ x hx
  simp only [Value.slice.injEq] at hv
  rw [← hv.1] at ha
  simp only [Option.some.injEq] at ha
  subst ha
  have := hc _ _ hy
  rw [show o + j / K * K + j % K = o + j from by have := Nat.div_add_mod' j K; omega] at this
  have e : (⟨b, o, none⟩ : Addr).add j = ⟨b, o + j, none⟩ := by unfold Addr.add; split <;> simp_all
  rw [e]; exact this

section
variable {α : Type} {P : Program} {enc : α → List Value} {K : Nat} {e t : TypeId} {z : α}

theorem run_append_T (E : Elt P enc K e t z) (w : World) (ty : TypeId) (base : Nat) (v u : Value) (xs ys : List α) (hown : OwT enc K e base w v xs) (hr : RdT enc K w u ys) (hb : xs.length + ys.length ≤ 1000000000) (hbase : base ≤ w.heap.size) :
    ∃ v' w', (Builtin.append_ #[t, t] ty #[v, u]).run P w = .ok v' w' ∧ OwT enc K e base w' v' (xs ++ ys) ∧ w.grownBy w' v.ownBlock ∧ (v'.ownBlock = v.ownBlock ∨ v'.ownBlock = some w.heap.size) ∧ (ys ≠ [] → v' ≠ .slice none 0 0) := by
  obtain ⟨i, zv, hi, hz, hs, hby, hzc⟩ := E.info
  have hzs : zv.cells.size = K := by rw [← Array.length_toList, hzc, E.len]
  have hr' := hr
  obtain ⟨a, c, rfl, h1, h2, h0, h3⟩ := hr
  have hfl : ((xs ++ ys).flatMap enc) = xs.flatMap enc ++ ys.flatMap enc := List.flatMap_append
  cases a with
  | none =>
    have hc := h0 rfl
    subst hc
    have hy : ys = [] := List.eq_nil_of_length_eq_zero (by omega)
    subst hy
    refine ⟨v, w, ?_, by simpa using hown, World.grownBy.refl _ _, .inl rfl, by simp⟩
    exact run_append_owned_none w base t ty e i K E.sl hi v xs.length _ hown
  | some ad =>
    obtain ⟨v', w', hrun, ho, hg, hnil, hat⟩ := run_append_own_at (P := P) w base t ty e i zv K i.bytes E.sl hi hz hs rfl hzs E.pos v xs.length _ hown ad ys.length c (ys.flatMap enc) (flatMap_len enc K E.len ys) (RdT.flat E.len E.pos hr')
      (fun u hu => by obtain ⟨x, _, hx⟩ := List.mem_flatMap.1 hu; exact E.one x u hx) (by unfold maxLen; omega) (Nat.le_trans (Nat.mul_le_mul hb hby) (by decide)) hbase
    refine ⟨v', w', hrun, ?_, hg, hat, fun hne hv => hne (List.eq_nil_of_length_eq_zero (hnil.1 hv).2)⟩
    unfold OwT
    rw [hfl, List.length_append]; exact ho

theorem wp_append_T (E : Elt P enc K e t z) {w : World} {o : Oper} {a : Act} {k : Act → World → Prop} {Q : Exit → Act → World → Prop} (s x : Operand)
    (ho : o.op = .call { callee := .builtin .append, args := #[s, x], argTypes := #[t, t] }) (base : Nat) (v u : Value) (xs ys : List α) (hs : a.eval s = v) (hx : a.eval x = u)
    (hown : OwT enc K e base w v xs) (hr : RdT enc K w u ys) (hb : xs.length + ys.length ≤ 1000000000) (hbase : base ≤ w.heap.size)
    (h : ∀ v' w', OwT enc K e base w' v' (xs ++ ys) → w.grownBy w' v.ownBlock → (v'.ownBlock = v.ownBlock ∨ v'.ownBlock = some w.heap.size) → (ys ≠ [] → v' ≠ .slice none 0 0) → k (a.put o.dst v') w') : o.wp P a w k Q := by
  obtain ⟨v', w', hrun, h2, h3, h4, h5⟩ := run_append_T E w o.type base v u xs ys hown hr hb hbase
  unfold Oper.wp execOp
  simp only [ho, resolve, invoke, builtin, Sem.run_bind, Sem.run_pure, Result.andThen_ok, List.map_toArray, List.map_cons, List.map_nil, hs, hx, hrun]
  exact h v' w' h2 h3 h4 h5

/-- append at a list of operations. -/
theorem append_T (E : Elt P enc K e t z) {w : World} {ops : Array Oper} {rest : List Oper} {o : Oper} {a : Act} {Q : Exit → Act → World → Prop} (hgd : o.guard = none) (s x : Operand)
    (ho : o.op = .call { callee := .builtin .append, args := #[s, x], argTypes := #[t, t] }) (base : Nat) (v u : Value) (xs ys : List α) (hs : a.eval s = v) (hx : a.eval x = u)
    (hown : OwT enc K e base w v xs) (hr : RdT enc K w u ys) (hb : xs.length + ys.length ≤ 1000000000) (hbase : base ≤ w.heap.size)
    (h : ∀ v' w', OwT enc K e base w' v' (xs ++ ys) → w.grownBy w' v.ownBlock → (v'.ownBlock = v.ownBlock ∨ v'.ownBlock = some w.heap.size) → (ys ≠ [] → v' ≠ .slice none 0 0) → wpList P ops Q rest (a.put o.dst v') w') : wpList P ops Q (o :: rest) a w :=
  wpList_plain hgd fun _ hK => wp_append_T E s x ho base v u xs ys hs hx hown hr hb hbase fun v' w' h2 h3 h4 h5 => hK _ _ (h v' w' h2 h3 h4 h5)

/-- append at a step of a region that draws its order. -/
theorem step_append_T (E : Elt P enc K e t z) {w : World} {ops : Array Oper} {o : Oper} {a : Act} {k : Act → World → Prop} {Q : Exit → Act → World → Prop} {F : Prop} (hgd : o.guard = none) (s x : Operand)
    (ho : o.op = .call { callee := .builtin .append, args := #[s, x], argTypes := #[t, t] }) (base : Nat) (v u : Value) (xs ys : List α) (hs : a.eval s = v) (hx : a.eval x = u)
    (hown : OwT enc K e base w v xs) (hr : RdT enc K w u ys) (hb : xs.length + ys.length ≤ 1000000000) (hbase : base ≤ w.heap.size)
    (h : ∀ v' w', OwT enc K e base w' v' (xs ++ ys) → w.grownBy w' v.ownBlock → (v'.ownBlock = v.ownBlock ∨ v'.ownBlock = some w.heap.size) → (ys ≠ [] → v' ≠ .slice none 0 0) → k (a.put o.dst v') w') :
    if Region.wanted o (yielded ops a.tmps) = true then Oper.wp P o a w k Q else F := by
  have hw : Region.wanted o (yielded ops a.tmps) = true := by simp [Region.wanted, hgd]
  rw [if_pos hw]
  exact wp_append_T E s x ho base v u xs ys hs hx hown hr hb hbase h

/-- make([]T, n) at a list of operations. -/
theorem make_T (E : Elt P enc K e t z) {w : World} {ops : Array Oper} {rest : List Oper} {o : Oper} {a : Act} {Q : Exit → Act → World → Prop} (hgd : o.guard = none) (l c : Operand) (hop : o.op = Op.makeSlice t l c)
    (n : Nat) (hl : a.eval l = .int .i64 n) (hc : a.eval c = .int .i64 n) (hn : n ≤ 1000000000)
    (hK : ∀ w', OwT enc K e w.heap.size w' (.slice (some ⟨w.heap.size, 0, none⟩) n n) (List.replicate n z) → Below w.heap.size w w' → wpList P ops Q rest (a.put o.dst (.slice (some ⟨w.heap.size, 0, none⟩) n n)) w') :
    wpList P ops Q (o :: rest) a w := by
  obtain ⟨i, zv, hi, hz, hs, hby, hzc⟩ := E.info
  refine wpList_make_full w hgd l c t hop w.heap.size e i zv K E.sl hi hz hs .i64 .i64 n n n hl hc rfl rfl ?_ (by unfold maxLen; omega) (Nat.le_refl _) ?_
  · exact Nat.le_trans (Nat.mul_le_mul hby hn) (by decide)
  · intro w' ho hg
    refine hK w' ?_ (grown_below hg)
    rw [made_flat enc K E.len E.pos z zv.cells hzc n] at ho
    unfold OwT; rw [List.length_replicate]; exact ho

/-- A literal laid in a new block. -/
theorem OwT.lit (E : Elt P enc K e t z) (w : World) (cs : Array Value) (xs : List α) (h : cs.toList = xs.flatMap enc) (hn : xs.length ≤ 1000000000) :
    OwT enc K e w.heap.size (w.alloc (.cells cs e)) (.slice (some ⟨w.heap.size, 0, none⟩) xs.length xs.length) xs := by
  have := World.ownsRow_lit (base := w.heap.size) (e := e) (size := K) w cs xs.length (Nat.le_refl _) (by unfold maxLen; omega) (by rw [← Array.length_toList, h, flatMap_len enc K E.len])
  rw [h] at this
  exact this
end

/-- An argument that is a slice, read at each element. -/
theorem RdT.of_trod {α H : Type} {enc0 : TypeId × Value → H} {P : Program} {w : World} {base : Nat} {spare : Nat → Bool} {held : Bool} {t e : TypeId} {K fuel : Nat} {v : Value} {x : DataW H × List MemPlace} {enc : α → List Value} {Good : α → Prop}
    (ht : P.underlying t = some (.slice e)) (hC : P.cellsOf e = K) (hp : 0 < K) (hlen : ∀ x, (enc x).length = K)
    (helem : ∀ n cs y, cs.length = K → DataW.trod enc0 P w base spare held n e cs = some y → ∃ x : α, enc x = cs ∧ Good x)
    (h : DataW.trod enc0 P w base spare held fuel t [v] = some x) : ∃ xs : List α, RdT enc K w v xs ∧ ∀ x ∈ xs, Good x := by
  rcases Go.Deep.open_slice ht h with ⟨h0, _⟩ | ⟨a, len, cap, m, n, D, Pl, hcs, hb, hl, hm, hmm, hx, hi⟩
  · simp only [List.cons.injEq, and_true] at h0
    subst h0
    exact ⟨[], RdT.nil _ _ _, by simp⟩
  · simp only [List.cons.injEq, and_true] at hcs
    subst hcs
    have hlm : len ≤ m := by rw [hmm]; split <;> omega
    have key : ∀ i, i < len → ∃ x : α, (∀ j y, (enc x)[j]? = some y → w.cell? (a.add (i * K + j)) = some y) ∧ Good x := by
      intro i hi'
      obtain ⟨cs', h1, h2⟩ := hi i (by omega)
      rw [hC] at h1
      obtain ⟨_, hcl, hcell⟩ := World.cells?_some h1
      obtain ⟨x, hx, hg⟩ := helem n cs' _ hcl h2
      refine ⟨x, fun j y hy => ?_, hg⟩
      have hj : j < K := by rw [← hlen x]; exact (List.getElem?_eq_some_iff.1 hy).1
      rw [← Go.Deep.add_add, hcell j hj, ← hx]; exact hy
    by_cases hz : len = 0
    · subst hz
      exact ⟨[], ⟨some a, cap, rfl, Nat.zero_le _, hm, by simp, fun k x hx => by simp at hx⟩, by simp⟩
    · obtain ⟨x0, -⟩ := key 0 (by omega)
      have : Inhabited α := ⟨x0⟩
      obtain ⟨f, hf⟩ := Go.Deep.choose_lt key
      refine ⟨(List.range len).map f, ?_, ?_⟩
      · have e1 : ((List.range len).map f).length = len := by simp
        refine ⟨some a, cap, by rw [e1], by rw [e1]; exact hl, hm, by simp, fun k x hx => ?_⟩
        have hk : k < len := by have := (List.getElem?_eq_some_iff.1 hx).1; rwa [e1] at this
        have hxe : x = f k := by simp [List.getElem?_map, List.getElem?_range hk] at hx; exact hx.symm
        subst hxe
        obtain ⟨b, o, sp⟩ := a
        have hc := (hf k hk).1
        have hpos : ∃ y, (enc (f k))[0]? = some y := ⟨_, List.getElem?_eq_getElem (by rw [hlen]; exact hp)⟩
        obtain ⟨y0, hy0⟩ := hpos
        obtain ⟨f0, _⟩ := hf 0 (by omega)
        have hsp : sp = none := by
          obtain ⟨z0, hz0⟩ : ∃ y, (enc (f 0))[0]? = some y := ⟨_, List.getElem?_eq_getElem (by rw [hlen]; exact hp)⟩
          have := f0 0 z0 hz0
          simpa [Addr.add] using World.cell?_spot this
        subst hsp
        have hadd : ∀ j, (⟨b, o, none⟩ : Addr).add j = ⟨b, o + j, none⟩ := fun j => by unfold Addr.add; split <;> simp_all
        refine ⟨b, o, rfl, ?_, fun j y hy => ?_⟩
        · have := World.block_lt_of_cell? w _ (hc 0 y0 hy0)
          rwa [hadd] at this
        · have := hc j y hy
          rw [hadd] at this
          rw [Nat.add_assoc]; exact this
      · intro x hx
        obtain ⟨i, hi', rfl⟩ := List.mem_map.1 hx
        exact (hf i (by simpa using hi')).2

theorem bnext {w a b : World} (h : Below w.heap.size w a) (k : Below a.heap.size a b) : Below w.heap.size w b := h.trans (k.mono h.size)
theorem bdrew {w a b : World} (h : Below w.heap.size w a) (k : Below a.drew.heap.size a.drew b) : Below w.heap.size w b := h.drew.trans (k.mono h.size)
theorem bref (w : World) : Below w.heap.size w w := Below.refl _ _

theorem RdT.of_block {α : Type} {enc : α → List Value} {K : Nat} (hK : ∀ x, (enc x).length = K) {w : World} {b : Nat} {cs : Array Value} {e : TypeId} {m : Nat × Nat} {xs : List α} (h : w.heap[b]? = some (.cells cs e m)) (hc : cs.toList = xs.flatMap enc) (hn : xs.length ≤ 1000000000) :
    RdT enc K w (.slice (some ⟨b, 0, none⟩) xs.length xs.length) xs := by
  refine ⟨_, _, rfl, Nat.le_refl _, by unfold maxLen; omega, by simp, fun k x hx => ⟨b, 0, rfl, (Array.getElem?_eq_some_iff.1 h).1, fun j y hy => ?_⟩⟩
  have h2 := flatMap_get enc K hK xs k x j y hx hy
  rw [← hc] at h2
  simp only [World.cell?, h, Nat.zero_add, Option.isSome_none, Bool.false_eq_true, if_false]
  simpa using h2

/-- Behind a law that may have written one owned row. -/
theorem bgrown {w a b : World} {row : Option Nat} (h : Below w.heap.size w a) (hg : a.grownBy b row) (hr : ∀ k, row = some k → w.heap.size ≤ k) : Below w.heap.size w b := h.grown hg h.size hr

theorem heap_two_old (w : World) (o p : Obj) : ((w.alloc o).alloc p).heap[w.heap.size]? = some o := (heap_alloc_old (w.alloc o) p (by simp)).trans (heap_alloc_new w o)
theorem heap_two_new (w : World) (o p : Obj) : ((w.alloc o).alloc p).heap[w.heap.size + 1]? = some p := by
  have := heap_alloc_new (w.alloc o) p
  simpa using this

/-- An owned row out of a block that is known whole. -/
theorem OwT.of_block {α : Type} {P : Program} {enc : α → List Value} {K : Nat} {e t : TypeId} {z : α} (E : Elt P enc K e t z) {w : World} {g base : Nat} {cs : Array Value} {xs : List α} (h : w.heap[g]? = some (.cells cs e (0, 0))) (hc : cs.toList = xs.flatMap enc) (hn : xs.length ≤ 1000000000) (hb : base ≤ g) :
    OwT enc K e base w (.slice (some ⟨g, 0, none⟩) xs.length xs.length) xs := by
  have hl := flatMap_len enc K E.len xs
  refine ⟨hl, .inr ⟨g, xs.length, cs, rfl, hb, h, Nat.le_refl _, by unfold maxLen; omega, by rw [← Array.length_toList, hc, hl], ?_⟩⟩
  rw [hc, List.take_of_length_le (by omega)]

theorem RdT.take {α : Type} {enc : α → List Value} {K : Nat} {w : World} {a : Option Addr} {n c i : Nat} {xs : List α} (h : RdT enc K w (.slice a n c) xs) (hi : i ≤ n) : RdT enc K w (.slice a i c) (xs.take i) := by
  obtain ⟨a', c', hv, h1, h2, h0, h3⟩ := h
  simp only [Value.slice.injEq] at hv
  obtain ⟨rfl, rfl, rfl⟩ := hv
  have hl : (xs.take i).length = i := by simp; omega
  refine ⟨a, c, by rw [hl], by rw [hl]; omega, h2, h0, fun k x hx => ?_⟩
  rw [List.getElem?_take] at hx
  split at hx
  · exact h3 k x hx
  · cases hx

theorem RdT.drop {α : Type} {enc : α → List Value} {K : Nat} {w : World} {b o n c j : Nat} {xs : List α} (h : RdT enc K w (.slice (some ⟨b, o, none⟩) n c) xs) (hj : j ≤ n) : RdT enc K w (.slice (some ⟨b, o + j * K, none⟩) (n - j) (c - j)) (xs.drop j) := by
  obtain ⟨a', c', hv, h1, h2, h0, h3⟩ := h
  simp only [Value.slice.injEq] at hv
  obtain ⟨rfl, rfl, rfl⟩ := hv
  have hl : (xs.drop j).length = xs.length - j := by simp
  refine ⟨_, _, by rw [hl], by rw [hl]; omega, by omega, by simp, fun k x hx => ?_⟩
  rw [List.getElem?_drop] at hx
  obtain ⟨b', o', e, hlt, hc⟩ := h3 (j + k) x hx
  simp only [Option.some.injEq, Addr.mk.injEq, and_true] at e
  obtain ⟨rfl, rfl⟩ := e
  refine ⟨b, o + j * K, rfl, hlt, fun i y hy => ?_⟩
  have := hc i y hy
  rwa [Nat.add_mul, ← Nat.add_assoc] at this

theorem RdT.empty {α : Type} (enc : α → List Value) (K : Nat) (w : World) (ad : Addr) (c : Nat) (hc : c ≤ maxLen) : RdT enc K w (.slice (some ad) 0 c) [] :=
  ⟨some ad, c, rfl, Nat.zero_le _, hc, by simp, fun k x h => by simp at h⟩

/-- A block of three cells that the call has laid: its cells, and that it may be written. -/
theorem blk3 {w : World} {g : Nat} {x y z : Value} {e : TypeId} (h : w.heap[g]? = some (.cells #[x, y, z] e (0, 0))) :
    w.cell? ⟨g, 0, none⟩ = some x ∧ w.cell? ⟨g, 1, none⟩ = some y ∧ w.cell? ⟨g, 2, none⟩ = some z ∧ w.frozen? ⟨g, 0, none⟩ = false ∧ w.frozen? ⟨g, 1, none⟩ = false ∧ w.frozen? ⟨g, 2, none⟩ = false ∧ g < w.heap.size :=
  ⟨by rw [cell_of_row w g 0 _ e (0, 0) h]; rfl, by rw [cell_of_row w g 1 _ e (0, 0) h]; rfl, by rw [cell_of_row w g 2 _ e (0, 0) h]; rfl, frozen_of_row w g 0 _ e h, frozen_of_row w g 1 _ e h, frozen_of_row w g 2 _ e h, (Array.getElem?_eq_some_iff.1 h).1⟩
theorem blk1 {w : World} {g : Nat} {x : Value} {e : TypeId} (h : w.heap[g]? = some (.cells #[x] e (0, 0))) : w.cell? ⟨g, 0, none⟩ = some x ∧ w.frozen? ⟨g, 0, none⟩ = false ∧ g < w.heap.size :=
  ⟨by rw [cell_of_row w g 0 _ e (0, 0) h]; rfl, frozen_of_row w g 0 _ e h, (Array.getElem?_eq_some_iff.1 h).1⟩
theorem blk2 {w : World} {g : Nat} {x y : Value} {e : TypeId} (h : w.heap[g]? = some (.cells #[x, y] e (0, 0))) :
    w.cell? ⟨g, 0, none⟩ = some x ∧ w.cell? ⟨g, 1, none⟩ = some y ∧ w.frozen? ⟨g, 0, none⟩ = false ∧ w.frozen? ⟨g, 1, none⟩ = false ∧ g < w.heap.size :=
  ⟨by rw [cell_of_row w g 0 _ e (0, 0) h]; rfl, by rw [cell_of_row w g 1 _ e (0, 0) h]; rfl, frozen_of_row w g 0 _ e h, frozen_of_row w g 1 _ e h, (Array.getElem?_eq_some_iff.1 h).1⟩

/-- Behind a call: a block that lay there lies there. -/
theorem bkept {w w' : World} {g : Nat} {o : Obj} (hb : Below w.heap.size w w') (h : w.heap[g]? = some o) : w'.heap[g]? = some o := (hb.block g (Array.getElem?_eq_some_iff.1 h).1).trans h
theorem balloc (w : World) (o : Obj) : Below w.heap.size w (w.alloc o) := (bref w).alloc (Nat.le_refl _) o
theorem bthen {w b : World} {o : Obj} (k : Below (w.alloc o).heap.size (w.alloc o) b) : Below w.heap.size w b := bnext (balloc w o) k
theorem bset {w a : World} {p : Addr} {u : Value} (h : Below w.heap.size w a) (hp : w.heap.size ≤ p.block) : Below w.heap.size w (a.setCell p u) := h.setCell hp u

/-- A store into another block than the owned row's. -/
theorem OwT.set {α : Type} {enc : α → List Value} {K e base : Nat} {w : World} {v : Value} {xs : List α} (h : OwT enc K e base w v xs) (p : Addr) (u : Value) (hp : p.block < base ∨ ∀ b, v.ownBlock = some b → p.block ≠ b) : OwT enc K e base (w.setCell p u) v xs := by
  obtain ⟨h1, h2⟩ := h
  refine ⟨h1, ?_⟩
  rcases h2 with h2 | ⟨g, cap, cur, hv, hg, hh, r⟩
  · exact .inl h2
  · refine .inr ⟨g, cap, cur, hv, hg, ?_, r⟩
    rw [Below.heap_setCell _ _ _ _ ?_]
    · exact hh
    · rcases hp with hp | hp
      · omega
      · exact (hp g (by rw [hv]; rfl)).symm

/-- What is left of a bound, or -1. -/
def szv (left n : Int) : Int := if left - n < 0 then -1 else left - n
theorem szv_neg {left n : Int} (h : left < n) : szv left n = -1 := by unfold szv; rw [if_pos (by omega)]
theorem szv_pos {left n : Int} (h : n ≤ left) : szv left n = left - n := by unfold szv; rw [if_neg (by omega)]

theorem heap_alloc_at (w : World) (o : Obj) (n : Nat) (h : n = w.heap.size) : (w.alloc o).heap[n]? = some o := by subst h; exact heap_alloc_new w o

theorem gkept {w w' : World} {g : Nat} {o : Obj} {row : Option Nat} (hg : w.grownBy w' row) (h : w.heap[g]? = some o) (hne : row ≠ some g) : w'.heap[g]? = some o := (hg.block g (Array.getElem?_eq_some_iff.1 h).1 (fun e => hne e.symm)).trans h
theorem akept {w : World} {g : Nat} {o : Obj} (p : Obj) (h : w.heap[g]? = some o) : (w.alloc p).heap[g]? = some o := (heap_alloc_old w p (Array.getElem?_eq_some_iff.1 h).1).trans h

theorem cell_set3 {w : World} {b g : Nat} (o o1 o2 o3 : Nat) (u1 u2 u3 : Value) (h : b ≠ g) : (((w.setCell ⟨g, o1, none⟩ u1).setCell ⟨g, o2, none⟩ u2).setCell ⟨g, o3, none⟩ u3).cell? ⟨b, o, none⟩ = w.cell? ⟨b, o, none⟩ :=
  World.cell?_of_block ((Below.heap_setCell _ _ _ _ h).trans ((Below.heap_setCell _ _ _ _ h).trans (Below.heap_setCell _ _ _ _ h)))

theorem RdT.dropIf {α : Type} {enc : α → List Value} {K : Nat} {w : World} {b o n c j : Nat} {xs : List α} (h : RdT enc K w (.slice (some ⟨b, o, none⟩) n c) xs) (hj : j ≤ n) :
    RdT enc K w (.slice (if c = j then some ⟨b, o, none⟩ else some ⟨b, o + j * K, none⟩) (n - j) (c - j)) (xs.drop j) := by
  by_cases hc : c = j
  · rw [if_pos hc]
    obtain ⟨a', c', hv, h1, h2, h0, h3⟩ := h
    simp only [Value.slice.injEq] at hv
    obtain ⟨rfl, rfl, rfl⟩ := hv
    have : xs.drop j = [] := List.drop_eq_nil_of_le (by omega)
    rw [this, show xs.length - j = 0 by omega]
    exact RdT.empty _ _ _ _ _ (by omega)
  · rw [if_neg hc]; exact h.drop hj

theorem ret_bool {a b : Bool} (h : a = b) : Ending.returned (.bool a) = .returned (.bool b) := by rw [h]
theorem ret_int {k : IntKind} {a b : Int} (h : a = b) : Ending.returned (.int k a) = .returned (.int k b) := by rw [h]

end Go.Proofs.YtojknkpjnchchaaGreatDoor
namespace Go.Proofs.YtojknkpjnchchaaGreatDoor
open Go.ChangeShapes Go.WideShapes Go.RowKit
set_option linter.all false
set_option maxRecDepth 100000

theorem take_eq_succ {α : Type} {xs ys : List α} {k : Nat} {x y : α} (hx : xs[k]? = some x) (hy : ys[k]? = some y) (h : xs.take k = ys.take k) (e : x = y) : xs.take (k + 1) = ys.take (k + 1) := by
  rw [List.take_add_one, List.take_add_one, h, hx, hy, e]

theorem ne_of_get {α : Type} {xs ys : List α} {k : Nat} {x y : α} (hx : xs[k]? = some x) (hy : ys[k]? = some y) (e : x ≠ y) : xs ≠ ys := by
  rintro rfl; rw [hx] at hy; exact e (Option.some.inj hy)

/-- The first k elements are marked. -/
def markedBy {α : Type} (ms xs : List α) (k : Nat) : List α := ms.take k ++ xs.drop k
theorem markedBy_zero {α : Type} (ms xs : List α) : markedBy ms xs 0 = xs := by simp [markedBy]
theorem markedBy_all {α : Type} (ms xs : List α) (h : ms.length = xs.length) : markedBy ms xs xs.length = ms := by
  unfold markedBy
  rw [List.drop_length, List.append_nil, List.take_of_length_le (by omega)]
theorem markedBy_len {α : Type} (ms xs : List α) (k : Nat) (h : ms.length = xs.length) : (markedBy ms xs k).length = xs.length := by simp [markedBy]; omega
theorem markedBy_step {α : Type} (ms xs : List α) (k : Nat) (x : α) (hl : ms.length = xs.length) (hx : ms[k]? = some x) : (markedBy ms xs k).set k x = markedBy ms xs (k + 1) := by
  have h : k < xs.length := by rw [← hl]; exact (List.getElem?_eq_some_iff.1 hx).1
  unfold markedBy
  rw [List.take_add_one, hx, List.set_append, if_neg (by simp; omega)]
  simp [hl, Nat.min_eq_left (Nat.le_of_lt h)]
  rw [List.drop_eq_getElem_cons h]
  rfl

/-- n lies between a and b. -/
def btw (a n b : Int) : Bool := decide (a ≤ n ∧ n ≤ b)

/-- The first place at which p holds, or -1. -/
def idxOf {α : Type} (p : α → Bool) (xs : List α) : Int := if xs.any p then (xs.findIdx p : Int) else -1

theorem idxOf_at {α : Type} {p : α → Bool} {xs : List α} {k : Nat} {x : α} (hx : xs[k]? = some x) (h : (xs.take k).any p = false) (hp : p x = true) : idxOf p xs = k := by
  obtain ⟨hk, rfl⟩ := List.getElem?_eq_some_iff.1 hx
  unfold idxOf
  have : xs.any p = true := List.any_eq_true.2 ⟨_, List.getElem_mem hk, hp⟩
  rw [if_pos this]
  congr 1
  rw [List.findIdx_eq hk]
  refine ⟨hp, fun j hj => ?_⟩
  rw [List.any_eq_false] at h
  have := h xs[j] (by rw [List.mem_take_iff_getElem]; exact ⟨j, by omega, rfl⟩)
  simpa using this

theorem any_take_succ {α : Type} {p : α → Bool} {xs : List α} {k : Nat} {x : α} (hx : xs[k]? = some x) (h : (xs.take k).any p = false) (hp : p x = false) : (xs.take (k + 1)).any p = false := by
  rw [List.take_add_one, hx]; simp [List.any_append, h, hp]

theorem idxOf_none {α : Type} {p : α → Bool} {xs : List α} {k : Nat} (hk : xs.length ≤ k) (h : (xs.take k).any p = false) : idxOf p xs = -1 := by
  rw [List.take_of_length_le hk] at h
  simp [idxOf, h]

theorem idxOf_map {α : Type} (p : α → Bool) (xs : List α) : idxOf id (xs.map p) = idxOf p xs := by
  unfold idxOf
  rw [List.any_map, List.findIdx_map]
  rfl
theorem any_map_id {α : Type} (p : α → Bool) (xs : List α) : (xs.map p).any id = xs.any p := by rw [List.any_map]; rfl
theorem get_map {α : Type} {p : α → Bool} {xs : List α} {k : Nat} {m : α} {b : Bool} (h : xs[k]? = some m) (h2 : (xs.map p)[k]? = some b) : b = p m := by
  rw [List.getElem?_map, h] at h2
  exact (Option.some.inj h2).symm

theorem enters_of {P : Program} {f : FuncId} {fn : Func} {c : Code} (hf : P.funcs[f]? = some fn) (hname : (fn.name == "runtime.NumGoroutine") = false) (hb : fn.body = some c) : ∀ (args : Array Value) (w : World), (callFunc f args).run P w = .ok (.enter f args) w := by
  intro args w
  have h1 : fn.name ≠ "runtime.NumGoroutine" := by simpa using hname
  simp [callFunc, hf, h1, hb, mark]

end Go.Proofs.YtojknkpjnchchaaGreatDoor
namespace Go.Proofs.YtojknkpjnchchaaGreatDoor
open Go.ChangeShapes Go.WideShapes Go.RowKit
set_option linter.all false
set_option maxRecDepth 100000

/-- w' is w with new blocks, and with changes in the blocks from lo to hi alone. -/
structure Chg (lo hi : Nat) (w w' : World) : Prop where
  os : w'.os = w.os
  tape : w'.tape = w.tape
  output : w'.output = w.output
  size : w.heap.size ≤ w'.heap.size
  block : ∀ k, k < w.heap.size → (k < lo ∨ hi ≤ k) → w'.heap[k]? = w.heap[k]?

theorem Chg.of_below {w w' : World} (h : Below w.heap.size w w') : Chg 0 0 w w' := ⟨h.os, h.tape, h.output, h.size, fun k hk _ => h.block k hk⟩
theorem Chg.below {lo hi : Nat} {w0 w w' : World} (h : Below w0.heap.size w0 w) (c : Chg lo hi w w') (hl : w0.heap.size ≤ lo) : Below w0.heap.size w0 w' :=
  ⟨c.os.trans h.os, c.tape.trans h.tape, c.output.trans h.output, Nat.le_trans h.size c.size, fun k hk => (c.block k (Nat.lt_of_lt_of_le hk h.size) (.inl (Nat.lt_of_lt_of_le hk hl))).trans (h.block k hk)⟩
theorem Chg.refl (lo hi : Nat) (w : World) : Chg lo hi w w := ⟨rfl, rfl, rfl, Nat.le_refl _, fun _ _ _ => rfl⟩
theorem Chg.trans {lo hi : Nat} {a b c : World} (h : Chg lo hi a b) (k : Chg lo hi b c) : Chg lo hi a c :=
  ⟨k.os.trans h.os, k.tape.trans h.tape, k.output.trans h.output, Nat.le_trans h.size k.size, fun i hi hne => (k.block i (Nat.lt_of_lt_of_le hi h.size) hne).trans (h.block i hi hne)⟩
theorem Chg.mono {lo hi lo' hi' : Nat} {a b : World} (h : Chg lo hi a b) (h1 : lo' ≤ lo) (h2 : hi ≤ hi') : Chg lo' hi' a b :=
  ⟨h.os, h.tape, h.output, h.size, fun i hi hne => h.block i hi (by omega)⟩
theorem Chg.of_grown {lo hi g : Nat} {w w' : World} (h : w.grownBy w' (some g)) (h1 : lo ≤ g) (h2 : g < hi) : Chg lo hi w w' :=
  ⟨h.os, h.tape, h.output, h.size, fun k hk hne => h.block k hk (by simp; omega)⟩
theorem Chg.of_mark {lo hi : Nat} {w w' : World} {v : Value} (hin : ∀ k, v.ownBlock = some k → lo ≤ k ∧ k < hi) (h1 : ∀ g, v.ownBlock = some g → w.grownBy w' (some g)) (h2 : v.ownBlock = none → w = w') : Chg lo hi w w' := by
  cases hv : v.ownBlock with
  | none => rw [h2 hv]; exact Chg.refl _ _ _
  | some g => exact Chg.of_grown (h1 g hv) (hin g hv).1 (hin g hv).2

theorem Chg.kept {lo hi g : Nat} {w w' : World} {o : Obj} (c : Chg lo hi w w') (h : w.heap[g]? = some o) (hne : g < lo ∨ hi ≤ g) : w'.heap[g]? = some o :=
  (c.block g (Array.getElem?_eq_some_iff.1 h).1 hne).trans h

/-- An owned row in a block from lo to hi. -/
def OwF {α : Type} (enc : α → List Value) (K : Nat) (e : TypeId) (lo hi : Nat) (w : World) (v : Value) (xs : List α) : Prop :=
  OwT enc K e lo w v xs ∧ ∀ k, v.ownBlock = some k → lo ≤ k ∧ k < hi

theorem OwF.of {α : Type} {enc : α → List Value} {K : Nat} {e base lo : Nat} {w : World} {v : Value} {xs : List α} (h : OwT enc K e base w v xs) (hl : lo ≤ base) : OwF enc K e lo w.heap.size w v xs :=
  ⟨h.mono hl, fun k hk => ⟨Nat.le_trans hl (World.ownsRow.lt h k hk).1, (World.ownsRow.lt h k hk).2⟩⟩
theorem OwF.keep {α : Type} {enc : α → List Value} {K e lo hi lo' hi' : Nat} {w w' : World} {v : Value} {xs : List α} (h : OwF enc K e lo hi w v xs) (c : Chg lo' hi' w w') (d : hi ≤ lo' ∨ hi' ≤ lo) : OwF enc K e lo hi w' v xs := by
  obtain ⟨⟨h1, h2⟩, h3⟩ := h
  refine ⟨⟨h1, ?_⟩, h3⟩
  rcases h2 with h2 | ⟨g, cap, cur, hv, hg, hh, r⟩
  · exact .inl h2
  · have := h3 g (by rw [hv]; rfl)
    exact .inr ⟨g, cap, cur, hv, hg, c.kept hh (by omega), r⟩
theorem OwF.rd {α : Type} {enc : α → List Value} {K : Nat} (hK : ∀ x, (enc x).length = K) {e lo hi : Nat} {w : World} {v : Value} {xs : List α} (h : OwF enc K e lo hi w v xs) : RdT enc K w v xs := h.1.rd hK
end Go.Proofs.YtojknkpjnchchaaGreatDoor
namespace Go.Proofs.YtojknkpjnchchaaGreatDoor
open Go.ChangeShapes Go.WideShapes Go.RowKit
set_option linter.all false
set_option maxRecDepth 100000

/-- The words of a slice: where it lies, how long it is, how long it may be. -/
abbrev Sl := Option Addr × Nat × Nat
def slv (s : Sl) : Value := .slice s.1 s.2.1 s.2.2
def encL (s : Sl) : List Value := [slv s]
def slN : Sl := (none, 0, 0)
theorem encL_len (s : Sl) : (encL s).length = 1 := rfl

section
variable {α : Type} {enc : α → List Value} {K : Nat} {e eo : TypeId}

theorem RdT.sl {w : World} {v : Value} {xs : List α} (h : RdT enc K w v xs) : ∃ s : Sl, v = slv s := by
  obtain ⟨a, c, rfl, -⟩ := h
  exact ⟨(a, xs.length, c), rfl⟩

/-- Rows that can be read. -/
def InR (enc : α → List Value) (K : Nat) (w : World) (rows : List Sl) (xss : List (List α)) : Prop :=
  rows.length = xss.length ∧ ∀ (k : Nat) (s : Sl) (xs : List α), rows[k]? = some s → xss[k]? = some xs → RdT enc K w (slv s) xs
/-- A slice of slices that can be read. -/
def RdN (enc : α → List Value) (K : Nat) (w : World) (v : Value) (xss : List (List α)) : Prop :=
  ∃ rows : List Sl, RdT encL 1 w v rows ∧ InR enc K w rows xss

theorem InR.below {w w' : World} {rows : List Sl} {xss : List (List α)} (h : InR enc K w rows xss) (hb : Below w.heap.size w w') : InR enc K w' rows xss :=
  ⟨h.1, fun k s xs h1 h2 => (h.2 k s xs h1 h2).below hb⟩
theorem RdN.below {w w' : World} {v : Value} {xss : List (List α)} (h : RdN enc K w v xss) (hb : Below w.heap.size w w') : RdN enc K w' v xss := by
  obtain ⟨rows, h1, h2⟩ := h
  exact ⟨rows, h1.below hb, h2.below hb⟩
theorem InR.get {w : World} {rows : List Sl} {xss : List (List α)} (h : InR enc K w rows xss) {k : Nat} {xs : List α} (hk : xss[k]? = some xs) : ∃ s, rows[k]? = some s ∧ RdT enc K w (slv s) xs := by
  have hlt : k < rows.length := by rw [h.1]; exact (List.getElem?_eq_some_iff.1 hk).1
  exact ⟨rows[k], List.getElem?_eq_getElem hlt, h.2 k _ _ (List.getElem?_eq_getElem hlt) hk⟩

/-- Rows that are owned, in blocks of their own. -/
structure InO (enc : α → List Value) (K : Nat) (e : TypeId) (lo hi : Nat) (w : World) (rows : List Sl) (xss : List (List α)) : Prop where
  len : rows.length = xss.length
  row : ∀ (k : Nat) (s : Sl) (xs : List α), rows[k]? = some s → xss[k]? = some xs → OwF enc K e lo hi w (slv s) xs
  apart : ∀ (i j : Nat) (s t : Sl), rows[i]? = some s → rows[j]? = some t → i ≠ j → ∀ b, (slv s).ownBlock = some b → (slv t).ownBlock ≠ some b

/-- An owned slice of owned slices. -/
def OwN (enc : α → List Value) (K : Nat) (e eo : TypeId) (lo hi : Nat) (w : World) (v : Value) (xss : List (List α)) : Prop :=
  ∃ rows : List Sl, OwF encL 1 eo lo hi w v rows ∧ InO enc K e lo hi w rows xss

theorem OwF.nil (lo hi : Nat) (w : World) : OwF enc K e lo hi w (.slice none 0 0) ([] : List α) :=
  ⟨World.ownsRow_nil _ _ _ _, by simp [Value.ownBlock]⟩
theorem OwF.mono {lo hi lo' hi' : Nat} {w : World} {v : Value} {xs : List α} (h : OwF enc K e lo hi w v xs) (h1 : lo' ≤ lo) (h2 : hi ≤ hi') : OwF enc K e lo' hi' w v xs :=
  ⟨h.1.mono h1, fun k hk => by have := h.2 k hk; omega⟩
/-- Every block but one reads as before: an owned row in another block stays. -/
theorem OwF.stay {lo hi : Nat} {w w' : World} {v : Value} {xs : List α} (h : OwF enc K e lo hi w v xs) (hk : ∀ g, v.ownBlock = some g → w'.heap[g]? = w.heap[g]?) : OwF enc K e lo hi w' v xs := by
  obtain ⟨⟨h1, h2⟩, h3⟩ := h
  refine ⟨⟨h1, ?_⟩, h3⟩
  rcases h2 with h2 | ⟨g, cap, cur, hv, hg, hh, r⟩
  · exact .inl h2
  · exact .inr ⟨g, cap, cur, hv, hg, (hk g (by rw [hv]; rfl)).trans hh, r⟩
/-- Owned rows of two types lie in two blocks. -/
theorem OwF.other {β : Type} {encb : β → List Value} {Kb : Nat} {lo hi lo' hi' : Nat} {w : World} {v u : Value} {xs : List α} {ys : List β} (hne : e ≠ eo) (h : OwF enc K e lo hi w v xs) (h' : OwF encb Kb eo lo' hi' w u ys)
    (g : Nat) (hv : v.ownBlock = some g) : u.ownBlock ≠ some g := by
  intro hu
  obtain ⟨⟨-, h2⟩, -⟩ := h
  obtain ⟨⟨-, h3⟩, -⟩ := h'
  rcases h2 with ⟨rfl, -⟩ | ⟨g1, c1, cur1, rfl, -, hh1, -⟩
  · simp [Value.ownBlock] at hv
  rcases h3 with ⟨rfl, -⟩ | ⟨g2, c2, cur2, rfl, -, hh2, -⟩
  · simp [Value.ownBlock] at hu
  simp only [Value.ownBlock, Option.some.injEq] at hv hu
  subst hv; subst hu
  rw [hh1] at hh2
  simp only [Option.some.injEq, Obj.cells.injEq] at hh2
  exact hne hh2.2.1
theorem OwF.lt {lo hi : Nat} {w : World} {v : Value} {xs : List α} (h : OwF enc K e lo hi w v xs) (g : Nat) (hg : v.ownBlock = some g) : lo ≤ g ∧ g < hi ∧ g < w.heap.size :=
  ⟨(h.2 g hg).1, (h.2 g hg).2, (World.ownsRow.lt h.1 g hg).2⟩

theorem InO.get {lo hi : Nat} {w : World} {rows : List Sl} {xss : List (List α)} (h : InO enc K e lo hi w rows xss) {k : Nat} {xs : List α} (hk : xss[k]? = some xs) : ∃ s, rows[k]? = some s ∧ OwF enc K e lo hi w (slv s) xs := by
  have hlt : k < rows.length := by rw [h.len]; exact (List.getElem?_eq_some_iff.1 hk).1
  exact ⟨rows[k], List.getElem?_eq_getElem hlt, h.row k _ _ (List.getElem?_eq_getElem hlt) hk⟩
theorem InO.rget {lo hi : Nat} {w : World} {rows : List Sl} {xss : List (List α)} (h : InO enc K e lo hi w rows xss) {k : Nat} {s : Sl} (hk : rows[k]? = some s) : ∃ xs, xss[k]? = some xs ∧ OwF enc K e lo hi w (slv s) xs := by
  have hlt : k < xss.length := by rw [← h.len]; exact (List.getElem?_eq_some_iff.1 hk).1
  exact ⟨xss[k], List.getElem?_eq_getElem hlt, h.row k _ _ hk (List.getElem?_eq_getElem hlt)⟩
theorem InO.rd {lo hi : Nat} {w : World} {rows : List Sl} {xss : List (List α)} (hK : ∀ x, (enc x).length = K) (h : InO enc K e lo hi w rows xss) : InR enc K w rows xss :=
  ⟨h.len, fun k s xs h1 h2 => (h.row k s xs h1 h2).rd hK⟩
theorem InO.keep {lo hi lo' hi' : Nat} {w w' : World} {rows : List Sl} {xss : List (List α)} (h : InO enc K e lo hi w rows xss) (c : Chg lo' hi' w w') (d : hi ≤ lo' ∨ hi' ≤ lo) : InO enc K e lo hi w' rows xss :=
  ⟨h.len, fun k s xs h1 h2 => (h.row k s xs h1 h2).keep c d, h.apart⟩
theorem InO.stay {lo hi : Nat} {w w' : World} {rows : List Sl} {xss : List (List α)} (h : InO enc K e lo hi w rows xss) (hk : ∀ s g, s ∈ rows → (slv s).ownBlock = some g → w'.heap[g]? = w.heap[g]?) : InO enc K e lo hi w' rows xss :=
  ⟨h.len, fun k s xs h1 h2 => (h.row k s xs h1 h2).stay (fun g hg => hk s g (List.mem_of_getElem? h1) hg), h.apart⟩
theorem InO.mono {lo hi lo' hi' : Nat} {w : World} {rows : List Sl} {xss : List (List α)} (h : InO enc K e lo hi w rows xss) (h1 : lo' ≤ lo) (h2 : hi ≤ hi') : InO enc K e lo' hi' w rows xss :=
  ⟨h.len, fun k s xs a b => (h.row k s xs a b).mono h1 h2, h.apart⟩
theorem InO.lt {lo hi : Nat} {w : World} {rows : List Sl} {xss : List (List α)} (h : InO enc K e lo hi w rows xss) {s : Sl} {g : Nat} (hs : s ∈ rows) (hg : (slv s).ownBlock = some g) : lo ≤ g ∧ g < hi ∧ g < w.heap.size := by
  obtain ⟨k, hk⟩ := List.getElem?_of_mem hs
  obtain ⟨xs, -, ho⟩ := h.rget hk
  exact ho.lt g hg
theorem InO.empty (lo hi : Nat) (w : World) : InO enc K e lo hi w [] ([] : List (List α)) :=
  ⟨rfl, fun k s xs h => by simp at h, fun i j s t h => by simp at h⟩
theorem rep {β : Type} {n k : Nat} {x y : β} (h : (List.replicate n x)[k]? = some y) : y = x := List.eq_of_mem_replicate (List.mem_of_getElem? h)
/-- Rows of nil. -/
theorem InO.nils (lo hi n : Nat) (w : World) : InO enc K e lo hi w (List.replicate n slN) (List.replicate n ([] : List α)) := by
  refine ⟨by simp, fun k s xs h1 h2 => ?_, fun i j s t h1 h2 _ b hb => ?_⟩
  · obtain rfl := rep h1
    obtain rfl := rep h2
    exact OwF.nil _ _ _
  · obtain rfl := rep h1
    simp [slv, slN, Value.ownBlock] at hb
/-- One row more, in a block of its own. -/
theorem InO.snoc {lo hi lo' hi' : Nat} {w : World} {rows : List Sl} {xss : List (List α)} {s : Sl} {xs : List α} (h : InO enc K e lo hi w rows xss) (hs : OwF enc K e lo' hi' w (slv s) xs) (h1 : hi ≤ lo') (h2 : lo ≤ lo') (h3 : hi ≤ hi') :
    InO enc K e lo hi' w (rows ++ [s]) (xss ++ [xs]) := by
  refine ⟨by simp [h.len], fun k t ys a b => ?_, fun i j t u a b hij g hg => ?_⟩
  · rw [List.getElem?_append] at a b
    by_cases hk : k < rows.length
    · rw [if_pos hk] at a
      rw [if_pos (by rw [← h.len]; exact hk)] at b
      exact (h.row k t ys a b).mono (Nat.le_refl _) h3
    · rw [if_neg hk] at a
      rw [if_neg (by rw [← h.len]; exact hk)] at b
      have hz : k - rows.length = 0 := by
        have := (List.getElem?_eq_some_iff.1 a).1
        simp at this; omega
      have hz2 : k - xss.length = 0 := by rw [← h.len]; exact hz
      rw [hz] at a
      rw [hz2] at b
      simp at a b
      subst a; subst b
      exact hs.mono h2 (Nat.le_refl _)
  · rw [List.getElem?_append] at a b
    have inl : ∀ (k : Nat) (r : Sl), k < rows.length → rows[k]? = some r → ∀ b, (slv r).ownBlock = some b → b < hi := fun k r _ hr b hb => (h.lt (List.mem_of_getElem? hr) hb).2.1
    have inr : ∀ b, (slv s).ownBlock = some b → lo' ≤ b := fun b hb => (hs.2 b hb).1
    have last : ∀ (k : Nat) (r : Sl), ¬ k < rows.length → [s][k - rows.length]? = some r → r = s ∧ k = rows.length := by
      intro k r hk hr
      have hz : k - rows.length = 0 := by
        have := (List.getElem?_eq_some_iff.1 hr).1
        simp at this; omega
      rw [hz] at hr
      simp at hr
      exact ⟨hr.symm, by omega⟩
    by_cases hi1 : i < rows.length <;> by_cases hj1 : j < rows.length
    · rw [if_pos hi1] at a; rw [if_pos hj1] at b
      exact h.apart i j t u a b hij g hg
    · rw [if_pos hi1] at a; rw [if_neg hj1] at b
      obtain ⟨rfl, -⟩ := last j u hj1 b
      intro hc
      have := inl i t hi1 a g hg
      have := inr g hc
      omega
    · rw [if_neg hi1] at a; rw [if_pos hj1] at b
      obtain ⟨rfl, -⟩ := last i t hi1 a
      intro hc
      have := inl j u hj1 b g hc
      have := inr g hg
      omega
    · rw [if_neg hi1] at a; rw [if_neg hj1] at b
      obtain ⟨-, e1⟩ := last i t hi1 a
      obtain ⟨-, e2⟩ := last j u hj1 b
      omega
/-- One row is another, in a block of its own. -/
theorem InO.put {lo hi lo' hi' : Nat} {w : World} {rows : List Sl} {xss : List (List α)} {s : Sl} {xs : List α} (h : InO enc K e lo hi w rows xss) (hs : OwF enc K e lo' hi' w (slv s) xs) (h1 : hi ≤ lo' ∨ (slv s).ownBlock = none) (h2 : lo ≤ lo') (h3 : hi ≤ hi') (k : Nat) :
    InO enc K e lo hi' w (rows.set k s) (xss.set k xs) := by
  have hl := h.len
  refine ⟨by simp [h.len], fun i t ys a b => ?_, fun i j t u a b hij g hg => ?_⟩
  · rw [List.getElem?_set] at a b
    by_cases hk : k = i
    · subst hk
      rw [if_pos rfl] at a b
      split at a
      · split at b
        · simp only [Option.some.injEq] at a b
          subst a; subst b
          exact hs.mono h2 (Nat.le_refl _)
        · simp at b
      · simp at a
    · rw [if_neg hk] at a b
      exact (h.row i t ys a b).mono (Nat.le_refl _) h3
  · rw [List.getElem?_set] at a b
    have inl : ∀ (k : Nat) (r : Sl), rows[k]? = some r → ∀ b, (slv r).ownBlock = some b → b < hi := fun k r hr b hb => (h.lt (List.mem_of_getElem? hr) hb).2.1
    have inr : ∀ b, (slv s).ownBlock = some b → hi ≤ b := fun b hb => by
      rcases h1 with h1 | h1
      · exact Nat.le_trans h1 (hs.2 b hb).1
      · rw [h1] at hb; simp at hb
    by_cases hi1 : k = i <;> by_cases hj1 : k = j
    · omega
    · rw [if_pos hi1] at a; rw [if_neg hj1] at b
      split at a
      · simp only [Option.some.injEq] at a
        subst a
        intro hc
        have := inl j u b g hc
        have := inr g hg
        omega
      · simp at a
    · rw [if_neg hi1] at a; rw [if_pos hj1] at b
      split at b
      · simp only [Option.some.injEq] at b
        subst b
        intro hc
        have := inl i t a g hg
        have := inr g hc
        omega
      · simp at b
    · rw [if_neg hi1] at a; rw [if_neg hj1] at b
      exact h.apart i j t u a b hij g hg

theorem OwN.rd {lo hi : Nat} {w : World} {v : Value} {xss : List (List α)} (hK : ∀ x, (enc x).length = K) (h : OwN enc K e eo lo hi w v xss) : RdN enc K w v xss := by
  obtain ⟨rows, h1, h2⟩ := h
  exact ⟨rows, h1.rd encL_len, h2.rd hK⟩
theorem OwN.keep {lo hi lo' hi' : Nat} {w w' : World} {v : Value} {xss : List (List α)} (h : OwN enc K e eo lo hi w v xss) (c : Chg lo' hi' w w') (d : hi ≤ lo' ∨ hi' ≤ lo) : OwN enc K e eo lo hi w' v xss := by
  obtain ⟨rows, h1, h2⟩ := h
  exact ⟨rows, h1.keep c d, h2.keep c d⟩
theorem OwN.mono {lo hi lo' hi' : Nat} {w : World} {v : Value} {xss : List (List α)} (h : OwN enc K e eo lo hi w v xss) (h1 : lo' ≤ lo) (h2 : hi ≤ hi') : OwN enc K e eo lo' hi' w v xss := by
  obtain ⟨rows, a, b⟩ := h
  exact ⟨rows, a.mono h1 h2, b.mono h1 h2⟩
theorem OwN.below {lo hi : Nat} {w w' : World} {v : Value} {xss : List (List α)} (h : OwN enc K e eo lo hi w v xss) (hb : Below w.heap.size w w') : OwN enc K e eo lo hi w' v xss :=
  h.keep (Chg.of_below hb) (.inr (Nat.zero_le _))

/-- A store of an owned row into the outer slice. -/
theorem OwN.stored {lo hi lo' hi' g n c : Nat} {w : World} {xss : List (List α)} {s : Sl} {xs : List α} (hne : e ≠ eo) (h : OwN enc K e eo lo hi w (.slice (some ⟨g, 0, none⟩) n c) xss)
    (hs : OwF enc K e lo' hi' w (slv s) xs) (h1 : hi ≤ lo' ∨ (slv s).ownBlock = none) (h2 : lo ≤ lo') (h3 : hi ≤ hi') (k : Nat) (hk : k < xss.length) :
    OwN enc K e eo lo hi' (w.setCell ⟨g, k, none⟩ (slv s)) (.slice (some ⟨g, 0, none⟩) n c) (xss.set k xs) := by
  obtain ⟨rows, a, b⟩ := h
  have hg : g < hi := (a.2 g rfl).2
  have old : ∀ t : Sl, ∀ b', (slv t).ownBlock = some b' → b' ≠ g → (w.setCell ⟨g, k, none⟩ (slv s)).heap[b']? = w.heap[b']? := fun t b' _ hn => Below.heap_setCell w _ _ _ hn
  have hs' : OwF enc K e lo' hi' (w.setCell ⟨g, k, none⟩ (slv s)) (slv s) xs := by
    refine hs.stay fun b' hb' => Below.heap_setCell w _ _ _ ?_
    intro he
    subst he
    exact hs.other hne a b' hb' rfl
  have b' : InO enc K e lo hi (w.setCell ⟨g, k, none⟩ (slv s)) rows xss := by
    refine b.stay fun t b' ht hb' => Below.heap_setCell w _ _ _ ?_
    intro he
    subst he
    obtain ⟨i, hi⟩ := List.getElem?_of_mem ht
    obtain ⟨ys, -, ho⟩ := b.rget hi
    exact ho.other hne a b' hb' rfl
  refine ⟨rows.set k s, ⟨a.1.stored1 encL_len k s (slv s) (by rw [b.len]; exact hk) rfl, fun b' hb' => ?_⟩, b'.put hs' h1 h2 h3 k⟩
  have := a.2 b' hb'
  omega

/-- One row is changed in its place. -/
theorem InO.mod {lo hi : Nat} {w w' : World} {rows : List Sl} {xss : List (List α)} {s : Sl} {xs : List α} {k : Nat} (h : InO enc K e lo hi w rows xss) (hk : rows[k]? = some s) (hs : OwT enc K e lo w' (slv s) xs)
    (h1 : ∀ g, (slv s).ownBlock = some g → w.grownBy w' (some g)) (h2 : (slv s).ownBlock = none → w = w') : InO enc K e lo hi w' rows (xss.set k xs) := by
  obtain ⟨ys, hys, ho⟩ := h.rget hk
  refine ⟨by simp [h.len], fun i t zs a b => ?_, h.apart⟩
  rw [List.getElem?_set] at b
  by_cases hki : k = i
  · subst hki
    rw [if_pos rfl] at b
    rw [hk] at a
    split at b
    · simp only [Option.some.injEq] at a b
      subst a; subst b
      exact ⟨hs, ho.2⟩
    · simp at b
  · rw [if_neg hki] at b
    have hr := h.row i t zs a b
    cases hv : (slv s).ownBlock with
    | none => rw [← h2 hv]; exact hr
    | some g =>
      refine hr.stay fun g' hg' => (h1 g hv).block g' (hr.lt g' hg').2.2 ?_
      intro he
      simp at he
      subst he
      exact h.apart i k t s a hk (fun e => hki e.symm) _ hg' hv
theorem OwN.mod {lo hi : Nat} {w w' : World} {v : Value} {rows : List Sl} {xss : List (List α)} {s : Sl} {xs : List α} {k : Nat} (hne : e ≠ eo) (h0 : OwF encL 1 eo lo hi w v rows) (h : InO enc K e lo hi w rows xss) (hk : rows[k]? = some s) (hs : OwT enc K e lo w' (slv s) xs)
    (h1 : ∀ g, (slv s).ownBlock = some g → w.grownBy w' (some g)) (h2 : (slv s).ownBlock = none → w = w') : OwF encL 1 eo lo hi w' v rows ∧ InO enc K e lo hi w' rows (xss.set k xs) ∧ Chg lo hi w w' := by
  obtain ⟨ys, hys, ho⟩ := h.rget hk
  refine ⟨?_, h.mod hk hs h1 h2, Chg.of_mark ho.2 h1 h2⟩
  cases hv : (slv s).ownBlock with
  | none => rw [← h2 hv]; exact h0
  | some g =>
    refine h0.stay fun g' hg' => (h1 g hv).block g' (h0.lt g' hg').2.2 ?_
    intro he
    simp at he
    subst he
    exact ho.other hne h0 _ hv hg'
end
end Go.Proofs.YtojknkpjnchchaaGreatDoor
namespace Go.Proofs.YtojknkpjnchchaaGreatDoor
open Go.ChangeShapes Go.WideShapes Go.RowKit
set_option linter.all false
set_option maxRecDepth 100000

section
variable {α : Type} {P : Program} {enc : α → List Value} {K : Nat} {e t : TypeId} {z : α}

theorem OwT.cut (hK : ∀ x, (enc x).length = K) {w : World} {base g n c i : Nat} {xs : List α} (h : OwT enc K e base w (.slice (some ⟨g, 0, none⟩) n c) xs) (hi : i ≤ n) : OwT enc K e base w (.slice (some ⟨g, 0, none⟩) i c) (xs.take i) := by
  have hn := (OwT.open hK h).1
  subst hn
  have hl : (xs.take i).length = i := by simp; omega
  obtain ⟨h1, h2⟩ := h
  rcases h2 with ⟨h', _⟩ | ⟨g', cap, cur, hv, hb, hg, hn, hm, hs, ht⟩
  · simp at h'
  · simp only [Value.slice.injEq, Option.some.injEq, Addr.mk.injEq, and_true, true_and] at hv
    obtain ⟨rfl, rfl⟩ := hv
    refine ⟨by rw [flatMap_len enc K hK], .inr ⟨g, c, cur, by rw [hl], hb, hg, by rw [hl]; omega, hm, hs, ?_⟩⟩
    rw [hl]
    have e1 : xs.flatMap enc = (xs.take i).flatMap enc ++ (xs.drop i).flatMap enc := by rw [← List.flatMap_append, List.take_append_drop]
    have e2 : cur.toList.take (i * K) = (cur.toList.take (xs.length * K)).take (i * K) := by
      rw [List.take_take, Nat.min_eq_left (Nat.mul_le_mul_right _ hi)]
    rw [e2, ht, e1, List.take_append_of_le_length (by rw [flatMap_len enc K hK, hl]; exact Nat.le_refl _), List.take_of_length_le (by rw [flatMap_len enc K hK, hl]; exact Nat.le_refl _)]

/-- append within the capacity: the value stays where it is. -/
theorem append_fits_T (E : Elt P enc K e t z) {w : World} {ops : Array Oper} {rest : List Oper} {o : Oper} {a : Act} {Q : Exit → Act → World → Prop} (hgd : o.guard = none) (s x : Operand)
    (ho : o.op = .call { callee := .builtin .append, args := #[s, x], argTypes := #[t, t] }) (base g n c m cc : Nat) (ad : Option Addr) (xs ys : List α) (hs : a.eval s = .slice (some ⟨g, 0, none⟩) n c) (hx : a.eval x = .slice ad m cc)
    (hown : OwT enc K e base w (.slice (some ⟨g, 0, none⟩) n c) xs) (hr : RdT enc K w (.slice ad m cc) ys) (hroom : n + m ≤ c)
    (h : ∀ w', OwT enc K e base w' (.slice (some ⟨g, 0, none⟩) (n + m) c) (xs ++ ys) → w.grownBy w' (some g) → wpList P ops Q rest (a.put o.dst (.slice (some ⟨g, 0, none⟩) (n + m) c)) w') : wpList P ops Q (o :: rest) a w := by
  obtain ⟨i, zv, hi, hz, hsz, hby, hzc⟩ := E.info
  have hn := (OwT.open E.len hown).1
  subst hn
  have hr' := hr
  obtain ⟨a', c', hv, h1, h2, h0, h3⟩ := hr
  simp only [Value.slice.injEq] at hv
  obtain ⟨rfl, rfl, rfl⟩ := hv
  refine wpList_plain hgd fun _ hK => ?_
  have hfl : ((xs ++ ys).flatMap enc) = xs.flatMap enc ++ ys.flatMap enc := List.flatMap_append
  cases ad with
  | none =>
    have hc := h0 rfl
    subst hc
    have hy : ys = [] := List.eq_nil_of_length_eq_zero (by omega)
    subst hy
    have hrun := run_append_owned_none (P := P) w base t o.type e i K E.sl hi _ xs.length _ hown
    unfold Oper.wp execOp
    simp only [ho, resolve, invoke, builtin, Sem.run_bind, Sem.run_pure, Result.andThen_ok, List.map_toArray, List.map_cons, List.map_nil, hs, hx, List.length_nil, hrun]
    exact hK _ _ (h w (by simpa using hown) (World.grownBy.refl _ _))
  | some ad =>
    obtain ⟨w', hrun, r1, r2⟩ := run_append_fits (P := P) w base t o.type e i K E.sl hi hsz g xs.length c (xs.flatMap enc) hown ad ys.length cc (ys.flatMap enc) (flatMap_len enc K E.len ys) (RdT.flat E.len E.pos hr')
      (fun u hu => by obtain ⟨x, _, hx⟩ := List.mem_flatMap.1 hu; exact E.one x u hx) hroom
    unfold Oper.wp execOp
    simp only [ho, resolve, invoke, builtin, Sem.run_bind, Sem.run_pure, Result.andThen_ok, List.map_toArray, List.map_cons, List.map_nil, hs, hx, hrun]
    refine hK _ _ (h w' ?_ r2)
    unfold OwT
    rw [hfl, List.length_append]; exact r1

/-- append at a step of a region that draws its order, behind a guard that is met. -/
theorem step_append_G (E : Elt P enc K e t z) {w : World} {ops : Array Oper} {o : Oper} {a : Act} {k : Act → World → Prop} {Q : Exit → Act → World → Prop} {F : Prop} (hw : Region.wanted o (yielded ops a.tmps) = true) (s x : Operand)
    (ho : o.op = .call { callee := .builtin .append, args := #[s, x], argTypes := #[t, t] }) (base : Nat) (v u : Value) (xs ys : List α) (hs : a.eval s = v) (hx : a.eval x = u)
    (hown : OwT enc K e base w v xs) (hr : RdT enc K w u ys) (hb : xs.length + ys.length ≤ 1000000000) (hbase : base ≤ w.heap.size)
    (h : ∀ v' w', OwT enc K e base w' v' (xs ++ ys) → w.grownBy w' v.ownBlock → (v'.ownBlock = v.ownBlock ∨ v'.ownBlock = some w.heap.size) → (ys ≠ [] → v' ≠ .slice none 0 0) → k (a.put o.dst v') w') :
    if Region.wanted o (yielded ops a.tmps) = true then Oper.wp P o a w k Q else F := by
  rw [if_pos hw]
  exact wp_append_T E s x ho base v u xs ys hs hx hown hr hb hbase h

theorem zeroCells_toList (z : Array Value) (n : Nat) : (Builtin.zeroCells z n).size = n * z.size := size_zeroCells z n

/-- clear behind an owned row, within its capacity. -/
theorem clear_T (E : Elt P enc K e t z) {zv : Value} (hzv : ∀ w, (zeroValue e).run P w = .ok zv w) (hzc : zv.cells.size = K) (hz1 : ∀ u ∈ zv.cells.toList, u.oneCell' = true) {w : World} {ops : Array Oper} {rest : List Oper} {o : Oper} {a : Act} {Q : Exit → Act → World → Prop} (hgd : o.guard = none) (s : Operand)
    (ho : o.op = .call { callee := .builtin .clear, args := #[s], argTypes := #[t] }) (base g n c m cc off : Nat) (xs : List α) (hs : a.eval s = .slice (some ⟨g, off, none⟩) m cc) (hoff : off = n * K) (hm : 0 < m)
    (hown : OwT enc K e base w (.slice (some ⟨g, 0, none⟩) n c) xs) (hroom : n + m ≤ c)
    (h : ∀ w', OwT enc K e base w' (.slice (some ⟨g, 0, none⟩) n c) xs → w.grownBy w' (some g) → wpList P ops Q rest (a.put o.dst (.tuple #[])) w') : wpList P ops Q (o :: rest) a w := by
  subst hoff
  have hn := (OwT.open E.len hown).1
  subst hn
  obtain ⟨h1, h2⟩ := hown
  rcases h2 with ⟨h', _⟩ | ⟨g', cap, cur, hv, hb, hg, hn, hmx, hsz, ht⟩
  · simp at h'
  · simp only [Value.slice.injEq, Option.some.injEq, Addr.mk.injEq, and_true, true_and] at hv
    obtain ⟨rfl, rfl⟩ := hv
    refine wpList_plain hgd fun _ hK => ?_
    have hzl : (Builtin.zeroCells zv.cells m).toList.length = m * K := by rw [Array.length_toList, size_zeroCells, hzc]
    have hfit : xs.length * K + 0 + (Builtin.zeroCells zv.cells m).toList.length ≤ cur.size := by
      rw [hzl, hsz, Nat.add_zero, ← Nat.add_mul]; exact Nat.mul_le_mul_right _ hroom
    have hone : ∀ u ∈ (Builtin.zeroCells zv.cells m).toList, u.oneCell' = true := by
      intro u hu
      simp only [Builtin.zeroCells] at hu
      simp at hu
      obtain ⟨j, hj, rfl⟩ := hu
      have hp := E.pos
      have hlt : j % zv.cells.size < zv.cells.size := Nat.mod_lt _ (by omega)
      rw [getElem!_pos zv.cells _ hlt]
      exact hz1 _ (by simp)
    have hst := run_storeCells_at (P := P) g (xs.length * K) e (Builtin.zeroCells zv.cells m).toList 0 cur w hg hfit hone
    have hrun : (Builtin.clear_ #[t] o.type #[.slice (some ⟨g, xs.length * K, none⟩) m cc]).run P w = .ok (.tuple #[]) (w.setRow g (cur.toList.take (xs.length * K + 0) ++ (Builtin.zeroCells zv.cells m).toList ++ cur.toList.drop (xs.length * K + 0 + (Builtin.zeroCells zv.cells m).toList.length)).toArray) := by
      obtain ⟨q, rfl⟩ : ∃ q, m = q + 1 := ⟨m - 1, by omega⟩
      generalize w.setRow g (cur.toList.take (xs.length * K + 0) ++ (Builtin.zeroCells zv.cells (q + 1)).toList ++ cur.toList.drop (xs.length * K + 0 + (Builtin.zeroCells zv.cells (q + 1)).toList.length)).toArray = Wn at hst ⊢
      simp [Builtin.clear_, run_underlying E.sl, hzv, hst]
    unfold Oper.wp execOp
    simp only [ho, resolve, invoke, builtin, Sem.run_bind, Sem.run_pure, Result.andThen_ok, List.map_toArray, List.map_cons, List.map_nil, hs, hrun]
    refine hK _ _ (h _ ⟨h1, .inr ⟨g, c, _, rfl, hb, setRow_heap w g cur _ e _ hg, hn, hmx, ?_, ?_⟩⟩ ⟨rfl, rfl, rfl, by simp, fun k _ hk => setRow_other w g k _ (fun e => hk (by simp [e]))⟩)
    · simp only [List.size_toArray, List.length_append, List.length_take, List.length_drop, Array.length_toList, Nat.add_zero] at hfit ⊢
      omega
    · have hle : xs.length * K ≤ cur.toList.length := by have e := Array.length_toList (xs := cur); omega
      simp only [Nat.add_zero]
      rw [List.append_assoc, List.take_append_of_le_length (by rw [List.length_take]; exact Nat.le_min.2 ⟨Nat.le_refl _, hle⟩), List.take_take, Nat.min_self, ht]
end
end Go.Proofs.YtojknkpjnchchaaGreatDoor
namespace Go.Proofs.YtojknkpjnchchaaGreatDoor
open Go.ChangeShapes Go.WideShapes Go.RowKit
set_option linter.all false
set_option maxRecDepth 100000

/-- A fact on some blocks: 'foot' are the blocks it speaks of, 'own' those that may be written. -/
structure Res where
  foot : Nat → Prop
  own : Nat → Prop
  sub : ∀ k, own k → foot k
  holds : World → Prop
  keep : ∀ {w w' : World}, holds w → (∀ k, foot k → w'.heap[k]? = w.heap[k]?) → w.heap.size ≤ w'.heap.size → holds w'
  lt : ∀ {w : World}, holds w → ∀ k, foot k → k < w.heap.size

/-- The world w has grown out of w0 (with changes in block 'row' alone); the facts hold, of blocks apart from each other. -/
structure Bun (w0 : World) (row : Option Nat) (w : World) (rs : List Res) : Prop where
  grow : w0.grownBy w row
  all : ∀ r ∈ rs, r.holds w ∧ ∀ k, r.own k → w0.heap.size ≤ k ∨ row = some k
  apart : rs.Pairwise fun a b => ∀ k, a.foot k → ¬ b.foot k

/-- w' is w with new blocks and with changes in the blocks of S. -/
structure Chs (S : Nat → Prop) (w w' : World) : Prop where
  os : w'.os = w.os
  tape : w'.tape = w.tape
  output : w'.output = w.output
  size : w.heap.size ≤ w'.heap.size
  block : ∀ k, k < w.heap.size → ¬ S k → w'.heap[k]? = w.heap[k]?

theorem Chs.of_below {S : Nat → Prop} {w w' : World} (h : Below w.heap.size w w') : Chs S w w' := ⟨h.os, h.tape, h.output, h.size, fun k hk _ => h.block k hk⟩
theorem Chs.of_grown {S : Nat → Prop} {w w' : World} {row : Option Nat} (h : w.grownBy w' row) (hr : ∀ k, row = some k → S k) : Chs S w w' :=
  ⟨h.os, h.tape, h.output, h.size, fun k hk hn => h.block k hk (fun e => hn (hr k e.symm))⟩
theorem Chs.set {S : Nat → Prop} (w : World) (p : Addr) (u : Value) (hp : S p.block) : Chs S w (w.setCell p u) :=
  ⟨rfl, rfl, rfl, by simp, fun k _ hn => Below.heap_setCell w p u k (fun e => hn (by rw [e]; exact hp))⟩
theorem Chs.trans {S : Nat → Prop} {a b c : World} (h : Chs S a b) (k : Chs S b c) : Chs S a c :=
  ⟨k.os.trans h.os, k.tape.trans h.tape, k.output.trans h.output, Nat.le_trans h.size k.size, fun i hi hn => (k.block i (Nat.lt_of_lt_of_le hi h.size) hn).trans (h.block i hi hn)⟩

section
variable {w0 w w' : World} {row : Option Nat} {r r' : Res} {rs : List Res}

theorem Bun.refl (w0 : World) (row : Option Nat) : Bun w0 row w0 [] := ⟨World.grownBy.refl _ _, by simp, List.Pairwise.nil⟩

theorem Bun.size (h : Bun w0 row w rs) : w0.heap.size ≤ w.heap.size := h.grow.size

/-- One fact turns into another; what is written are blocks that it owns. -/
theorem Bun.mod (h : Bun w0 row w (r :: rs)) (c : Chs r.own w w') (r' : Res) (hr : r'.holds w') (ho : ∀ k, r'.own k → r.own k ∨ w.heap.size ≤ k) (hf : ∀ k, r'.foot k → r.foot k ∨ w.heap.size ≤ k) : Bun w0 row w' (r' :: rs) := by
  have hw := h.grow
  have h0 := h.all r (by simp)
  have hap := List.pairwise_cons.1 h.apart
  have hg : w0.grownBy w' row := ⟨c.os.trans hw.os, c.tape.trans hw.tape, c.output.trans hw.output, Nat.le_trans hw.size c.size, fun k hk hne => (c.block k (Nat.lt_of_lt_of_le hk hw.size) (fun e => by
    rcases h0.2 k e with h1 | h1
    · omega
    · exact hne h1.symm)).trans (hw.block k hk hne)⟩
  refine ⟨hg, ?_, ?_⟩
  · intro q hq
    rcases List.mem_cons.1 hq with rfl | hq
    · refine ⟨hr, fun k hk => ?_⟩
      rcases ho k hk with h1 | h1
      · exact h0.2 k h1
      · have := hw.size; exact .inl (by omega)
    · have h2 := h.all q (by simp [hq])
      refine ⟨q.keep h2.1 (fun k hk => c.block k (q.lt h2.1 k hk) (fun e => hap.1 q hq k (r.sub k e) hk)) c.size, h2.2⟩
  · refine List.pairwise_cons.2 ⟨fun q hq k hk hk2 => ?_, hap.2⟩
    rcases hf k hk with h1 | h1
    · exact hap.1 q hq k h1 hk2
    · have := q.lt (h.all q (by simp [hq])).1 k hk2
      omega

theorem Bun.call (h : Bun w0 row w rs) (hb : Below w.heap.size w w') : Bun w0 row w' rs := by
  have hw := h.grow
  refine ⟨⟨hb.os.trans hw.os, hb.tape.trans hw.tape, hb.output.trans hw.output, Nat.le_trans hw.size hb.size, fun k hk hne => (hb.block k (Nat.lt_of_lt_of_le hk hw.size)).trans (hw.block k hk hne)⟩, fun q hq => ?_, h.apart⟩
  have h2 := h.all q hq
  exact ⟨q.keep h2.1 (fun k hk => hb.block k (q.lt h2.1 k hk)) hb.size, h2.2⟩

/-- A fact on new blocks. -/
theorem Bun.add (h : Bun w0 row w rs) (hb : Below w.heap.size w w') (r : Res) (hr : r.holds w') (hf : ∀ k, r.foot k → w.heap.size ≤ k) : Bun w0 row w' (r :: rs) := by
  have h2 := h.call hb
  have hs := h.grow.size
  refine ⟨h2.grow, fun q hq => ?_, List.pairwise_cons.2 ⟨fun q hq k hk hk2 => ?_, h2.apart⟩⟩
  · rcases List.mem_cons.1 hq with rfl | hq
    · exact ⟨hr, fun k hk => .inl (Nat.le_trans hs (hf k (q.sub k hk)))⟩
    · exact h2.all q hq
  · have := q.lt (h.all q hq).1 k hk2
    have := hf k hk
    omega

theorem Bun.drop (h : Bun w0 row w (r :: rs)) : Bun w0 row w rs := ⟨h.grow, fun q hq => h.all q (by simp [hq]), (List.pairwise_cons.1 h.apart).2⟩

theorem Bun.front (h : Bun w0 row w rs) (i : Nat) {r : Res} (hi : rs[i]? = some r) : Bun w0 row w (r :: rs.eraseIdx i) := by
  have hp : (r :: rs.eraseIdx i).Perm rs := by
    obtain ⟨hl, rfl⟩ := List.getElem?_eq_some_iff.1 hi
    rw [List.eraseIdx_eq_take_drop_succ]
    have e : rs = rs.take i ++ rs[i] :: rs.drop (i + 1) := by rw [← List.drop_eq_getElem_cons hl, List.take_append_drop]
    exact (List.perm_middle (a := rs[i]) (l₁ := rs.take i) (l₂ := rs.drop (i + 1))).symm.trans (by rw [← e])
  refine ⟨h.grow, fun q hq => h.all q (hp.mem_iff.1 hq), ?_⟩
  exact hp.symm.pairwise h.apart (fun {a b} hab k hk hk2 => hab k hk2 hk)

theorem Bun.get (h : Bun w0 row w rs) (i : Nat) {r : Res} (hi : rs[i]? = some r) : r.holds w := (h.all r (List.mem_of_getElem? hi)).1
theorem Bun.ok (h : Bun w0 row w rs) (i : Nat) {r : Res} (hi : rs[i]? = some r) (k : Nat) (hk : r.own k) : w0.heap.size ≤ k ∨ row = some k := (h.all r (List.mem_of_getElem? hi)).2 k hk

/-- Two facts in one. -/
theorem Bun.join (h : Bun w0 row w (r :: r' :: rs)) (q : Res) (hq : q.holds w) (ho : ∀ k, q.own k → r.own k ∨ r'.own k) (hf : ∀ k, q.foot k → r.foot k ∨ r'.foot k) : Bun w0 row w (q :: rs) := by
  have hap := List.pairwise_cons.1 h.apart
  have hap2 := List.pairwise_cons.1 hap.2
  refine ⟨h.grow, fun p hp => ?_, List.pairwise_cons.2 ⟨fun p hp k hk hk2 => ?_, hap2.2⟩⟩
  · rcases List.mem_cons.1 hp with rfl | hp
    · refine ⟨hq, fun k hk => ?_⟩
      rcases ho k hk with h1 | h1
      · exact (h.all r (by simp)).2 k h1
      · exact (h.all r' (by simp)).2 k h1
    · exact h.all p (by simp [hp])
  · rcases hf k hk with h1 | h1
    · exact hap.1 p (by simp [hp]) k h1 hk2
    · exact hap2.1 p hp k h1 hk2
/-- One fact in two. -/
theorem Bun.split {q : Res} (h : Bun w0 row w (q :: rs)) (r r' : Res) (hr : r.holds w) (hr' : r'.holds w) (ho : ∀ k, r.own k ∨ r'.own k → q.own k) (hf : ∀ k, r.foot k ∨ r'.foot k → q.foot k) (hd : ∀ k, r.foot k → ¬ r'.foot k) : Bun w0 row w (r :: r' :: rs) := by
  have hap := List.pairwise_cons.1 h.apart
  have h0 := h.all q (by simp)
  refine ⟨h.grow, fun p hp => ?_, List.pairwise_cons.2 ⟨fun p hp k hk hk2 => ?_, List.pairwise_cons.2 ⟨fun p hp k hk hk2 => hap.1 p hp k (hf k (.inr hk)) hk2, hap.2⟩⟩⟩
  · rcases List.mem_cons.1 hp with rfl | hp
    · exact ⟨hr, fun k hk => h0.2 k (ho k (.inl hk))⟩
    · rcases List.mem_cons.1 hp with rfl | hp
      · exact ⟨hr', fun k hk => h0.2 k (ho k (.inr hk))⟩
      · exact h.all p (by simp [hp])
  · rcases List.mem_cons.1 hp with rfl | hp
    · exact hd k hk hk2
    · exact hap.1 p hp k (hf k (.inl hk)) hk2

theorem Bun.below (h : Bun w0 none w rs) : Below w0.heap.size w0 w := grown_below h.grow
theorem Bun.drew (h : Bun w0 row w rs) : Bun w0 row w.drew rs := h.call (bref w).drew
end

/-- A block that is known whole. -/
def Res.blk (g : Nat) (o : Obj) : Res where
  foot k := k = g
  own k := k = g
  sub k h := h
  holds w := w.heap[g]? = some o
  keep h hk _ := (hk g rfl).trans h
  lt h k hk := by subst hk; exact (Array.getElem?_eq_some_iff.1 h).1

/-- An owned row. -/
def Res.row {α : Type} (enc : α → List Value) (K : Nat) (e : TypeId) (v : Value) (xs : List α) : Res where
  foot k := v.ownBlock = some k
  own k := v.ownBlock = some k
  sub k h := h
  holds w := OwT enc K e 0 w v xs
  keep {w w'} h hk hs := by
    obtain ⟨h1, h2⟩ := h
    refine ⟨h1, ?_⟩
    rcases h2 with h2 | ⟨g, cap, cur, hv, hg, hh, r⟩
    · exact .inl h2
    · exact .inr ⟨g, cap, cur, hv, hg, (hk g (by rw [hv]; rfl)).trans hh, r⟩
  lt {w} h k hk := (World.ownsRow.lt h k hk).2

/-- Owned rows, in blocks apart from each other. -/
def Res.rows {α : Type} (enc : α → List Value) (K : Nat) (e : TypeId) (ss : List Sl) (xss : List (List α)) : Res where
  foot k := ∃ s ∈ ss, (slv s).ownBlock = some k
  own k := ∃ s ∈ ss, (slv s).ownBlock = some k
  sub k h := h
  holds w := InO enc K e 0 w.heap.size w ss xss
  keep {w w'} h hk hs := (h.stay fun s g hm hg => hk g ⟨s, hm, hg⟩).mono (Nat.le_refl _) hs
  lt {w} h k hk := by
    obtain ⟨s, hm, hg⟩ := hk
    exact (h.lt hm hg).2.2

theorem OwT.up {α : Type} {enc : α → List Value} {K e base base' : Nat} {w : World} {v : Value} {xs : List α} (h : OwT enc K e base w v xs) (hb : ∀ k, v.ownBlock = some k → base' ≤ k) : OwT enc K e base' w v xs := by
  obtain ⟨h1, h2⟩ := h
  refine ⟨h1, ?_⟩
  rcases h2 with h2 | ⟨g, cap, cur, hv, hg, r⟩
  · exact .inl h2
  · exact .inr ⟨g, cap, cur, hv, hb g (by rw [hv]; rfl), r⟩

section
variable {w0 w w' : World} {row : Option Nat} {rs : List Res} {α : Type} {enc : α → List Value} {K : Nat} {e eo : TypeId} {v : Value} {xs : List α} {xss : List (List α)}

/-- What an owned row of the bundle is to the caller. -/
theorem Bun.ow (h : Bun w0 none w rs) (i : Nat) (hi : rs[i]? = some (Res.row enc K e v xs)) : OwT enc K e w0.heap.size w v xs :=
  OwT.up (h.get i hi) fun k hk => by
    rcases h.ok i hi k hk with h1 | h1
    · exact h1
    · cases h1
theorem Bun.owB {B : Nat} {o : Res} (h : Bun w0 (some B) w rs) (i j : Nat) (hi : rs[i]? = some (Res.row enc K e v xs)) (hj : rs[j]? = some o) (ho : o.foot B) (hne : i ≠ j) : OwT enc K e w0.heap.size w v xs :=
  OwT.up (h.get i hi) fun k hk => by
    rcases h.ok i hi k hk with h1 | h1
    · exact h1
    · exfalso
      simp only [Option.some.injEq] at h1
      subst h1
      obtain ⟨li, ei⟩ := List.getElem?_eq_some_iff.1 hi
      obtain ⟨lj, ej⟩ := List.getElem?_eq_some_iff.1 hj
      rcases Nat.lt_or_gt_of_ne hne with hlt | hlt
      · have := List.pairwise_iff_getElem.1 h.apart i j li lj hlt B
        rw [ei, ej] at this
        exact this hk ho
      · have := List.pairwise_iff_getElem.1 h.apart j i lj li hlt B
        rw [ei, ej] at this
        exact this ho hk
theorem Bun.rd (h : Bun w0 row w rs) (i : Nat) (hi : rs[i]? = some (Res.row enc K e v xs)) (hK : ∀ x, (enc x).length = K) : RdT enc K w v xs := OwT.rd hK (h.get i hi)

theorem Bun.addT (h : Bun w0 row w rs) (ho : OwT enc K e w.heap.size w' v xs) (hb : Below w.heap.size w w') : Bun w0 row w' (Res.row enc K e v xs :: rs) :=
  h.add hb (Res.row enc K e v xs) (ho.mono (Nat.zero_le _)) fun k hk => (World.ownsRow.lt ho k hk).1
theorem Bun.alloc (h : Bun w0 row w rs) (o : Obj) : Bun w0 row (w.alloc o) (Res.blk w.heap.size o :: rs) :=
  h.add (balloc w o) (Res.blk w.heap.size o) (heap_alloc_new w o) fun k hk => Nat.le_of_eq hk.symm
theorem Bun.over (h : Bun w0 row w rs) (o : Obj) : Bun w0 row (w.alloc o) rs := h.call (balloc w o)

/-- A store into a block that is known whole. -/
theorem Bun.put {g : Nat} {cs : Array Value} {t : TypeId} (h : Bun w0 row w (Res.blk g (.cells cs t (0, 0)) :: rs)) (i : Nat) (u : Value) : Bun w0 row (w.setCell ⟨g, i, none⟩ u) (Res.blk g (.cells (cs.setIfInBounds i u) t (0, 0)) :: rs) := by
  refine h.mod (Chs.set w ⟨g, i, none⟩ u (by exact (rfl : g = g))) (Res.blk g _) ?_ (fun k hk => .inl hk) (fun k hk => .inl hk)
  exact heap_setCell_same w g i cs t u (h.get 0 rfl)

/-- A slice of slices that a call made: two facts. -/
theorem Bun.addN (h : Bun w0 row w rs) (hne : e ≠ eo) (ho : OwN enc K e eo w.heap.size w'.heap.size w' v xss) (hb : Below w.heap.size w w') : ∃ ss, Bun w0 row w' (Res.row encL 1 eo v ss :: Res.rows enc K e ss xss :: rs) := by
  obtain ⟨ss, h1, h2⟩ := ho
  refine ⟨ss, ?_⟩
  have hin : InO enc K e 0 w'.heap.size w' ss xss := h2.mono (Nat.zero_le _) (Nat.le_refl _)
  have hrow : OwT encL 1 eo 0 w' v ss := h1.1.mono (Nat.zero_le _)
  have hb2 := h.add hb (Res.rows enc K e ss xss) hin (fun k ⟨s, hs, hk⟩ => (h2.lt hs hk).1)
  have h3 := h.call hb
  have hs := h.grow.size
  have hv : ∀ k, v.ownBlock = some k → w.heap.size ≤ k := fun k hk => (h1.2 k hk).1
  refine ⟨hb2.grow, fun q hq => ?_, List.pairwise_cons.2 ⟨fun q hq k hk hk2 => ?_, hb2.apart⟩⟩
  · rcases List.mem_cons.1 hq with rfl | hq
    · exact ⟨hrow, fun k hk => .inl (Nat.le_trans hs (hv k hk))⟩
    · exact hb2.all q hq
  · rcases List.mem_cons.1 hq with rfl | hq
    · obtain ⟨s, hs, hg⟩ := hk2
      obtain ⟨i, hi⟩ := List.getElem?_of_mem hs
      obtain ⟨ys, -, ho⟩ := h2.rget hi
      exact ho.other hne h1 k hg hk
    · have := q.lt (h.all q hq).1 k hk2
      have := hv k hk
      omega

theorem Bun.rdN (h : Bun w0 row w rs) (i j : Nat) {ss : List Sl} (hi : rs[i]? = some (Res.row encL 1 eo v ss)) (hj : rs[j]? = some (Res.rows enc K e ss xss)) (hK : ∀ x, (enc x).length = K) : RdN enc K w v xss :=
  ⟨ss, h.rd i hi encL_len, InO.rd hK (h.get j hj)⟩

theorem Bun.owN (h : Bun w0 none w rs) (i j : Nat) {ss : List Sl} (hi : rs[i]? = some (Res.row encL 1 eo v ss)) (hj : rs[j]? = some (Res.rows enc K e ss xss)) : OwN enc K e eo w0.heap.size w.heap.size w v xss := by
  have h1 := h.ow i hi
  have h2 : InO enc K e 0 w.heap.size w ss xss := h.get j hj
  refine ⟨ss, ⟨h1, fun k hk => World.ownsRow.lt h1 k hk⟩, h2.len, fun k s xs a b => ?_, h2.apart⟩
  have h3 := h2.row k s xs a b
  have h4 : ∀ g, (slv s).ownBlock = some g → w0.heap.size ≤ g := fun g hg => by
    rcases h.ok j hj g ⟨s, List.mem_of_getElem? a, hg⟩ with h5 | h5
    · exact h5
    · cases h5
  exact ⟨h3.1.up h4, fun g hg => ⟨h4 g hg, (h3.2 g hg).2⟩⟩

/-- A store of a new row into the outer slice. -/
theorem Bun.putRow {g n c k : Nat} {s : Sl} {ss : List Sl} (h : Bun w0 row w (Res.row enc K e (slv s) xs :: Res.row encL 1 eo (.slice (some ⟨g, 0, none⟩) n c) ss :: Res.rows enc K e ss xss :: rs)) (hk : k < n) :
    Bun w0 row (w.setCell ⟨g, k, none⟩ (slv s)) (Res.row encL 1 eo (.slice (some ⟨g, 0, none⟩) n c) (ss.set k s) :: Res.rows enc K e (ss.set k s) (xss.set k xs) :: rs) := by
  have a1 := List.pairwise_cons.1 h.apart
  have a2 := List.pairwise_cons.1 a1.2
  have hs : OwT enc K e 0 w (slv s) xs := h.get 0 rfl
  have ho : OwT encL 1 eo 0 w (.slice (some ⟨g, 0, none⟩) n c) ss := h.get 1 rfl
  have hi : InO enc K e 0 w.heap.size w ss xss := h.get 2 rfl
  have hn := (OwT.open encL_len ho).1
  have dsr : ∀ q, (slv s).ownBlock = some q → ∀ t ∈ ss, (slv t).ownBlock ≠ some q := fun q hq t ht he => a1.1 (Res.rows enc K e ss xss) (by simp) q hq ⟨t, ht, he⟩
  have dso : (slv s).ownBlock ≠ some g := fun he => a1.1 (Res.row encL 1 eo (.slice (some ⟨g, 0, none⟩) n c) ss) (by simp) g he rfl
  have dro : ∀ t ∈ ss, (slv t).ownBlock ≠ some g := fun t ht he => a2.1 (Res.rows enc K e ss xss) (by simp) g rfl ⟨t, ht, he⟩
  have hg : w0.heap.size ≤ g ∨ row = some g := h.ok 1 rfl g rfl
  have stay : ∀ q, q ≠ g → (w.setCell ⟨g, k, none⟩ (slv s)).heap[q]? = w.heap[q]? := fun q hq => Below.heap_setCell w ⟨g, k, none⟩ (slv s) q hq
  have hs' : OwF enc K e 0 w.heap.size (w.setCell ⟨g, k, none⟩ (slv s)) (slv s) xs := OwF.stay ⟨hs, fun q hq => World.ownsRow.lt hs q hq⟩ fun q hq => stay q (by rintro rfl; exact dso hq)
  have hi' : InO enc K e 0 w.heap.size (w.setCell ⟨g, k, none⟩ (slv s)) ss xss := hi.stay fun t q ht hq => stay q (by rintro rfl; exact dro t ht hq)
  have hw := h.grow
  refine ⟨⟨hw.os, hw.tape, hw.output, by simpa using hw.size, fun q hq hne => (stay q (by rintro rfl; rcases hg with hg | hg; omega; exact hne hg.symm)).trans (hw.block q hq hne)⟩, fun q hq => ?_, ?_⟩
  · rcases List.mem_cons.1 hq with rfl | hq
    · exact ⟨ho.stored1 encL_len k s (slv s) (by omega) rfl, fun q hq => h.ok 1 rfl q hq⟩
    rcases List.mem_cons.1 hq with rfl | hq
    · refine ⟨?_, fun q ⟨t, ht, hq⟩ => ?_⟩
      · show InO enc K e 0 (w.setCell ⟨g, k, none⟩ (slv s)).heap.size _ _ _
        simp only [World.size_setCell]
        refine ⟨by simp [hi.len], fun i t ys ha hb => ?_, fun i j t u ha hb hij q hq => ?_⟩
        · rw [List.getElem?_set] at ha hb
          by_cases hki : k = i
          · subst hki
            rw [if_pos rfl] at ha hb
            split at ha
            · split at hb
              · simp only [Option.some.injEq] at ha hb
                subst ha; subst hb; exact hs'
              · cases hb
            · cases ha
          · rw [if_neg hki] at ha hb
            exact hi'.row i t ys ha hb
        · rw [List.getElem?_set] at ha hb
          by_cases hki : k = i <;> by_cases hkj : k = j
          · omega
          · rw [if_pos hki] at ha; rw [if_neg hkj] at hb
            split at ha
            · simp only [Option.some.injEq] at ha
              subst ha
              exact dsr q hq u (List.mem_of_getElem? hb)
            · cases ha
          · rw [if_neg hki] at ha; rw [if_pos hkj] at hb
            split at hb
            · simp only [Option.some.injEq] at hb
              subst hb
              exact fun he => dsr q he t (List.mem_of_getElem? ha) hq
            · cases hb
          · rw [if_neg hki] at ha; rw [if_neg hkj] at hb
            exact hi.apart i j t u ha hb hij q hq
      · rcases List.mem_or_eq_of_mem_set ht with ht | rfl
        · exact h.ok 2 rfl q ⟨t, ht, ‹_›⟩
        · exact h.ok 0 rfl q ‹(slv t).ownBlock = some q›
    · have h2 := h.all q (List.mem_cons_of_mem _ (List.mem_cons_of_mem _ (List.mem_cons_of_mem _ hq)))
      refine ⟨q.keep h2.1 (fun i hi => stay i (by rintro rfl; exact a2.1 q (List.mem_cons_of_mem _ ‹q ∈ rs›) i rfl hi)) (by simp), h2.2⟩
  · have a3 := List.pairwise_cons.1 a2.2
    refine List.pairwise_cons.2 ⟨fun q hq i hi hi2 => ?_, List.pairwise_cons.2 ⟨fun q hq i ⟨t, ht, hi⟩ hi2 => ?_, a3.2⟩⟩
    · rcases List.mem_cons.1 hq with rfl | hq
      · obtain ⟨t, ht, hi2⟩ := hi2
        rcases List.mem_or_eq_of_mem_set ht with ht | rfl
        · exact a2.1 (Res.rows enc K e ss xss) (by simp) i hi ⟨t, ht, hi2⟩
        · exact a1.1 (Res.row encL 1 eo (.slice (some ⟨g, 0, none⟩) n c) ss) (by simp) i hi2 hi
      · exact a2.1 q (List.mem_cons_of_mem _ hq) i hi hi2
    · rcases List.mem_or_eq_of_mem_set ht with ht | rfl
      · exact a3.1 q hq i ⟨t, ht, hi⟩ hi2
      · exact a1.1 q (List.mem_cons_of_mem _ (List.mem_cons_of_mem _ hq)) i hi hi2

/-- One row more. -/
theorem Bun.snoc {s : Sl} {ss : List Sl} (h : Bun w0 row w (Res.row enc K e (slv s) xs :: Res.rows enc K e ss xss :: rs)) : Bun w0 row w (Res.rows enc K e (ss ++ [s]) (xss ++ [xs]) :: rs) := by
  have a1 := List.pairwise_cons.1 h.apart
  have hs : OwT enc K e 0 w (slv s) xs := h.get 0 rfl
  have hi : InO enc K e 0 w.heap.size w ss xss := h.get 1 rfl
  have dsr : ∀ q, (slv s).ownBlock = some q → ∀ t ∈ ss, (slv t).ownBlock ≠ some q := fun q hq t ht he => a1.1 (Res.rows enc K e ss xss) (by simp) q hq ⟨t, ht, he⟩
  have hl := hi.len
  refine h.join (Res.rows enc K e (ss ++ [s]) (xss ++ [xs])) ?_ ?_ ?_
  · refine ⟨by simp [hl], fun i t ys ha hb => ?_, fun i j t u ha hb hij q hq => ?_⟩
    · rw [List.getElem?_append] at ha hb
      by_cases hk : i < ss.length
      · rw [if_pos hk] at ha
        rw [if_pos (by omega)] at hb
        exact hi.row i t ys ha hb
      · rw [if_neg hk] at ha
        rw [if_neg (by omega)] at hb
        have e1 : i - ss.length = 0 := by have := (List.getElem?_eq_some_iff.1 ha).1; simp at this; omega
        rw [e1] at ha
        rw [show i - xss.length = 0 by omega] at hb
        simp at ha hb
        subst ha; subst hb
        exact ⟨hs, fun q hq => World.ownsRow.lt hs q hq⟩
    · rw [List.getElem?_append] at ha hb
      have last : ∀ (k : Nat) (r : Sl), ¬ k < ss.length → [s][k - ss.length]? = some r → r = s ∧ k = ss.length := by
        intro k r hk hr
        have hz : k - ss.length = 0 := by
          have := (List.getElem?_eq_some_iff.1 hr).1
          simp at this; omega
        rw [hz] at hr
        simp at hr
        exact ⟨hr.symm, by omega⟩
      by_cases hi1 : i < ss.length <;> by_cases hj1 : j < ss.length
      · rw [if_pos hi1] at ha; rw [if_pos hj1] at hb
        exact hi.apart i j t u ha hb hij q hq
      · rw [if_pos hi1] at ha; rw [if_neg hj1] at hb
        obtain ⟨rfl, -⟩ := last j u hj1 hb
        exact fun he => dsr q he t (List.mem_of_getElem? ha) hq
      · rw [if_neg hi1] at ha; rw [if_pos hj1] at hb
        obtain ⟨rfl, -⟩ := last i t hi1 ha
        exact dsr q hq u (List.mem_of_getElem? hb)
      · rw [if_neg hi1] at ha; rw [if_neg hj1] at hb
        obtain ⟨-, e1⟩ := last i t hi1 ha
        obtain ⟨-, e2⟩ := last j u hj1 hb
        omega
  · rintro k ⟨t, ht, hk⟩
    rcases List.mem_append.1 ht with ht | ht
    · exact .inr ⟨t, ht, hk⟩
    · simp at ht; subst ht; exact .inl hk
  · rintro k ⟨t, ht, hk⟩
    rcases List.mem_append.1 ht with ht | ht
    · exact .inr ⟨t, ht, hk⟩
    · simp at ht; subst ht; exact .inl hk

/-- A fact on no block. -/
theorem Bun.free (h : Bun w0 row w rs) (r : Res) (hr : r.holds w) (hf : ∀ k, ¬ r.foot k) : Bun w0 row w (r :: rs) :=
  h.add (bref w) r hr fun k hk => absurd hk (hf k)
theorem Bun.norows (h : Bun w0 row w rs) : Bun w0 row w (Res.rows enc K e [] ([] : List (List α)) :: rs) :=
  h.free (Res.rows enc K e [] []) (InO.empty _ _ _) (by rintro k ⟨s, hs, -⟩; simp at hs)
/-- Another value of the same block. -/
theorem Bun.recast {β : Type} {encb : β → List Value} {Kb eb : Nat} {v' : Value} {ys : List β} (h : Bun w0 row w (Res.row enc K e v xs :: rs)) (hr : OwT encb Kb eb 0 w v' ys) (hv : ∀ k, v'.ownBlock = some k → v.ownBlock = some k) : Bun w0 row w (Res.row encb Kb eb v' ys :: rs) :=
  h.mod (Chs.of_below (bref w)) (Res.row encb Kb eb v' ys) hr (fun k hk => .inl (hv k hk)) (fun k hk => .inl (hv k hk))
end

section
variable {w0 : World} {row : Option Nat} {rs : List Res} {α : Type} {enc : α → List Value} {K : Nat} {e t : TypeId} {z : α} {xs : List α}
/-- append onto an owned row. -/
theorem append_b {P : Program} (E : Elt P enc K e t z) {w : World} {ops : Array Oper} {rest : List Oper} {o : Oper} {a : Act} {Q : Exit → Act → World → Prop} (hgd : o.guard = none) (s x : Operand)
    (ho : o.op = .call { callee := .builtin .append, args := #[s, x], argTypes := #[t, t] }) (v u : Value) (ys : List α) (hs : a.eval s = v) (hx : a.eval x = u)
    (H : Bun w0 row w (Res.row enc K e v xs :: rs)) (hr : RdT enc K w u ys) (hb : xs.length + ys.length ≤ 1000000000)
    (h : ∀ v' w', Bun w0 row w' (Res.row enc K e v' (xs ++ ys) :: rs) → (ys ≠ [] → v' ≠ .slice none 0 0) → wpList P ops Q rest (a.put o.dst v') w') : wpList P ops Q (o :: rest) a w := by
  refine append_T E hgd s x ho 0 v u xs ys hs hx (H.get 0 rfl) hr hb (Nat.zero_le _) ?_
  intro v' w' h2 h3 h4 h5
  refine h v' w' (H.mod (Chs.of_grown h3 (fun q hq => hq)) (Res.row enc K e v' (xs ++ ys)) h2 (fun q hq => ?_) (fun q hq => ?_)) h5
  all_goals
    rcases h4 with h4 | h4
    · exact .inl (show v.ownBlock = some q from h4 ▸ hq)
    · exact .inr (by have hq' : v'.ownBlock = some q := hq; rw [h4] at hq'; simp at hq'; omega)

/-- append onto an owned row, at a step of a region that draws its order. -/
theorem step_b {P : Program} (E : Elt P enc K e t z) {w : World} {ops : Array Oper} {o : Oper} {a : Act} {k : Act → World → Prop} {Q : Exit → Act → World → Prop} {F : Prop} (hw : Region.wanted o (yielded ops a.tmps) = true) (s x : Operand)
    (ho : o.op = .call { callee := .builtin .append, args := #[s, x], argTypes := #[t, t] }) (v u : Value) (ys : List α) (hs : a.eval s = v) (hx : a.eval x = u)
    (H : Bun w0 row w (Res.row enc K e v xs :: rs)) (hr : RdT enc K w u ys) (hb : xs.length + ys.length ≤ 1000000000)
    (h : ∀ v' w', Bun w0 row w' (Res.row enc K e v' (xs ++ ys) :: rs) → (ys ≠ [] → v' ≠ .slice none 0 0) → k (a.put o.dst v') w') : if Region.wanted o (yielded ops a.tmps) = true then Oper.wp P o a w k Q else F := by
  refine step_append_G E hw s x ho 0 v u xs ys hs hx (H.get 0 rfl) hr hb (Nat.zero_le _) ?_
  intro v' w' h2 h3 h4 h5
  refine h v' w' (H.mod (Chs.of_grown h3 (fun q hq => hq)) (Res.row enc K e v' (xs ++ ys)) h2 (fun q hq => ?_) (fun q hq => ?_)) h5
  all_goals
    rcases h4 with h4 | h4
    · exact .inl (show v.ownBlock = some q from h4 ▸ hq)
    · exact .inr (by have hq' : v'.ownBlock = some q := hq; rw [h4] at hq'; simp at hq'; omega)

/-- append onto an owned row, at a step of a region that draws its order, without a guard. -/
theorem step_t {P : Program} (E : Elt P enc K e t z) {w : World} {ops : Array Oper} {o : Oper} {a : Act} {k : Act → World → Prop} {Q : Exit → Act → World → Prop} {F : Prop} (hgd : o.guard = none) (s x : Operand)
    (ho : o.op = .call { callee := .builtin .append, args := #[s, x], argTypes := #[t, t] }) (v u : Value) (ys : List α) (hs : a.eval s = v) (hx : a.eval x = u)
    (H : Bun w0 row w (Res.row enc K e v xs :: rs)) (hr : RdT enc K w u ys) (hb : xs.length + ys.length ≤ 1000000000)
    (h : ∀ v' w', Bun w0 row w' (Res.row enc K e v' (xs ++ ys) :: rs) → (ys ≠ [] → v' ≠ .slice none 0 0) → k (a.put o.dst v') w') : if Region.wanted o (yielded ops a.tmps) = true then Oper.wp P o a w k Q else F := by
  refine step_append_T E hgd s x ho 0 v u xs ys hs hx (H.get 0 rfl) hr hb (Nat.zero_le _) ?_
  intro v' w' h2 h3 h4 h5
  refine h v' w' (H.mod (Chs.of_grown h3 (fun q hq => hq)) (Res.row enc K e v' (xs ++ ys)) h2 (fun q hq => ?_) (fun q hq => ?_)) h5
  all_goals
    rcases h4 with h4 | h4
    · exact .inl (show v.ownBlock = some q from h4 ▸ hq)
    · exact .inr (by have hq' : v'.ownBlock = some q := hq; rw [h4] at hq'; simp at hq'; omega)

theorem Bun.lit {P : Program} {w : World} (h : Bun w0 row w rs) (E : Elt P enc K e t z) (cs : Array Value) (xs : List α) (hc : cs.toList = xs.flatMap enc) (hn : xs.length ≤ 1000000000) :
    Bun w0 row (w.alloc (.cells cs e)) (Res.row enc K e (.slice (some ⟨w.heap.size, 0, none⟩) xs.length xs.length) xs :: rs) := h.addT (OwT.lit E w cs xs hc hn) (balloc w _)
theorem Bun.lits {P : Program} {w : World} (h : Bun w0 row w rs) (E : Elt P enc K e t z) (cs : Array Value) (xs : List α) (n : Nat) (hc : cs.toList = xs.flatMap enc) (hn : xs.length = n) (hb : n ≤ 1000000000) :
    Bun w0 row (w.alloc (.cells cs e)) (Res.row enc K e (.slice (some ⟨w.heap.size, 0, none⟩) n n) xs :: rs) := by subst hn; exact h.lit E cs xs hc hb

theorem flatMap_setF {β : Type} (f : α → List β) (hK : ∀ x, (f x).length = K) : ∀ (xs : List α) (k : Nat) (x x' : α) (j : Nat) (a : β), xs[k]? = some x → j < K → f x' = (f x).set j a → (xs.flatMap f).set (k * K + j) a = (xs.set k x').flatMap f := by
  intro xs
  induction xs with
  | nil => intro k x x' j a h; simp at h
  | cons y r ih =>
    intro k x x' j a hx hj he
    cases k with
    | zero =>
      simp at hx; subst hx
      simp only [Nat.zero_mul, Nat.zero_add, List.flatMap_cons, List.set_cons_zero]
      rw [List.set_append, if_pos (by rw [hK]; exact hj), he]
    | succ k =>
      simp at hx
      have := ih k x x' j a hx hj he
      simp only [List.flatMap_cons, List.set_cons_succ]
      rw [List.set_append, if_neg (by rw [hK, Nat.succ_mul]; omega), hK, show (k + 1) * K + j - K = k * K + j from by rw [Nat.succ_mul]; omega, this]

/-- A store into one cell of an element of an owned row. -/
theorem Bun.store {w : World} {g n c k j : Nat} {x x' : α} {u : Value} (h : Bun w0 row w (Res.row enc K e (.slice (some ⟨g, 0, none⟩) n c) xs :: rs)) (hK : ∀ x, (enc x).length = K) (hx : xs[k]? = some x) (hj : j < K) (he : enc x' = (enc x).set j u) :
    Bun w0 row (w.setCell ⟨g, k * K + j, none⟩ u) (Res.row enc K e (.slice (some ⟨g, 0, none⟩) n c) (xs.set k x') :: rs) := by
  have ho : OwT enc K e 0 w (.slice (some ⟨g, 0, none⟩) n c) xs := h.get 0 rfl
  have hn := (OwT.open hK ho).1
  subst hn
  refine h.mod (Chs.set w ⟨g, k * K + j, none⟩ u (by exact (rfl : (some g : Option Nat) = some g))) (Res.row enc K e (.slice (some ⟨g, 0, none⟩) xs.length c) (xs.set k x')) ?_ (fun _ h => .inl h) (fun _ h => .inl h)
  have s1 := (World.ownsRow.stored ho (k * K + j) u).1
  rw [flatMap_setF enc hK xs k x x' j u hx hj he] at s1
  show OwT enc K e 0 _ _ _
  unfold OwT; rw [List.length_set]; exact s1
/-- What a walk asks of an owned row of which an element is read or written. -/
theorem Bun.at {w : World} {v : Value} {k : Nat} {x : α} (h : Bun w0 row w rs) (i : Nat) (hi : rs[i]? = some (Res.row enc K e v xs)) (hK : ∀ x, (enc x).length = K) (hx : xs[k]? = some x) :
    ∃ g c, v = .slice (some ⟨g, 0, none⟩) xs.length c ∧ k < xs.length ∧ xs.length ≤ c ∧ c ≤ maxLen ∧ g < w.heap.size ∧ (∀ j, w.frozen? ⟨g, j, none⟩ = false) ∧ ∀ j y, (enc x)[j]? = some y → w.cell? ⟨g, k * K + j, none⟩ = some y := by
  have ho : OwT enc K e 0 w v xs := h.get i hi
  have hk : k < xs.length := (List.getElem?_eq_some_iff.1 hx).1
  rcases ho.2 with ⟨-, hz⟩ | ⟨g, c, cur, hv, -⟩
  · omega
  · subst hv
    obtain ⟨-, -, h3, h4, h5, h6, h7⟩ := OwT.open hK ho
    exact ⟨g, c, rfl, hk, h4, h5, h3, h6, fun j y hy => h7 k x j y hx hy⟩

/-- An owned row that was written in its place. -/
theorem Bun.marked {w w' : World} {v : Value} {ys : List α} (h : Bun w0 row w (Res.row enc K e v xs :: rs)) (ho : OwT enc K e 0 w' v ys) (hg : ∀ g, v.ownBlock = some g → w.grownBy w' (some g)) (hn : v.ownBlock = none → w = w') : Bun w0 row w' (Res.row enc K e v ys :: rs) := by
  refine h.mod ?_ (Res.row enc K e v ys) ho (fun _ h => .inl h) (fun _ h => .inl h)
  cases hv : v.ownBlock with
  | none => rw [← hn hv]; exact Chs.of_below (bref w)
  | some g => exact Chs.of_grown (hg g hv) (fun q hq => (by simp at hq; subst hq; exact hv : v.ownBlock = some q))
/-- A fact less. -/
theorem Bun.rm {w : World} (h : Bun w0 row w rs) (i : Nat) : Bun w0 row w (rs.eraseIdx i) := by
  cases hr : rs[i]? with
  | none => rw [List.eraseIdx_of_length_le (List.getElem?_eq_none_iff.1 hr)]; exact h
  | some r => exact (h.front i hr).drop
end
end Go.Proofs.YtojknkpjnchchaaGreatDoor
