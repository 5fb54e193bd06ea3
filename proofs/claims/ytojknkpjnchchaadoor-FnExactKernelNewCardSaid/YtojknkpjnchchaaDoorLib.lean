/- Plain notions for the proofs of this seat: slices that can be read, slices that the call owns, and what a call leaves as it was. No conditions. -/
import Derived.Test.YtojknkpjnchchaaDoorProg
import Derived.WalkKit
import Derived.WalkLawsBesides
import Derived.WalkSpells
import Derived.Handy
import Derived.Outline
import Derived.Deep.RegionHeld3
import Derived.Deep.DrawnRows
import Derived.Deep.AppendLies
import Derived.Maps.AppendAt
import Derived.Deep.Slices
import Derived.Deep.Fields
import Derived.Deep.DeepCutAuto
import Derived.BigQuiet
import Derived.Deep.QuietTactic
import Derived.Deep.DeepFit
import Derived.Laws.StructEq
import Derived.Lib.Hide
import Derived.StillTailTactics
namespace Go.Proofs.YtojknkpjnchchaaDoor
open Go.ChangeShapes Go.WideShapes Go.RowKit
set_option linter.all false
set_option maxRecDepth 100000

/-- v is a slice of the elements xs, each laid out in K cells by enc. -/
def RdT {α : Type} (enc : α → List Value) (K : Nat) (w : World) (v : Value) (xs : List α) : Prop :=
  ∃ a c, v = .slice a xs.length c ∧ xs.length ≤ c ∧ c ≤ maxLen ∧ (a = none → c = 0) ∧
    ∀ k x, xs[k]? = some x → ∃ b o, a = some ⟨b, o, none⟩ ∧ b < w.heap.size ∧ ∀ j y, (enc x)[j]? = some y → w.cell? ⟨b, o + k * K + j, none⟩ = some y

theorem RdT.nil {α : Type} (enc : α → List Value) (K : Nat) (w : World) : RdT enc K w (.slice none 0 0) [] :=
  ⟨none, 0, rfl, Nat.le_refl _, by unfold maxLen; omega, fun _ => rfl, fun k x h => by simp at h⟩

theorem RdT.below {α : Type} {enc : α → List Value} {K : Nat} {w w' : World} {v : Value} {xs : List α} (h : RdT enc K w v xs) (hb : Below w.heap.size w w') : RdT enc K w' v xs := by
  obtain ⟨a, c, rfl, h1, h2, h0, h3⟩ := h
  refine ⟨a, c, rfl, h1, h2, h0, fun k x hx => ?_⟩
  obtain ⟨b, o, ha, hlt, hc⟩ := h3 k x hx
  exact ⟨b, o, ha, Nat.lt_of_lt_of_le hlt hb.size, fun j y hy => (hb.cell (p := ⟨b, o + k * K + j, none⟩) hlt).trans (hc j y hy)⟩

theorem flatMap_get {α β : Type} (enc : α → List β) (K : Nat) (hK : ∀ x, (enc x).length = K) : ∀ (xs : List α) (k : Nat) (x : α) (j : Nat) (y : β), xs[k]? = some x → (enc x)[j]? = some y → (xs.flatMap enc)[k * K + j]? = some y := by
  intro xs
  induction xs with
  | nil => intro k x j y h; simp at h
  | cons a t ih =>
    intro k x j y hx hy
    cases k with
    | zero =>
      simp at hx; subst hx
      have hj : j < (enc a).length := (List.getElem?_eq_some_iff.1 hy).1
      simp only [Nat.zero_mul, Nat.zero_add, List.flatMap_cons]
      rw [List.getElem?_append_left hj]; exact hy
    | succ k =>
      simp at hx
      have := ih k x j y hx hy
      simp only [List.flatMap_cons]
      rw [List.getElem?_append_right (by rw [hK]; rw [Nat.succ_mul]; omega)]
      rw [hK, show (k + 1) * K + j - K = k * K + j from by rw [Nat.succ_mul]; omega]
      exact this

theorem flatMap_len {α β : Type} (enc : α → List β) (K : Nat) (hK : ∀ x, (enc x).length = K) (xs : List α) : (xs.flatMap enc).length = xs.length * K := by
  induction xs with
  | nil => simp
  | cons a t ih => simp [hK, ih, Nat.succ_mul]; omega

/-- The call owns the slice v of the elements xs: from block 'base' on, writable. -/
def OwT {α : Type} (enc : α → List Value) (K : Nat) (e : TypeId) (base : Nat) (w : World) (v : Value) (xs : List α) : Prop :=
  w.ownsRow base e K v xs.length (xs.flatMap enc)

theorem OwT.rd {α : Type} {enc : α → List Value} {K : Nat} (hK : ∀ x, (enc x).length = K) {e base : Nat} {w : World} {v : Value} {xs : List α} (h : OwT enc K e base w v xs) : RdT enc K w v xs := by
  obtain ⟨h0, h1⟩ := h
  rcases h1 with ⟨rfl, hn⟩ | ⟨g, cap, cur, rfl, hb, hg, hn, hm, hs, ht⟩
  · have : xs = [] := List.eq_nil_of_length_eq_zero hn
    subst this; exact RdT.nil _ _ _
  · refine ⟨_, _, rfl, hn, hm, by simp, fun k x hx => ⟨g, 0, rfl, (Array.getElem?_eq_some_iff.1 hg).1, fun j y hy => ?_⟩⟩
    have hk : k < xs.length := (List.getElem?_eq_some_iff.1 hx).1
    have hj : j < K := by rw [← hK x]; exact (List.getElem?_eq_some_iff.1 hy).1
    have h2 := flatMap_get enc K hK xs k x j y hx hy
    have hlt : k * K + j < xs.length * K := by
      have : (k + 1) * K ≤ xs.length * K := Nat.mul_le_mul_right _ hk
      rw [Nat.succ_mul] at this; omega
    rw [← ht, List.getElem?_take, if_pos hlt] at h2
    rw [Nat.zero_add, cell_of_row w g _ cur e (0, 0) hg]
    simpa using h2

theorem OwT.below {α : Type} {enc : α → List Value} {K e base : Nat} {w w' : World} {v : Value} {xs : List α} (h : OwT enc K e base w v xs) (hb : Below w.heap.size w w') : OwT enc K e base w' v xs :=
  World.ownsRow.kept (row := none) h ⟨hb.os, hb.tape, hb.output, hb.size, fun k hk _ => hb.block k hk⟩ (by cases hv : v.ownBlock <;> simp)

theorem below_grown {w w' : World} (h : Below w.heap.size w w') (row : Option Nat) : w.grownBy w' row := ⟨h.os, h.tape, h.output, h.size, fun k hk _ => h.block k hk⟩
theorem grown_below {w w' : World} (h : w.grownBy w' none) : Below w.heap.size w w' := ⟨h.os, h.tape, h.output, h.size, fun k hk => h.block k hk (by simp)⟩

/-- All old cells and marks read as before. -/
theorem bcell {B : Nat} {W w1 : World} (hb : Below B W w1) : (∀ b o, b < B → w1.cell? ⟨b, o, none⟩ = W.cell? ⟨b, o, none⟩) ∧ (∀ b o, b < B → w1.frozen? ⟨b, o, none⟩ = W.frozen? ⟨b, o, none⟩) :=
  ⟨fun b o h => hb.cell (p := ⟨b, o, none⟩) h, fun b o h => hb.frozen (p := ⟨b, o, none⟩) h⟩

theorem flatMap_set1 {α β : Type} (enc : α → List β) (hK : ∀ x, (enc x).length = 1) : ∀ (xs : List α) (k : Nat) (x : α) (a : β), k < xs.length → enc x = [a] → (xs.flatMap enc).set k a = (xs.set k x).flatMap enc := by
  intro xs
  induction xs with
  | nil => intro k x a h; simp at h
  | cons y t ih =>
    intro k x a hk hx
    have hy := hK y
    match h : enc y, hy with
    | [p], _ =>
      cases k with
      | zero => simp [h, hx]
      | succ k =>
        have := ih k x a (by simpa using hk) hx
        simp [h, ← this]

theorem flatMap_set2 {α β : Type} (enc : α → List β) (hK : ∀ x, (enc x).length = 2) : ∀ (xs : List α) (k : Nat) (x : α) (a b : β), k < xs.length → enc x = [a, b] → ((xs.flatMap enc).set (k * 2) a).set (k * 2 + 1) b = (xs.set k x).flatMap enc := by
  intro xs
  induction xs with
  | nil => intro k x a b h; simp at h
  | cons y t ih =>
    intro k x a b hk hx
    have hy := hK y
    match h : enc y, hy with
    | [p, q], _ =>
      cases k with
      | zero => simp [h, hx]
      | succ k =>
        have := ih k x a b (by simpa using hk) hx
        simp [h, ← this, Nat.succ_mul]

theorem flatMap_set3 {α β : Type} (enc : α → List β) (hK : ∀ x, (enc x).length = 3) : ∀ (xs : List α) (k : Nat) (x : α) (a b c : β), k < xs.length → enc x = [a, b, c] → (((xs.flatMap enc).set (k * 3) a).set (k * 3 + 1) b).set (k * 3 + 2) c = (xs.set k x).flatMap enc := by
  intro xs
  induction xs with
  | nil => intro k x a b c h; simp at h
  | cons y t ih =>
    intro k x a b c hk hx
    have hy := hK y
    match h : enc y, hy with
    | [p, q, r], _ =>
      cases k with
      | zero => simp [h, hx]
      | succ k =>
        have := ih k x a b c (by simpa using hk) hx
        simp [h, ← this, Nat.succ_mul]

/-- What a loop that fills a new row has made behind k rounds. -/
def filled {α : Type} (z : α) (xs : List α) (k : Nat) : List α := xs.take k ++ List.replicate (xs.length - k) z
theorem filled_len {α : Type} (z : α) (xs : List α) (k : Nat) (h : k ≤ xs.length) : (filled z xs k).length = xs.length := by simp [filled]; omega
theorem filled_zero {α : Type} (z : α) (xs : List α) : filled z xs 0 = List.replicate xs.length z := by simp [filled]
theorem filled_all {α : Type} (z : α) (xs : List α) : filled z xs xs.length = xs := by simp [filled]
theorem filled_step {α : Type} (z : α) (xs : List α) (k : Nat) (x : α) (h : xs[k]? = some x) : (filled z xs k).set k x = filled z xs (k + 1) := by
  have hk : k < xs.length := (List.getElem?_eq_some_iff.1 h).1
  unfold filled
  rw [List.take_add_one, h, List.set_append, if_neg (by simp; omega)]
  have e : xs.length - k = (xs.length - (k + 1)) + 1 := by omega
  rw [e, List.replicate_succ]
  simp [List.length_take, Nat.min_eq_left (Nat.le_of_lt hk)]

theorem made_flat {α : Type} (enc : α → List Value) (K : Nat) (hK : ∀ x, (enc x).length = K) (hp : 0 < K) (z : α) (zc : Array Value) (hz : zc.toList = enc z) (n : Nat) : (madeCells zc (n * K)).toList = (List.replicate n z).flatMap enc := by
  apply List.ext_getElem?
  intro j
  have hs : zc.size = K := by rw [← Array.length_toList, hz, hK]
  have hl : ((List.replicate n z).flatMap enc).length = n * K := by rw [flatMap_len enc K hK]; simp
  by_cases hj : j < n * K
  · have hm : j % K < K := Nat.mod_lt _ hp
    have hd : j / K < n := Nat.div_lt_of_lt_mul (by rw [Nat.mul_comm]; exact hj)
    have h1 : (List.replicate n z)[j / K]? = some z := by rw [List.getElem?_replicate, if_pos hd]
    have h2 : (enc z)[j % K]? = some (zc[j % K]!) := by
      rw [← hz, Array.getElem?_toList, getElem!_pos zc (j % K) (by omega), Array.getElem?_eq_getElem (by omega)]
    have h3 := flatMap_get enc K hK _ (j / K) z (j % K) _ h1 h2
    have e : j / K * K + j % K = j := Nat.div_add_mod' j K
    rw [e] at h3
    rw [h3]
    simp [madeCells, hj, hs]
  · rw [List.getElem?_eq_none (by simp [size_madeCells]; omega), List.getElem?_eq_none (by omega)]

/-- What lies in an owned row whose address is known. -/
theorem OwT.open {α : Type} {enc : α → List Value} {K e base g n c : Nat} {w : World} {xs : List α} (hK : ∀ x, (enc x).length = K) (h : OwT enc K e base w (.slice (some ⟨g, 0, none⟩) n c) xs) :
    n = xs.length ∧ base ≤ g ∧ g < w.heap.size ∧ n ≤ c ∧ c ≤ maxLen ∧ (∀ j, w.frozen? ⟨g, j, none⟩ = false) ∧ ∀ k x j y, xs[k]? = some x → (enc x)[j]? = some y → w.cell? ⟨g, k * K + j, none⟩ = some y := by
  have hr := OwT.rd hK h
  obtain ⟨h0, h1⟩ := h
  rcases h1 with ⟨h', _⟩ | ⟨g', cap, cur, hv, hb, hg, hn, hm, hs, ht⟩
  · simp at h'
  · simp only [Value.slice.injEq, Option.some.injEq, Addr.mk.injEq, and_true, true_and] at hv
    obtain ⟨rfl, rfl, rfl⟩ := hv
    refine ⟨rfl, hb, (Array.getElem?_eq_some_iff.1 hg).1, hn, hm, fun j => frozen_of_row w g j cur e hg, fun k x j y hx hy => ?_⟩
    obtain ⟨a, c', hv, _, _, _, h3⟩ := hr
    obtain ⟨b, o, ha, _, hc⟩ := h3 k x hx
    simp only [Value.slice.injEq] at hv
    obtain ⟨hv, _, _⟩ := hv
    rw [← hv] at ha
    simp only [Option.some.injEq, Addr.mk.injEq, and_true] at ha
    obtain ⟨rfl, rfl⟩ := ha
    have := hc j y hy
    rwa [Nat.zero_add] at this

theorem OwT.stored1 {α : Type} {enc : α → List Value} {e base g n c : Nat} {w : World} {xs : List α} (hK : ∀ x, (enc x).length = 1) (h : OwT enc 1 e base w (.slice (some ⟨g, 0, none⟩) n c) xs)
    (k : Nat) (x : α) (a1 : Value) (hk : k < xs.length) (hx : enc x = [a1]) :
    OwT enc 1 e base (w.setCell ⟨g, k, none⟩ a1) (.slice (some ⟨g, 0, none⟩) n c) (xs.set k x) := by
  have hn := (OwT.open hK h).1
  subst hn
  have s1 := (World.ownsRow.stored h k a1).1
  rw [flatMap_set1 enc hK xs k x a1 hk hx] at s1
  unfold OwT; rw [List.length_set]; exact s1

theorem OwT.stored2 {α : Type} {enc : α → List Value} {e base g n c : Nat} {w : World} {xs : List α} (hK : ∀ x, (enc x).length = 2) (h : OwT enc 2 e base w (.slice (some ⟨g, 0, none⟩) n c) xs)
    (k : Nat) (x : α) (a1 a2 : Value) (hk : k < xs.length) (hx : enc x = [a1, a2]) :
    OwT enc 2 e base ((w.setCell ⟨g, k * 2, none⟩ a1).setCell ⟨g, k * 2 + 1, none⟩ a2) (.slice (some ⟨g, 0, none⟩) n c) (xs.set k x) := by
  have hn := (OwT.open hK h).1
  subst hn
  have s1 := (World.ownsRow.stored h (k * 2) a1).1
  have s2 := (World.ownsRow.stored s1 (k * 2 + 1) a2).1
  rw [flatMap_set2 enc hK xs k x a1 a2 hk hx] at s2
  unfold OwT; rw [List.length_set]; exact s2

theorem OwT.stored3 {α : Type} {enc : α → List Value} {e base g n c : Nat} {w : World} {xs : List α} (hK : ∀ x, (enc x).length = 3) (h : OwT enc 3 e base w (.slice (some ⟨g, 0, none⟩) n c) xs)
    (k : Nat) (x : α) (a1 a2 a3 : Value) (hk : k < xs.length) (hx : enc x = [a1, a2, a3]) :
    OwT enc 3 e base (((w.setCell ⟨g, k * 3, none⟩ a1).setCell ⟨g, k * 3 + 1, none⟩ a2).setCell ⟨g, k * 3 + 2, none⟩ a3) (.slice (some ⟨g, 0, none⟩) n c) (xs.set k x) := by
  have hn := (OwT.open hK h).1
  subst hn
  have s1 := (World.ownsRow.stored h (k * 3) a1).1
  have s2 := (World.ownsRow.stored s1 (k * 3 + 1) a2).1
  have s3 := (World.ownsRow.stored s2 (k * 3 + 2) a3).1
  rw [flatMap_set3 enc hK xs k x a1 a2 a3 hk hx] at s3
  unfold OwT; rw [List.length_set]; exact s3

theorem grown_set {w w' : World} {g : Nat} (h : w.grownBy w' (some g)) (o : Nat) (u : Value) : w.grownBy (w'.setCell ⟨g, o, none⟩ u) (some g) :=
  ⟨h.os, h.tape, h.output, by simpa using h.size, fun k hk hne => (Below.heap_setCell w' ⟨g, o, none⟩ u k (fun e => hne (by rw [e]))).trans (h.block k hk hne)⟩

theorem grown_then {w a b : World} {row : Option Nat} (h : w.grownBy a row) (k : Below a.heap.size a b) : w.grownBy b row :=
  ⟨k.os.trans h.os, k.tape.trans h.tape, k.output.trans h.output, Nat.le_trans h.size k.size, fun i hi hne => (k.block i (Nat.lt_of_lt_of_le hi h.size)).trans (h.block i hi hne)⟩

theorem grown_drew {w a : World} {row : Option Nat} (h : w.grownBy a row) : w.grownBy a.drew row := ⟨h.os, h.tape, h.output, h.size, h.block⟩

theorem RdT.grown {α : Type} {enc : α → List Value} {K : Nat} {w w' : World} {v : Value} {xs : List α} {g : Nat} (h : RdT enc K w v xs) (hg : w.grownBy w' (some g)) (hne : xs ≠ [] → ∀ b, v.ownBlock = some b → b ≠ g) : RdT enc K w' v xs := by
  obtain ⟨a, c, rfl, h1, h2, h0, h3⟩ := h
  refine ⟨a, c, rfl, h1, h2, h0, fun k x hx => ?_⟩
  obtain ⟨b, o, ha, hlt, hc⟩ := h3 k x hx
  subst ha
  have := hne (by rintro rfl; simp at hx) b rfl
  exact ⟨b, o, rfl, Nat.lt_of_lt_of_le hlt hg.size, fun j y hy => (World.cell?_of_block (hg.block b hlt (by simpa using this))).trans (hc j y hy)⟩

theorem OwT.grown {α : Type} {enc : α → List Value} {K e base : Nat} {w w' : World} {v : Value} {xs : List α} {g : Nat} (h : OwT enc K e base w v xs) (hg : w.grownBy w' (some g)) (hne : ∀ b, v.ownBlock = some b → b ≠ g) : OwT enc K e base w' v xs :=
  World.ownsRow.kept h hg (by cases hv : v.ownBlock with | none => exact .inl rfl | some b => exact .inr (by simpa using hne b hv))

theorem OwT.mono {α : Type} {enc : α → List Value} {K e base base' : Nat} {w : World} {v : Value} {xs : List α} (h : OwT enc K e base w v xs) (hb : base' ≤ base) : OwT enc K e base' w v xs := by
  obtain ⟨h1, h2⟩ := h
  refine ⟨h1, ?_⟩
  rcases h2 with h2 | ⟨g, cap, cur, hv, hg, r⟩
  · exact .inl h2
  · exact .inr ⟨g, cap, cur, hv, Nat.le_trans hb hg, r⟩

/-- What the program's tables say of an element type. -/
structure Elt {α : Type} (P : Program) (enc : α → List Value) (K : Nat) (e t : TypeId) (z : α) : Prop where
  len : ∀ x, (enc x).length = K
  pos : 0 < K
  one : ∀ x, ∀ u ∈ enc x, u.oneCell' = true
  sl : P.underlying t = some (.slice e)
  info : ∃ i zv, P.info? e = some i ∧ i.zero = some zv ∧ i.size = K ∧ i.bytes ≤ 64 ∧ zv.cells.toList = enc z

theorem flatMap_at {α β : Type} (enc : α → List β) (K : Nat) (hK : ∀ x, (enc x).length = K) (hp : 0 < K) (xs : List α) (j : Nat) (y : β) (h : (xs.flatMap enc)[j]? = some y) : ∃ x, xs[j / K]? = some x ∧ (enc x)[j % K]? = some y := by
  have hl := flatMap_len enc K hK xs
  have hj : j < xs.length * K := by rw [← hl]; exact (List.getElem?_eq_some_iff.1 h).1
  have hd : j / K < xs.length := Nat.div_lt_of_lt_mul (by rw [Nat.mul_comm]; exact hj)
  have hm : j % K < K := Nat.mod_lt _ hp
  refine ⟨_, List.getElem?_eq_getElem hd, ?_⟩
  have h2 : (enc xs[j / K])[j % K]? = some ((enc xs[j / K])[j % K]'(by rw [hK]; exact hm)) := List.getElem?_eq_getElem _
  have h3 := flatMap_get enc K hK xs (j / K) _ (j % K) _ (List.getElem?_eq_getElem hd) h2
  rw [Nat.div_add_mod' j K, h] at h3
  rw [h2]; exact h3.symm

theorem RdT.flat {α : Type} {enc : α → List Value} {K : Nat} {w : World} {ad : Addr} {n c : Nat} {xs : List α} (hK : ∀ x, (enc x).length = K) (hp : 0 < K) (h : RdT enc K w (.slice (some ad) n c) xs) :
    ∀ j u, (xs.flatMap enc)[j]? = some u → w.cell? (ad.add j) = some u := by
  intro j u hu
  obtain ⟨x, hx, hy⟩ := flatMap_at enc K hK hp xs j u hu
  obtain ⟨a, c', hv, _, _, _, h3⟩ := h
  obtain ⟨b, o, ha, _, hc⟩ := h3 _ x hx
  simp only [Value.slice.injEq] at hv
  rw [← hv.1] at ha
  simp only [Option.some.injEq] at ha
  subst ha
  have := hc _ _ hy
  rw [show o + j / K * K + j % K = o + j from by have := Nat.div_add_mod' j K; omega] at this
  have e : (⟨b, o, none⟩ : Addr).add j = ⟨b, o + j, none⟩ := by unfold Addr.add; split <;> simp_all
  rw [e]; exact this

section
variable {α : Type} {P : Program} {enc : α → List Value} {K : Nat} {e t : TypeId} {z : α}

theorem run_append_T (E : Elt P enc K e t z) (w : World) (ty : TypeId) (base : Nat) (v u : Value) (xs ys : List α) (hown : OwT enc K e base w v xs) (hr : RdT enc K w u ys) (hb : xs.length + ys.length ≤ 1000000000) (hbase : base ≤ w.heap.size) :
    ∃ v' w', (Builtin.append_ #[t, t] ty #[v, u]).run P w = .ok v' w' ∧ OwT enc K e base w' v' (xs ++ ys) ∧ w.grownBy w' v.ownBlock ∧ (v'.ownBlock = v.ownBlock ∨ v'.ownBlock = some w.heap.size) ∧ (ys ≠ [] → v' ≠ .slice none 0 0) := by
  obtain ⟨i, zv, hi, hz, hs, hby, hzc⟩ := E.info
  have hzs : zv.cells.size = K := by rw [← Array.length_toList, hzc, E.len]
  have hr' := hr
  obtain ⟨a, c, rfl, h1, h2, h0, h3⟩ := hr
  have hfl : ((xs ++ ys).flatMap enc) = xs.flatMap enc ++ ys.flatMap enc := List.flatMap_append
  cases a with
  | none =>
    have hc := h0 rfl
    subst hc
    have hy : ys = [] := List.eq_nil_of_length_eq_zero (by omega)
    subst hy
    refine ⟨v, w, ?_, by simpa using hown, World.grownBy.refl _ _, .inl rfl, by simp⟩
    exact run_append_owned_none w base t ty e i K E.sl hi v xs.length _ hown
  | some ad =>
    obtain ⟨v', w', hrun, ho, hg, hnil, hat⟩ := run_append_own_at (P := P) w base t ty e i zv K i.bytes E.sl hi hz hs rfl hzs E.pos v xs.length _ hown ad ys.length c (ys.flatMap enc) (flatMap_len enc K E.len ys) (RdT.flat E.len E.pos hr')
      (fun u hu => by obtain ⟨x, _, hx⟩ := List.mem_flatMap.1 hu; exact E.one x u hx) (by unfold maxLen; omega) (Nat.le_trans (Nat.mul_le_mul hb hby) (by decide)) hbase
    refine ⟨v', w', hrun, ?_, hg, hat, fun hne hv => hne (List.eq_nil_of_length_eq_zero (hnil.1 hv).2)⟩
    unfold OwT
    rw [hfl, List.length_append]; exact ho

theorem wp_append_T (E : Elt P enc K e t z) {w : World} {o : Oper} {a : Act} {k : Act → World → Prop} {Q : Exit → Act → World → Prop} (s x : Operand)
    (ho : o.op = .call { callee := .builtin .append, args := #[s, x], argTypes := #[t, t] }) (base : Nat) (v u : Value) (xs ys : List α) (hs : a.eval s = v) (hx : a.eval x = u)
    (hown : OwT enc K e base w v xs) (hr : RdT enc K w u ys) (hb : xs.length + ys.length ≤ 1000000000) (hbase : base ≤ w.heap.size)
    (h : ∀ v' w', OwT enc K e base w' v' (xs ++ ys) → w.grownBy w' v.ownBlock → (v'.ownBlock = v.ownBlock ∨ v'.ownBlock = some w.heap.size) → (ys ≠ [] → v' ≠ .slice none 0 0) → k (a.put o.dst v') w') : o.wp P a w k Q := by
  obtain ⟨v', w', hrun, h2, h3, h4, h5⟩ := run_append_T E w o.type base v u xs ys hown hr hb hbase
  unfold Oper.wp execOp
  simp only [ho, resolve, invoke, builtin, Sem.run_bind, Sem.run_pure, Result.andThen_ok, List.map_toArray, List.map_cons, List.map_nil, hs, hx, hrun]
  exact h v' w' h2 h3 h4 h5

/-- append at a list of operations. -/
theorem append_T (E : Elt P enc K e t z) {w : World} {ops : Array Oper} {rest : List Oper} {o : Oper} {a : Act} {Q : Exit → Act → World → Prop} (hgd : o.guard = none) (s x : Operand)
    (ho : o.op = .call { callee := .builtin .append, args := #[s, x], argTypes := #[t, t] }) (base : Nat) (v u : Value) (xs ys : List α) (hs : a.eval s = v) (hx : a.eval x = u)
    (hown : OwT enc K e base w v xs) (hr : RdT enc K w u ys) (hb : xs.length + ys.length ≤ 1000000000) (hbase : base ≤ w.heap.size)
    (h : ∀ v' w', OwT enc K e base w' v' (xs ++ ys) → w.grownBy w' v.ownBlock → (v'.ownBlock = v.ownBlock ∨ v'.ownBlock = some w.heap.size) → (ys ≠ [] → v' ≠ .slice none 0 0) → wpList P ops Q rest (a.put o.dst v') w') : wpList P ops Q (o :: rest) a w :=
  wpList_plain hgd fun _ hK => wp_append_T E s x ho base v u xs ys hs hx hown hr hb hbase fun v' w' h2 h3 h4 h5 => hK _ _ (h v' w' h2 h3 h4 h5)

/-- append at a step of a region that draws its order. -/
theorem step_append_T (E : Elt P enc K e t z) {w : World} {ops : Array Oper} {o : Oper} {a : Act} {k : Act → World → Prop} {Q : Exit → Act → World → Prop} {F : Prop} (hgd : o.guard = none) (s x : Operand)
    (ho : o.op = .call { callee := .builtin .append, args := #[s, x], argTypes := #[t, t] }) (base : Nat) (v u : Value) (xs ys : List α) (hs : a.eval s = v) (hx : a.eval x = u)
    (hown : OwT enc K e base w v xs) (hr : RdT enc K w u ys) (hb : xs.length + ys.length ≤ 1000000000) (hbase : base ≤ w.heap.size)
    (h : ∀ v' w', OwT enc K e base w' v' (xs ++ ys) → w.grownBy w' v.ownBlock → (v'.ownBlock = v.ownBlock ∨ v'.ownBlock = some w.heap.size) → (ys ≠ [] → v' ≠ .slice none 0 0) → k (a.put o.dst v') w') :
    if Region.wanted o (yielded ops a.tmps) = true then Oper.wp P o a w k Q else F := by
  have hw : Region.wanted o (yielded ops a.tmps) = true := by simp [Region.wanted, hgd]
  rw [if_pos hw]
  exact wp_append_T E s x ho base v u xs ys hs hx hown hr hb hbase h

/-- make([]T, n) at a list of operations. -/
theorem make_T (E : Elt P enc K e t z) {w : World} {ops : Array Oper} {rest : List Oper} {o : Oper} {a : Act} {Q : Exit → Act → World → Prop} (hgd : o.guard = none) (l c : Operand) (hop : o.op = Op.makeSlice t l c)
    (n : Nat) (hl : a.eval l = .int .i64 n) (hc : a.eval c = .int .i64 n) (hn : n ≤ 1000000000)
    (hK : ∀ w', OwT enc K e w.heap.size w' (.slice (some ⟨w.heap.size, 0, none⟩) n n) (List.replicate n z) → Below w.heap.size w w' → wpList P ops Q rest (a.put o.dst (.slice (some ⟨w.heap.size, 0, none⟩) n n)) w') :
    wpList P ops Q (o :: rest) a w := by
  obtain ⟨i, zv, hi, hz, hs, hby, hzc⟩ := E.info
  refine wpList_make_full w hgd l c t hop w.heap.size e i zv K E.sl hi hz hs .i64 .i64 n n n hl hc rfl rfl ?_ (by unfold maxLen; omega) (Nat.le_refl _) ?_
  · exact Nat.le_trans (Nat.mul_le_mul hby hn) (by decide)
  · intro w' ho hg
    refine hK w' ?_ (grown_below hg)
    rw [made_flat enc K E.len E.pos z zv.cells hzc n] at ho
    unfold OwT; rw [List.length_replicate]; exact ho

/-- A literal laid in a new block. -/
theorem OwT.lit (E : Elt P enc K e t z) (w : World) (cs : Array Value) (xs : List α) (h : cs.toList = xs.flatMap enc) (hn : xs.length ≤ 1000000000) :
    OwT enc K e w.heap.size (w.alloc (.cells cs e)) (.slice (some ⟨w.heap.size, 0, none⟩) xs.length xs.length) xs := by
  have := World.ownsRow_lit (base := w.heap.size) (e := e) (size := K) w cs xs.length (Nat.le_refl _) (by unfold maxLen; omega) (by rw [← Array.length_toList, h, flatMap_len enc K E.len])
  rw [h] at this
  exact this
end

/-- An argument that is a slice, read at each element. -/
theorem RdT.of_trod {α H : Type} {enc0 : TypeId × Value → H} {P : Program} {w : World} {base : Nat} {spare : Nat → Bool} {held : Bool} {t e : TypeId} {K fuel : Nat} {v : Value} {x : DataW H × List MemPlace} {enc : α → List Value} {Good : α → Prop}
    (ht : P.underlying t = some (.slice e)) (hC : P.cellsOf e = K) (hp : 0 < K) (hlen : ∀ x, (enc x).length = K)
    (helem : ∀ n cs y, cs.length = K → DataW.trod enc0 P w base spare held n e cs = some y → ∃ x : α, enc x = cs ∧ Good x)
    (h : DataW.trod enc0 P w base spare held fuel t [v] = some x) : ∃ xs : List α, RdT enc K w v xs ∧ ∀ x ∈ xs, Good x := by
  rcases Go.Deep.open_slice ht h with ⟨h0, _⟩ | ⟨a, len, cap, m, n, D, Pl, hcs, hb, hl, hm, hmm, hx, hi⟩
  · simp only [List.cons.injEq, and_true] at h0
    subst h0
    exact ⟨[], RdT.nil _ _ _, by simp⟩
  · simp only [List.cons.injEq, and_true] at hcs
    subst hcs
    have hlm : len ≤ m := by rw [hmm]; split <;> omega
    have key : ∀ i, i < len → ∃ x : α, (∀ j y, (enc x)[j]? = some y → w.cell? (a.add (i * K + j)) = some y) ∧ Good x := by
      intro i hi'
      obtain ⟨cs', h1, h2⟩ := hi i (by omega)
      rw [hC] at h1
      obtain ⟨_, hcl, hcell⟩ := World.cells?_some h1
      obtain ⟨x, hx, hg⟩ := helem n cs' _ hcl h2
      refine ⟨x, fun j y hy => ?_, hg⟩
      have hj : j < K := by rw [← hlen x]; exact (List.getElem?_eq_some_iff.1 hy).1
      rw [← Go.Deep.add_add, hcell j hj, ← hx]; exact hy
    by_cases hz : len = 0
    · subst hz
      exact ⟨[], ⟨some a, cap, rfl, Nat.zero_le _, hm, by simp, fun k x hx => by simp at hx⟩, by simp⟩
    · obtain ⟨x0, -⟩ := key 0 (by omega)
      have : Inhabited α := ⟨x0⟩
      obtain ⟨f, hf⟩ := Go.Deep.choose_lt key
      refine ⟨(List.range len).map f, ?_, ?_⟩
      · have e1 : ((List.range len).map f).length = len := by simp
        refine ⟨some a, cap, by rw [e1], by rw [e1]; exact hl, hm, by simp, fun k x hx => ?_⟩
        have hk : k < len := by have := (List.getElem?_eq_some_iff.1 hx).1; rwa [e1] at this
        have hxe : x = f k := by simp [List.getElem?_map, List.getElem?_range hk] at hx; exact hx.symm
        subst hxe
        obtain ⟨b, o, sp⟩ := a
        have hc := (hf k hk).1
        have hpos : ∃ y, (enc (f k))[0]? = some y := ⟨_, List.getElem?_eq_getElem (by rw [hlen]; exact hp)⟩
        obtain ⟨y0, hy0⟩ := hpos
        obtain ⟨f0, _⟩ := hf 0 (by omega)
        have hsp : sp = none := by
          obtain ⟨z0, hz0⟩ : ∃ y, (enc (f 0))[0]? = some y := ⟨_, List.getElem?_eq_getElem (by rw [hlen]; exact hp)⟩
          have := f0 0 z0 hz0
          simpa [Addr.add] using World.cell?_spot this
        subst hsp
        have hadd : ∀ j, (⟨b, o, none⟩ : Addr).add j = ⟨b, o + j, none⟩ := fun j => by unfold Addr.add; split <;> simp_all
        refine ⟨b, o, rfl, ?_, fun j y hy => ?_⟩
        · have := World.block_lt_of_cell? w _ (hc 0 y0 hy0)
          rwa [hadd] at this
        · have := hc j y hy
          rw [hadd] at this
          rw [Nat.add_assoc]; exact this
      · intro x hx
        obtain ⟨i, hi', rfl⟩ := List.mem_map.1 hx
        exact (hf i (by simpa using hi')).2

theorem bnext {w a b : World} (h : Below w.heap.size w a) (k : Below a.heap.size a b) : Below w.heap.size w b := h.trans (k.mono h.size)
theorem bdrew {w a b : World} (h : Below w.heap.size w a) (k : Below a.drew.heap.size a.drew b) : Below w.heap.size w b := h.drew.trans (k.mono h.size)
theorem bref (w : World) : Below w.heap.size w w := Below.refl _ _

theorem RdT.of_block {α : Type} {enc : α → List Value} {K : Nat} (hK : ∀ x, (enc x).length = K) {w : World} {b : Nat} {cs : Array Value} {e : TypeId} {m : Nat × Nat} {xs : List α} (h : w.heap[b]? = some (.cells cs e m)) (hc : cs.toList = xs.flatMap enc) (hn : xs.length ≤ 1000000000) :
    RdT enc K w (.slice (some ⟨b, 0, none⟩) xs.length xs.length) xs := by
  refine ⟨_, _, rfl, Nat.le_refl _, by unfold maxLen; omega, by simp, fun k x hx => ⟨b, 0, rfl, (Array.getElem?_eq_some_iff.1 h).1, fun j y hy => ?_⟩⟩
  have h2 := flatMap_get enc K hK xs k x j y hx hy
  rw [← hc] at h2
  simp only [World.cell?, h, Nat.zero_add, Option.isSome_none, Bool.false_eq_true, if_false]
  simpa using h2

/-- Behind a law that may have written one owned row. -/
theorem bgrown {w a b : World} {row : Option Nat} (h : Below w.heap.size w a) (hg : a.grownBy b row) (hr : ∀ k, row = some k → w.heap.size ≤ k) : Below w.heap.size w b := h.grown hg h.size hr

theorem heap_two_old (w : World) (o p : Obj) : ((w.alloc o).alloc p).heap[w.heap.size]? = some o := (heap_alloc_old (w.alloc o) p (by simp)).trans (heap_alloc_new w o)
theorem heap_two_new (w : World) (o p : Obj) : ((w.alloc o).alloc p).heap[w.heap.size + 1]? = some p := by
  have := heap_alloc_new (w.alloc o) p
  simpa using this

/-- An owned row out of a block that is known whole. -/
theorem OwT.of_block {α : Type} {P : Program} {enc : α → List Value} {K : Nat} {e t : TypeId} {z : α} (E : Elt P enc K e t z) {w : World} {g base : Nat} {cs : Array Value} {xs : List α} (h : w.heap[g]? = some (.cells cs e (0, 0))) (hc : cs.toList = xs.flatMap enc) (hn : xs.length ≤ 1000000000) (hb : base ≤ g) :
    OwT enc K e base w (.slice (some ⟨g, 0, none⟩) xs.length xs.length) xs := by
  have hl := flatMap_len enc K E.len xs
  refine ⟨hl, .inr ⟨g, xs.length, cs, rfl, hb, h, Nat.le_refl _, by unfold maxLen; omega, by rw [← Array.length_toList, hc, hl], ?_⟩⟩
  rw [hc, List.take_of_length_le (by omega)]

theorem RdT.take {α : Type} {enc : α → List Value} {K : Nat} {w : World} {a : Option Addr} {n c i : Nat} {xs : List α} (h : RdT enc K w (.slice a n c) xs) (hi : i ≤ n) : RdT enc K w (.slice a i c) (xs.take i) := by
  obtain ⟨a', c', hv, h1, h2, h0, h3⟩ := h
  simp only [Value.slice.injEq] at hv
  obtain ⟨rfl, rfl, rfl⟩ := hv
  have hl : (xs.take i).length = i := by simp; omega
  refine ⟨a, c, by rw [hl], by rw [hl]; omega, h2, h0, fun k x hx => ?_⟩
  rw [List.getElem?_take] at hx
  split at hx
  · exact h3 k x hx
  · cases hx

theorem RdT.drop {α : Type} {enc : α → List Value} {K : Nat} {w : World} {b o n c j : Nat} {xs : List α} (h : RdT enc K w (.slice (some ⟨b, o, none⟩) n c) xs) (hj : j ≤ n) : RdT enc K w (.slice (some ⟨b, o + j * K, none⟩) (n - j) (c - j)) (xs.drop j) := by
  obtain ⟨a', c', hv, h1, h2, h0, h3⟩ := h
  simp only [Value.slice.injEq] at hv
  obtain ⟨rfl, rfl, rfl⟩ := hv
  have hl : (xs.drop j).length = xs.length - j := by simp
  refine ⟨_, _, by rw [hl], by rw [hl]; omega, by omega, by simp, fun k x hx => ?_⟩
  rw [List.getElem?_drop] at hx
  obtain ⟨b', o', e, hlt, hc⟩ := h3 (j + k) x hx
  simp only [Option.some.injEq, Addr.mk.injEq, and_true] at e
  obtain ⟨rfl, rfl⟩ := e
  refine ⟨b, o + j * K, rfl, hlt, fun i y hy => ?_⟩
  have := hc i y hy
  rwa [Nat.add_mul, ← Nat.add_assoc] at this

theorem RdT.empty {α : Type} (enc : α → List Value) (K : Nat) (w : World) (ad : Addr) (c : Nat) (hc : c ≤ maxLen) : RdT enc K w (.slice (some ad) 0 c) [] :=
  ⟨some ad, c, rfl, Nat.zero_le _, hc, by simp, fun k x h => by simp at h⟩

/-- A block of three cells that the call has laid: its cells, and that it may be written. -/
theorem blk3 {w : World} {g : Nat} {x y z : Value} {e : TypeId} (h : w.heap[g]? = some (.cells #[x, y, z] e (0, 0))) :
    w.cell? ⟨g, 0, none⟩ = some x ∧ w.cell? ⟨g, 1, none⟩ = some y ∧ w.cell? ⟨g, 2, none⟩ = some z ∧ w.frozen? ⟨g, 0, none⟩ = false ∧ w.frozen? ⟨g, 1, none⟩ = false ∧ w.frozen? ⟨g, 2, none⟩ = false ∧ g < w.heap.size :=
  ⟨by rw [cell_of_row w g 0 _ e (0, 0) h]; rfl, by rw [cell_of_row w g 1 _ e (0, 0) h]; rfl, by rw [cell_of_row w g 2 _ e (0, 0) h]; rfl, frozen_of_row w g 0 _ e h, frozen_of_row w g 1 _ e h, frozen_of_row w g 2 _ e h, (Array.getElem?_eq_some_iff.1 h).1⟩
theorem blk1 {w : World} {g : Nat} {x : Value} {e : TypeId} (h : w.heap[g]? = some (.cells #[x] e (0, 0))) : w.cell? ⟨g, 0, none⟩ = some x ∧ w.frozen? ⟨g, 0, none⟩ = false ∧ g < w.heap.size :=
  ⟨by rw [cell_of_row w g 0 _ e (0, 0) h]; rfl, frozen_of_row w g 0 _ e h, (Array.getElem?_eq_some_iff.1 h).1⟩
theorem blk2 {w : World} {g : Nat} {x y : Value} {e : TypeId} (h : w.heap[g]? = some (.cells #[x, y] e (0, 0))) :
    w.cell? ⟨g, 0, none⟩ = some x ∧ w.cell? ⟨g, 1, none⟩ = some y ∧ w.frozen? ⟨g, 0, none⟩ = false ∧ w.frozen? ⟨g, 1, none⟩ = false ∧ g < w.heap.size :=
  ⟨by rw [cell_of_row w g 0 _ e (0, 0) h]; rfl, by rw [cell_of_row w g 1 _ e (0, 0) h]; rfl, frozen_of_row w g 0 _ e h, frozen_of_row w g 1 _ e h, (Array.getElem?_eq_some_iff.1 h).1⟩

/-- Behind a call: a block that lay there lies there. -/
theorem bkept {w w' : World} {g : Nat} {o : Obj} (hb : Below w.heap.size w w') (h : w.heap[g]? = some o) : w'.heap[g]? = some o := (hb.block g (Array.getElem?_eq_some_iff.1 h).1).trans h
theorem balloc (w : World) (o : Obj) : Below w.heap.size w (w.alloc o) := (bref w).alloc (Nat.le_refl _) o
theorem bthen {w b : World} {o : Obj} (k : Below (w.alloc o).heap.size (w.alloc o) b) : Below w.heap.size w b := bnext (balloc w o) k
theorem bset {w a : World} {p : Addr} {u : Value} (h : Below w.heap.size w a) (hp : w.heap.size ≤ p.block) : Below w.heap.size w (a.setCell p u) := h.setCell hp u

/-- A store into another block than the owned row's. -/
theorem OwT.set {α : Type} {enc : α → List Value} {K e base : Nat} {w : World} {v : Value} {xs : List α} (h : OwT enc K e base w v xs) (p : Addr) (u : Value) (hp : p.block < base ∨ ∀ b, v.ownBlock = some b → p.block ≠ b) : OwT enc K e base (w.setCell p u) v xs := by
  obtain ⟨h1, h2⟩ := h
  refine ⟨h1, ?_⟩
  rcases h2 with h2 | ⟨g, cap, cur, hv, hg, hh, r⟩
  · exact .inl h2
  · refine .inr ⟨g, cap, cur, hv, hg, ?_, r⟩
    rw [Below.heap_setCell _ _ _ _ ?_]
    · exact hh
    · rcases hp with hp | hp
      · omega
      · exact (hp g (by rw [hv]; rfl)).symm

/-- What is left of a bound, or -1. -/
def szv (left n : Int) : Int := if left - n < 0 then -1 else left - n
theorem szv_neg {left n : Int} (h : left < n) : szv left n = -1 := by unfold szv; rw [if_pos (by omega)]
theorem szv_pos {left n : Int} (h : n ≤ left) : szv left n = left - n := by unfold szv; rw [if_neg (by omega)]

theorem heap_alloc_at (w : World) (o : Obj) (n : Nat) (h : n = w.heap.size) : (w.alloc o).heap[n]? = some o := by subst h; exact heap_alloc_new w o

theorem gkept {w w' : World} {g : Nat} {o : Obj} {row : Option Nat} (hg : w.grownBy w' row) (h : w.heap[g]? = some o) (hne : row ≠ some g) : w'.heap[g]? = some o := (hg.block g (Array.getElem?_eq_some_iff.1 h).1 (fun e => hne e.symm)).trans h
theorem akept {w : World} {g : Nat} {o : Obj} (p : Obj) (h : w.heap[g]? = some o) : (w.alloc p).heap[g]? = some o := (heap_alloc_old w p (Array.getElem?_eq_some_iff.1 h).1).trans h

theorem cell_set3 {w : World} {b g : Nat} (o o1 o2 o3 : Nat) (u1 u2 u3 : Value) (h : b ≠ g) : (((w.setCell ⟨g, o1, none⟩ u1).setCell ⟨g, o2, none⟩ u2).setCell ⟨g, o3, none⟩ u3).cell? ⟨b, o, none⟩ = w.cell? ⟨b, o, none⟩ :=
  World.cell?_of_block ((Below.heap_setCell _ _ _ _ h).trans ((Below.heap_setCell _ _ _ _ h).trans (Below.heap_setCell _ _ _ _ h)))

theorem RdT.dropIf {α : Type} {enc : α → List Value} {K : Nat} {w : World} {b o n c j : Nat} {xs : List α} (h : RdT enc K w (.slice (some ⟨b, o, none⟩) n c) xs) (hj : j ≤ n) :
    RdT enc K w (.slice (if c = j then some ⟨b, o, none⟩ else some ⟨b, o + j * K, none⟩) (n - j) (c - j)) (xs.drop j) := by
  by_cases hc : c = j
  · rw [if_pos hc]
    obtain ⟨a', c', hv, h1, h2, h0, h3⟩ := h
    simp only [Value.slice.injEq] at hv
    obtain ⟨rfl, rfl, rfl⟩ := hv
    have : xs.drop j = [] := List.drop_eq_nil_of_le (by omega)
    rw [this, show xs.length - j = 0 by omega]
    exact RdT.empty _ _ _ _ _ (by omega)
  · rw [if_neg hc]; exact h.drop hj

theorem ret_bool {a b : Bool} (h : a = b) : Ending.returned (.bool a) = .returned (.bool b) := by rw [h]
theorem ret_int {k : IntKind} {a b : Int} (h : a = b) : Ending.returned (.int k a) = .returned (.int k b) := by rw [h]

end Go.Proofs.YtojknkpjnchchaaDoor
