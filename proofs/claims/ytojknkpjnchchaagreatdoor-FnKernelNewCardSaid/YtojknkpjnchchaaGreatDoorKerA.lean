/- Contracts of the helpers' loops over slices of string slices. No conditions but the readings of the arguments and the sizes of the texts. -/
import Derived.Test.YtojknkpjnchchaaGreatDoorGStr
namespace Go.Proofs.YtojknkpjnchchaaGreatDoor
open Go.ChangeShapes Go.WideShapes Go.RowKit
set_option linter.all false
set_option maxRecDepth 100000
attribute [local go_sem ↓] Go.wp_at_zero Go.wp_at_succ

/-- A sum over a list. -/
def sumBy {α : Type} (f : α → Nat) (xs : List α) : Nat := (xs.map f).sum
theorem sumBy_take {α : Type} (f : α → Nat) {xs : List α} {k : Nat} {x : α} (h : xs[k]? = some x) : sumBy f (xs.take (k + 1)) = sumBy f (xs.take k) + f x := by
  unfold sumBy
  rw [List.take_add_one, h]
  simp
theorem sumBy_take_le {α : Type} (f : α → Nat) (xs : List α) (k : Nat) : sumBy f (xs.take k) ≤ sumBy f xs := by
  have h := congrArg (sumBy f) (List.take_append_drop k xs)
  unfold sumBy at h ⊢
  rw [List.map_append, List.sum_append] at h
  omega
theorem sumBy_all {α : Type} (f : α → Nat) {xs : List α} {k : Nat} (h : xs.length ≤ k) : sumBy f (xs.take k) = sumBy f xs := by rw [List.take_of_length_le h]
theorem le_sumBy {α : Type} (f : α → Nat) {xs : List α} {k : Nat} {x : α} (h : xs[k]? = some x) : f x ≤ sumBy f xs := by
  have h1 := sumBy_take f h
  have h2 := sumBy_take_le f xs (k + 1)
  omega

abbrev RdSS := RdN encS 1
abbrev OwSS := OwN encS 1 9 53
theorem infoSs : (Tryz.prog.info? 53).map (fun i => (i.zero, i.size, i.bytes)) = some (some (.slice none 0 0), 1, 24) := by kernel_rfl
theorem eltSs : Elt Tryz.prog encL 1 53 48 slN := by
  obtain ⟨i0, hi, hz0, hz1, hz2⟩ := info_parts infoSs
  refine ⟨encL_len, by decide, ?_, Tryz.underlying48, i0, _, hi, hz0, hz1, by omega, rfl⟩
  intro x u hu
  simp [encL] at hu
  subst hu; rfl
theorem neSs : 9 ≠ 53 := by decide

/-- What a slice of strings takes of a bound. -/
def szl (xs : List Txt) : Nat := xs.length + strSum xs
theorem szString2_c (xs : List Txt) (v : Value) (left : Int) (w : World) (h : RdS w v xs) (hf : fitS xs) (hl : 0 ≤ left ∧ left ≤ 1048576) : Calls Tryz.prog 129 #[v, .int .i64 left] w fun e w' =>
    e = .returned (.int .i64 (szv left (szl xs))) ∧ w = w' := by
  have h1 := szStringS_c xs v left w h hf hl
  rw [show ((xs.length : Int) + strSum xs) = (szl xs : Int) by unfold szl; push_cast; rfl] at h1
  exact h1

/-- The marks that a loop lays over slices of integers: from q on. -/
def marksSS : Int → List (List Txt) → List (List Txt)
  | _, [] => []
  | q, xs :: t => marksS q xs.length :: marksSS (q + xs.length) t
theorem marksSS_len : ∀ (xss : List (List Txt)) (q : Int), (marksSS q xss).length = xss.length := by
  intro xss
  induction xss with
  | nil => intro q; rfl
  | cons x t ih => intro q; simp [marksSS, ih]
theorem marksSS_get : ∀ (xss : List (List Txt)) (q : Int) (k : Nat) (xs : List Txt), xss[k]? = some xs → (marksSS q xss)[k]? = some (marksS (q + sumBy List.length (xss.take k)) xs.length) := by
  intro xss
  induction xss with
  | nil => intro q k xs h; simp at h
  | cons x t ih =>
    intro q k xs h
    cases k with
    | zero => simp at h; subst h; simp [marksSS, sumBy]
    | succ k =>
      simp at h
      have := ih (q + x.length) k xs h
      simp only [marksSS, List.getElem?_cons_succ, this, List.take_succ_cons, sumBy, List.map_cons, List.sum_cons]
      congr 2
      push_cast
      omega
end Go.Proofs.YtojknkpjnchchaaGreatDoor
