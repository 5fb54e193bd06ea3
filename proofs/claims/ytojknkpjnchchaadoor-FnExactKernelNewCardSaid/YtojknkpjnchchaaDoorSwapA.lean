/- Contracts of the helpers' loops over slices of integer slices. No conditions but the readings of the arguments. -/
import Derived.Test.YtojknkpjnchchaaDoorWords
namespace Go.Proofs.YtojknkpjnchchaaDoor
open Go.ChangeShapes Go.WideShapes Go.RowKit
set_option linter.all false
set_option maxRecDepth 100000
attribute [local go_sem ↓] Go.wp_at_zero Go.wp_at_succ

abbrev RdII := RdN encI 1
abbrev OwII := OwN encI 1 3 45
theorem infoSl : (Tryd.prog.info? 45).map (fun i => (i.zero, i.size, i.bytes)) = some (some (.slice none 0 0), 1, 24) := by kernel_rfl
theorem eltSl : Elt Tryd.prog encL 1 45 24 slN := by
  obtain ⟨i0, hi, hz0, hz1, hz2⟩ := info_parts infoSl
  refine ⟨encL_len, by decide, ?_, Tryd.underlying24, i0, _, hi, hz0, hz1, by omega, rfl⟩
  intro x u hu
  simp [encL] at hu
  subst hu; rfl
theorem neSl : 3 ≠ 45 := by decide

/-- How many integers there are. -/
def sumLen (xss : List (List Int)) : Nat := (xss.map List.length).sum
/-- What is left of a bound after slices of integers, or -1. -/
def szs : Int → List (List Int) → Int
  | left, [] => left
  | left, xs :: t => if szv left xs.length < 0 then -1 else szs (szv left xs.length) t

theorem sum_take {xss : List (List Int)} {k : Nat} {xs : List Int} (h : xss[k]? = some xs) : sumLen (xss.take (k + 1)) = sumLen (xss.take k) + xs.length := by
  unfold sumLen
  rw [List.take_add_one, h]
  simp
theorem sum_take_le (xss : List (List Int)) (k : Nat) : sumLen (xss.take k) ≤ sumLen xss := by
  have h := congrArg sumLen (List.take_append_drop k xss)
  unfold sumLen at h ⊢
  rw [List.map_append, List.sum_append] at h
  omega
theorem sum_all {xss : List (List Int)} {k : Nat} (h : xss.length ≤ k) : sumLen (xss.take k) = sumLen xss := by rw [List.take_of_length_le h]

end Go.Proofs.YtojknkpjnchchaaDoor
