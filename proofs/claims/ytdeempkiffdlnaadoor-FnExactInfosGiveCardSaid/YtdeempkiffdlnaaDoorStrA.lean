/- Contracts of the helpers' loops over slices of strings. No conditions but the readings of the arguments. -/
import Derived.Test.YtdeempkiffdlnaaDoorGen
import Derived.Test.YtdeempkiffdlnaaDoorLibD
import Derived.Lib.Strings
namespace Go.Proofs.YtdeempkiffdlnaaDoor
open Go.ChangeShapes Go.WideShapes Go.RowKit
set_option linter.all false
attribute [local go_sem ↓] Go.wp_at_zero Go.wp_at_succ

/-- A text: its bytes. -/
abbrev Txt := List UInt8
abbrev tv (x : Txt) : Value := .string ⟨x.toArray⟩
def encS (x : Txt) : List Value := [tv x]
theorem encS_len (x : Txt) : (encS x).length = 1 := rfl
abbrev RdS := RdT encS 1
abbrev OwS := OwT encS 1 9
theorem infoStr : (Tryd.prog.info? 9).map (fun i => (i.zero, i.size, i.bytes)) = some (some (.string ⟨#[]⟩), 1, 16) := by kernel_rfl
theorem eltStr : Elt Tryd.prog encS 1 9 70 ([] : Txt) := by
  obtain ⟨i0, hi, hz0, hz1, hz2⟩ := info_parts infoStr
  refine ⟨encS_len, by decide, ?_, Tryd.underlying70, i0, _, hi, hz0, hz1, by omega, rfl⟩
  intro x u hu
  simp [encS] at hu
  subst hu; rfl
theorem tv_size (x : Txt) : (ByteArray.mk x.toArray).size = x.length := by simp [ByteArray.size]
theorem tv_of (s : ByteArray) : Value.string s = tv s.data.toList := by cases s; rfl

/-- How many bytes there are. -/
def strSum (xs : List Txt) : Nat := (xs.map List.length).sum
theorem strSum_take {xs : List Txt} {k : Nat} {x : Txt} (h : xs[k]? = some x) : strSum (xs.take (k + 1)) = strSum (xs.take k) + x.length := by
  unfold strSum
  rw [List.take_add_one, h]
  simp
theorem strSum_take_le (xs : List Txt) (k : Nat) : strSum (xs.take k) ≤ strSum xs := by
  have h := congrArg strSum (List.take_append_drop k xs)
  unfold strSum at h ⊢
  rw [List.map_append, List.sum_append] at h
  omega
theorem strSum_all {xs : List Txt} {k : Nat} (h : xs.length ≤ k) : strSum (xs.take k) = strSum xs := by rw [List.take_of_length_le h]
theorem len_le_strSum {xs : List Txt} {x : Txt} (h : x ∈ xs) : x.length ≤ strSum xs := by
  obtain ⟨k, hk⟩ := List.getElem?_of_mem h
  have h1 := strSum_take hk
  have h2 := strSum_take_le xs (k + 1)
  omega

/-- Texts of a size that a machine can bear. -/
def fitS (xs : List Txt) : Prop := ∀ x ∈ xs, x.length ≤ 9223372036854775807
def RdSF (w : World) (v : Value) (xs : List Txt) : Prop := RdS w v xs ∧ fitS xs
theorem RdSF.below {w w' : World} {v : Value} {xs : List Txt} (h : RdSF w v xs) (hb : Below w.heap.size w w') : RdSF w' v xs := ⟨h.1.below hb, h.2⟩

end Go.Proofs.YtdeempkiffdlnaaDoor
