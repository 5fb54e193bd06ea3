/- Contracts of the helpers' loops over integers. No conditions but the readings of the arguments. -/
import Derived.Test.YtdeempkiffdlnaaDoorGen
namespace Go.Proofs.YtdeempkiffdlnaaDoor
open Go.ChangeShapes Go.WideShapes Go.RowKit
set_option linter.all false
attribute [local go_sem ↓] Go.wp_at_zero Go.wp_at_succ

def encI (x : Int) : List Value := [.int .i64 x]
abbrev RdI := RdT encI 1
abbrev OwI := OwT encI 1 3
theorem encI_len (x : Int) : (encI x).length = 1 := rfl
theorem infoInt : (Tryd.prog.info? 3).map (fun i => (i.zero, i.size, i.bytes)) = some (some (.int .i64 0), 1, 8) := by kernel_rfl
theorem eltInt : Elt Tryd.prog encI 1 3 71 (0 : Int) := by
  obtain ⟨i0, hi, hz0, hz1, hz2⟩ := info_parts infoInt
  refine ⟨encI_len, by decide, ?_, Tryd.underlying71, i0, _, hi, hz0, hz1, by omega, rfl⟩
  intro x u hu
  simp [encI] at hu
  subst hu; rfl

/-- The marks that a loop lays over integers: from q on. -/
def marksI (q : Int) (n : Nat) : List Int := (List.range n).map fun i => q + (i : Nat)
theorem marksI_len (q : Int) (n : Nat) : (marksI q n).length = n := by simp [marksI]
theorem marksI_get (q : Int) (n k : Nat) (h : k < n) : (marksI q n)[k]? = some (q + k) := by simp [marksI, h]
end Go.Proofs.YtdeempkiffdlnaaDoor
