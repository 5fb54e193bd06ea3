/- Contracts of the small functions on what is known of a frame. No conditions but the readings of the arguments. -/
import Derived.Test.YtojknkpjnchchaaDoorStrB
import Derived.Test.YtojknkpjnchchaaDoorRightA
namespace Go.Proofs.YtojknkpjnchchaaDoor
open Go.ChangeShapes Go.WideShapes Go.RowKit
set_option linter.all false
set_option maxRecDepth 100000
attribute [local go_sem ↓] Go.wp_at_zero Go.wp_at_succ

structure Info where
  kd : Int
  gd : Txt
  rf : Int
deriving DecidableEq
def Info.enc (m : Info) : List Value := [.int .i64 m.kd, tv m.gd, .int .i64 m.rf]
def Info.val (m : Info) : Value := .agg #[.int .i64 m.kd, tv m.gd, .int .i64 m.rf]
theorem Info.enc_len (m : Info) : m.enc.length = 3 := rfl
abbrev RdF := RdT Info.enc 3
abbrev OwFr := OwT Info.enc 3 60
theorem infoInfo : (Tryd.prog.info? 60).map (fun i => (i.zero, i.size, i.bytes)) = some (some (.agg #[.int .i64 0, .string ⟨#[]⟩, .int .i64 0]), 3, 32) := by kernel_rfl
def Info.zero : Info := ⟨0, [], 0⟩
theorem eltInfo : Elt Tryd.prog Info.enc 3 60 25 Info.zero := by
  obtain ⟨i0, hi, hz0, hz1, hz2⟩ := info_parts infoInfo
  refine ⟨Info.enc_len, by decide, ?_, Tryd.underlying25, i0, _, hi, hz0, hz1, by omega, rfl⟩
  intro x u hu
  simp [Info.enc] at hu
  rcases hu with rfl | rfl | rfl <;> rfl

def infoOk (x : Info) : Bool := decide (x = Info.zero) || (btw 1 x.kd 3 && rightOk x.gd && btw 0 x.rf 50)
def infosOk (xs : List Info) : Bool := decide (xs.length = 12) && xs.all infoOk

theorem eqlInfo (m p : Info) (w : World) : (binOp .eql 60 (.agg #[.int .i64 m.kd, tv m.gd, .int .i64 m.rf]) (.agg #[.int .i64 p.kd, tv p.gd, .int .i64 p.rf])).run Tryd.prog w = .ok (.bool (decide (m = p))) w := by
  have u3 := Tryd.underlying3
  have a3 := Tryd.isAgg3
  have z3 := Tryd.sizeOf3
  have u9 := Tryd.underlying9
  have a9 := Tryd.isAgg9
  have z9 := Tryd.sizeOf9
  have hS : Tryd.prog.underlying 60 = some (.struct (Tryd.prog.fieldsOf 60)) := by kernel_rfl
  have hp : Tryd.prog.stoodInHeld 60 = false := by kernel_rfl
  rw [run_eql_struct, show (10000 : Nat) = 9999 + 1 from rfl, run_equalIn_agg w 9999 60 _ _ hS hp]
  simp only [Program.fieldsOf, Tryd.underlying60]
  obtain ⟨a, b, c⟩ := m
  obtain ⟨a', b', c'⟩ := p
  simp only [Info.mk.injEq]
  go_simp
  by_cases h1 : a = a' <;> by_cases h2 : b = b' <;> by_cases h3 : c = c' <;> simp [h1, h2, h3]
theorem neqInfo (m p : Info) (w : World) : (binOp .neq 60 (.agg #[.int .i64 m.kd, tv m.gd, .int .i64 m.rf]) (.agg #[.int .i64 p.kd, tv p.gd, .int .i64 p.rf])).run Tryd.prog w = .ok (.bool (!decide (m = p))) w := by
  have u3 := Tryd.underlying3
  have a3 := Tryd.isAgg3
  have z3 := Tryd.sizeOf3
  have u9 := Tryd.underlying9
  have a9 := Tryd.isAgg9
  have z9 := Tryd.sizeOf9
  have hS : Tryd.prog.underlying 60 = some (.struct (Tryd.prog.fieldsOf 60)) := by kernel_rfl
  have hp : Tryd.prog.stoodInHeld 60 = false := by kernel_rfl
  rw [run_neq_struct, show (10000 : Nat) = 9999 + 1 from rfl, run_equalIn_agg w 9999 60 _ _ hS hp]
  simp only [Program.fieldsOf, Tryd.underlying60]
  obtain ⟨a, b, c⟩ := m
  obtain ⟨a', b', c'⟩ := p
  simp only [Info.mk.injEq]
  go_simp
  by_cases h1 : a = a' <;> by_cases h2 : b = b' <;> by_cases h3 : c = c' <;> simp [h1, h2, h3]
theorem guardInfo : Tryd.prog.eqGuardType Tryd.prog.depth 60 = false := by kernel_rfl
end Go.Proofs.YtojknkpjnchchaaDoor
