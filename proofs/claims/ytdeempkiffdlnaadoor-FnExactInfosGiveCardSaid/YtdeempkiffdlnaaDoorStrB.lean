/- Contracts of the marks over slices of strings, and of the library's loops over them. No conditions but the readings of the arguments. -/
import Derived.Test.YtdeempkiffdlnaaDoorStrA
namespace Go.Proofs.YtdeempkiffdlnaaDoor
open Go.ChangeShapes Go.WideShapes Go.RowKit
set_option linter.all false
attribute [local go_sem ↓] Go.wp_at_zero Go.wp_at_succ

/-- Decimal digits, in front of a text. -/
def digs (n : Nat) (acc : Txt) : Txt := if h : n = 0 then acc else digs (n / 10) (UInt8.ofNat (48 + n % 10) :: acc)
termination_by n
decreasing_by omega
def mtext (q : Int) : Txt := 109 :: digs q.toNat []
theorem digs_step {n : Nat} (h : 0 < n) (acc : Txt) : digs n acc = digs (n / 10) (UInt8.ofNat (48 + n % 10) :: acc) := by rw [digs, dif_neg (by omega)]
theorem digs_zero (acc : Txt) : digs 0 acc = acc := by rw [digs, dif_pos rfl]

theorem cat_one (b : UInt8) (x : Txt) : Value.string (ByteArray.mk #[b] ++ ByteArray.mk x.toArray) = tv (b :: x) := by
  congr 1

set_option maxHeartbeats 1000000 in
theorem markText_c (q : Int) (w : World) (hq : 1 ≤ q ∧ q ≤ 100000000) : Calls Tryd.prog 51 #[.int .i64 q] w fun e w' => e = .returned (tv (mtext q)) ∧ Below w.heap.size w w' := by
  go_enter Tryd.func51, Tryd.ntmps51
  go_wp2
  go_loopw [0, 3] (fun t out wr => ∃ (n : Nat) (acc : Txt), t = .int .i64 n ∧ out = tv acc ∧ Hid (digs n acc = digs q.toNat []) ∧ Hid (n * 10 ^ acc.length ≤ 100000000) ∧ acc.length ≤ 10 ∧ Below w.heap.size w wr) (fun t _ _ => (intOf t).toNat)
  case atStart => exact ⟨q.toNat, [], by simp [Int.toNat_of_nonneg (show 0 ≤ q by omega)], rfl, rfl, by simp [Hid]; omega, by simp, bref _⟩
  case round =>
    obtain ⟨n, acc, rfl, rfl, hd, hn, hla, hb⟩ := hrel
    by_cases hlt : 0 < n
    · have hacc : acc.length ≤ 8 := by
        have h1 := hn.out
        apply Classical.byContradiction
        intro hc
        have h2 : 10 ^ 9 ≤ 10 ^ acc.length := Nat.pow_le_pow_right (by decide) (by omega)
        have h3 : 1 * 10 ^ acc.length ≤ n * 10 ^ acc.length := Nat.mul_le_mul_right _ hlt
        omega
      have hnb : n ≤ 100000000 := by
        have h1 := hn.out
        have h3 : n * 1 ≤ n * 10 ^ acc.length := Nat.mul_le_mul_left _ (Nat.pow_pos (by decide))
        omega
      have hm0 : 0 ≤ (n : Int) % 10 := by omega
      have hm1 : (n : Int) % 10 ≤ 9 := by omega
      have hcv : (convert 22 9 (.slice (some ⟨wr.heap.size, 0, none⟩) 1 1)).run Tryd.prog (wr.alloc (.cells #[.int .u8 (48 + (n : Int) % 10)] 5)) = .ok (.string ⟨#[UInt8.ofNat (48 + n % 10)]⟩) (wr.alloc (.cells #[.int .u8 (48 + (n : Int) % 10)] 5)) :=
        run_convert_bytes_back _ 22 9 5 ⟨wr.heap.size, 0, none⟩ 1 [UInt8.ofNat (48 + n % 10)] Tryd.underlying22 Tryd.underlying5 Tryd.underlying9 (fun j hj => by
          have hj0 : j = 0 := by simp at hj; exact hj
          subst hj0
          have hb9 : (UInt8.ofNat (48 + n % 10)).toNat = 48 + n % 10 := by simp; omega
          have := cell_of_row (wr.alloc (.cells #[.int .u8 (48 + (n : Int) % 10)] 5)) wr.heap.size 0 _ _ (0, 0) (heap_alloc_new wr _)
          simp only [List.getElem_cons_zero, hb9]
          refine Eq.trans this ?_
          simp)
      have hz9 : (9223372036854775807 < 1 + acc.length) = False := by simp; omega
      have hd' := hd.out
      rw [digs_step hlt] at hd'
      generalize UInt8.ofNat (48 + n % 10) = bb at hcv hd'
      have HD := Lib.hid hd'
      have hn' : n / 10 * 10 ^ (bb :: acc).length ≤ 100000000 := by
        have h1 := hn.out
        rw [List.length_cons, Nat.pow_succ, Nat.mul_comm (10 ^ _) 10, ← Nat.mul_assoc]
        exact Nat.le_trans (Nat.mul_le_mul_right _ (Nat.div_mul_le_self n 10)) h1
      have HN := Lib.hid hn'
      clear hd hd' hn hn'
      go_wp2
      go_roundw
      case rel => exact ⟨n / 10, bb :: acc, by first | (push_cast; rfl) | go_num, cat_one _ _, HD.out, HN.out, by simp; omega, hb.alloc hb.size _⟩
      case measure => simp [intOf]; omega
    · have hn0 : n = 0 := by omega
      subst hn0
      have hz9 : (9223372036854775807 < 1 + acc.length) = False := by
        simp; omega
      have hd' := hd.out
      rw [digs_zero] at hd'
      have HD := Lib.hid hd'
      clear hd hd'
      go_wp2
      go_ret
      exact ⟨by rw [cat_one, HD.out]; rfl, hb⟩

def marksS (q : Int) (n : Nat) : List Txt := (List.range n).map fun i => mtext (q + (i : Nat))
theorem marksS_len (q : Int) (n : Nat) : (marksS q n).length = n := by simp [marksS]
theorem marksS_get (q : Int) (n k : Nat) (h : k < n) : (marksS q n)[k]? = some (mtext (q + k)) := by simp [marksS, h]

end Go.Proofs.YtdeempkiffdlnaaDoor
