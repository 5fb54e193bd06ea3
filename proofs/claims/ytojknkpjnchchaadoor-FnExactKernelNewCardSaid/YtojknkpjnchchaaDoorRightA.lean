/- Contracts of the functions on one right. No conditions but the sizes of the texts. -/
import Derived.Test.YtojknkpjnchchaaDoorRightR
import Derived.Test.YtojknkpjnchchaaDoorStrB
import Derived.Test.YtojknkpjnchchaaDoorShelf
namespace Go.Proofs.YtojknkpjnchchaaDoor
open Go.ChangeShapes Go.WideShapes Go.RowKit
set_option linter.all false
set_option maxRecDepth 100000
attribute [local go_sem ↓] Go.wp_at_zero Go.wp_at_succ

theorem trim_c (x : Txt) (w : World) (hx : x.length ≤ 9223372036854775807) : Calls Tryd.prog 46 #[tv x, .string ⟨#[97, 98, 99]⟩] w fun e w' => e = .returned (tv (Lib.trimS x [97, 98, 99])) ∧ Below w.heap.size w w' :=
  (Any.strings_Trim_laid Tryd.trimL (by kernel_rfl) ⟨x.toArray⟩ ⟨#[97, 98, 99]⟩ w (by rw [tv_size]; exact hx) (by decide) (ascii_of_all (by decide))).mono (by rintro e w' ⟨he, hb⟩; exact ⟨by rw [he], hb⟩)

theorem implRightValid_c (x : Txt) (w : World) (hx : x.length ≤ 9223372036854775807) : Calls Tryd.prog 37 #[tv x] w fun e w' => e = .returned (.bool (rightOk x)) ∧ Below w.heap.size w w' := by
  have hsz := tv_size x
  by_cases h4 : x.length ≤ 4
  · have HR := Lib.hid (show rightOk x = (Lib.trimS x [97, 98, 99] == []) by rw [trim_nil]; simp only [rightOk, h4, decide_true, Bool.true_and]; rfl)
    go_enter Tryd.func37, Tryd.ntmps37
    go_wp2_with fail
    refine (trim_c x _ hx).mono ?_
    rintro e w1 ⟨rfl, hb⟩
    generalize Lib.trimS x [97, 98, 99] = y at *
    go_wp2
    go_ret
    exact ⟨ret_bool (by rw [HR.out]; cases y <;> rfl), hb⟩
  · have HR := Lib.hid (show rightOk x = false by simp [rightOk, h4])
    go_enter Tryd.func37, Tryd.ntmps37
    go_wp2
    go_ret
    exact ⟨ret_bool HR.out.symm, bref _⟩

theorem rightOk_bad {x : Txt} {k : Nat} {b : UInt8} (hb : x[k]? = some b) (h : letter b = false) : rightOk x = false := by
  cases hr : rightOk x
  · rfl
  · simp only [rightOk, Bool.and_eq_true, List.all_eq_true] at hr
    have := hr.2 b (List.mem_of_getElem? hb)
    rw [h] at this; cases this
theorem rightOk_good {x : Txt} {k : Nat} (hk : x.length ≤ k) (h : (x.take k).all letter = true) : rightOk x = decide (x.length ≤ 4) := by
  rw [List.take_of_length_le hk] at h
  simp [rightOk, h]
theorem all_take_succ {α : Type} {p : α → Bool} {xs : List α} {k : Nat} {x : α} (hx : xs[k]? = some x) (h : (xs.take k).all p = true) (hp : p x = true) : (xs.take (k + 1)).all p = true := by
  rw [List.take_add_one, hx]; simp [List.all_append, h, hp]

set_option maxHeartbeats 1000000 in
theorem specRightValid_c (x : Txt) (w : World) (hx : x.length ≤ 9223372036854775807) : Calls Tryd.prog 35 #[tv x] w fun e w' => e = .returned (.bool (rightOk x)) ∧ w = w' := by
  have hsz := tv_size x
  obtain ⟨n, hn⟩ : ∃ n, n = x.length := ⟨_, rfl⟩
  rw [← hn] at hsz hx
  have HN := Lib.hid hn
  clear hn
  go_enter Tryd.func35, Tryd.ntmps35
  go_wp2
  go_loop [3] (fun i => ∃ k : Nat, k ≤ n ∧ i = .int .i64 k ∧ Hid ((x.take k).all letter = true)) (fun i => n - (intOf i).toNat)
  case atStart => exact ⟨0, Nat.zero_le _, rfl, by simp [Hid]⟩
  case round =>
    obtain ⟨k, hk, rfl, hal⟩ := hrel
    by_cases hlt : k < n
    · obtain ⟨b, hb⟩ : ∃ b, x[k]? = some b := ⟨_, List.getElem?_eq_getElem (by have := HN.out; omega)⟩
      have hg : ∀ h : k < (ByteArray.mk x.toArray).size, (ByteArray.mk x.toArray)[k]'h = b := by
        intro h
        obtain ⟨h1, h2⟩ := List.getElem?_eq_some_iff.1 hb
        rw [← h2]; rfl
      have hbn := b.toNat_lt
      have HL := Lib.hid (letter_iff b)
      have HB := Lib.hid hb
      clear hb
      by_cases h97 : (b.toNat : Int) < 97
      · have HF := Lib.hid (show letter b = false by rw [HL.out]; simp; omega)
        go_wp2
        go_ret
        exact ⟨ret_bool (rightOk_bad HB.out HF.out).symm, rfl⟩
      · by_cases h99 : (99 : Int) < (b.toNat : Int)
        · have HF := Lib.hid (show letter b = false by rw [HL.out]; simp; omega)
          go_wp2
          go_ret
          exact ⟨ret_bool (rightOk_bad HB.out HF.out).symm, rfl⟩
        · have HT := Lib.hid (show letter b = true by rw [HL.out]; simp; omega)
          go_wp2
          go_round
          case rel => exact ⟨k + 1, by omega, by go_num, all_take_succ HB.out hal.out HT.out⟩
          case measure => simp [intOf]; omega
    · go_wp2
      go_ret
      exact ⟨ret_bool (by rw [rightOk_good (by have := HN.out; omega) hal.out, ← HN.out]; first | rfl | (simp; try omega)), rfl⟩

theorem cov_extract {a b : Txt} (h : a.length ≤ b.length) : (((ByteArray.mk b.toArray).extract 0 a.length).toList == a) = covB a b := by
  rw [Lib.extract_toList]
  simp only [Nat.sub_zero, List.drop_zero]
  rw [Bool.eq_iff_iff, beq_iff_eq, cov_iff]
  constructor
  · intro h1; exact ⟨b.drop a.length, by conv => lhs; rw [← List.take_append_drop a.length b, h1]⟩
  · rintro ⟨c, rfl⟩; simp

end Go.Proofs.YtojknkpjnchchaaDoor
