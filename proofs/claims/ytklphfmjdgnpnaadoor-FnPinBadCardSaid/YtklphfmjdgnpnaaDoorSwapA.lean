/- Contracts of the helpers' loops over slices of integer slices. No conditions but the readings of the arguments. -/
import Derived.Test.YtklphfmjdgnpnaaDoorWords
namespace Go.Proofs.YtklphfmjdgnpnaaDoor
open Go.ChangeShapes Go.WideShapes Go.RowKit
set_option linter.all false
set_option maxRecDepth 100000
attribute [local go_sem ↓] Go.wp_at_zero Go.wp_at_succ

abbrev RdII := RdN encI 1
abbrev OwII := OwN encI 1 3 27
theorem infoSl : (Tryd.prog.info? 27).map (fun i => (i.zero, i.size, i.bytes)) = some (some (.slice none 0 0), 1, 24) := by kernel_rfl
theorem eltSl : Elt Tryd.prog encL 1 27 23 slN := by
  obtain ⟨i0, hi, hz0, hz1, hz2⟩ := info_parts infoSl
  refine ⟨encL_len, by decide, ?_, Tryd.underlying23, i0, _, hi, hz0, hz1, by omega, rfl⟩
  intro x u hu
  simp [encL] at hu
  subst hu; rfl
theorem neSl : 3 ≠ 27 := by decide

/-- How many integers there are. -/
def sumLen (xss : List (List Int)) : Nat := (xss.map List.length).sum
/-- What is left of a bound after slices of integers, or -1. -/
def szs : Int → List (List Int) → Int
  | left, [] => left
  | left, xs :: t => if szv left xs.length < 0 then -1 else szs (szv left xs.length) t

theorem szIntS_c (xs : List Int) (v : Value) (left : Int) (w : World) (h : RdI w v xs) (hl : 0 ≤ left ∧ left ≤ 1048576) : Calls Tryd.prog 80 #[v, .int .i64 left] w fun e w' =>
    e = .returned (.int .i64 (szv left xs.length)) ∧ w = w' := by
  obtain ⟨a, c, rfl, h1, h2, -⟩ := h
  generalize xs.length = n at *
  unfold maxLen at h2
  go_enter Tryd.func80, Tryd.ntmps80
  go_wp2
  all_goals go_ret
  all_goals exact ⟨ret_int (by unfold szv; split <;> first | rfl | omega), rfl⟩

theorem sum_take {xss : List (List Int)} {k : Nat} {xs : List Int} (h : xss[k]? = some xs) : sumLen (xss.take (k + 1)) = sumLen (xss.take k) + xs.length := by
  unfold sumLen
  rw [List.take_add_one, h]
  simp
theorem sum_take_le (xss : List (List Int)) (k : Nat) : sumLen (xss.take k) ≤ sumLen xss := by
  have h := congrArg sumLen (List.take_append_drop k xss)
  unfold sumLen at h ⊢
  rw [List.map_append, List.sum_append] at h
  omega
theorem sum_all {xss : List (List Int)} {k : Nat} (h : xss.length ≤ k) : sumLen (xss.take k) = sumLen xss := by rw [List.take_of_length_le h]

theorem toIntS_c (xs : List Int) (v : Value) (w : World) (hx : RdI w v xs) (hl : xs.length ≤ 1048576) : Calls Tryd.prog 82 #[v] w fun e w' =>
    ∃ u, e = .returned u ∧ OwI w.heap.size w' u xs ∧ Below w.heap.size w w' := by
  obtain ⟨a, c, rfl, h1, h2, -, h3⟩ := hx
  unfold maxLen at h2
  obtain ⟨n, hn1⟩ : ∃ n, n = xs.length := ⟨_, rfl⟩
  rw [← hn1] at h1 hl ⊢
  have HN := Lib.hid hn1
  have H3 := Lib.hid h3
  clear h3 hn1
  go_enter Tryd.func82, Tryd.ntmps82
  go_wp2_with (refine make_T eltInt rfl _ _ rfl n rfl rfl (by omega) ?_; intro w1 ho hb1)
  have hs1 := hb1.size
  have ho : OwI w.heap.size w1 (.slice (some ⟨w.heap.size, 0, none⟩) n n) (filled 0 xs 0) := by rw [filled_zero, ← HN.out]; exact ho
  go_wp2
  go_loopw [4] (fun i wr => ∃ k : Nat, k ≤ n ∧ i = .int .i64 k ∧ Below w.heap.size w wr ∧ OwI w.heap.size wr (.slice (some ⟨w.heap.size, 0, none⟩) n n) (filled 0 xs k)) (fun i _ => n - (intOf i).toNat)
  case atStart => exact ⟨0, Nat.zero_le _, rfl, hb1, ho⟩
  case round =>
    obtain ⟨k, hk, rfl, hb, hok⟩ := hrel
    obtain ⟨e0, e1, e2, e3, e4, hfz, hcs⟩ := hok.open encI_len
    by_cases hlt : k < n
    · obtain ⟨m, hm⟩ : ∃ m, xs[k]? = some m := ⟨_, List.getElem?_eq_getElem (by have := HN.out; omega)⟩
      obtain ⟨z, hz⟩ : ∃ z, (filled 0 xs k)[k]? = some z := ⟨_, List.getElem?_eq_getElem (by omega)⟩
      obtain ⟨b, o, rfl, hbl, hc⟩ := H3.out k m hm
      have c0 := (hb.cell (p := ⟨b, o + k * 1 + 0, none⟩) hbl).trans (hc 0 _ rfl)
      have d0 := hcs k z 0 _ hz rfl
      have f0 := hfz k
      simp only [Nat.add_zero, Nat.mul_one] at c0 d0
      have HM := Lib.hid hm
      have HOK := Lib.hid hok
      have HE0 := Lib.hid e0
      clear hc hm hz hcs hfz hok e0
      go_wp2
      have hok2 := HOK.out.stored1 encI_len k m _ (by have := HE0.out; omega) rfl
      rw [filled_step _ _ _ _ HM.out] at hok2
      go_roundw
      case rel => exact ⟨k + 1, by omega, by go_num, hb.setCell (Nat.le_refl _) _, hok2⟩
      case measure => simp [intOf]; omega
    · clear hcs hfz e0
      go_wp2
      go_ret
      refine ⟨_, rfl, ?_, hb⟩
      have h1 := HN.out
      have h3 : k = xs.length := by omega
      rw [h3, filled_all] at hok
      exact hok

theorem szIntSS_c (xss : List (List Int)) (v : Value) (left : Int) (w : World) (h : RdII w v xss) (hl : 0 ≤ left ∧ left ≤ 1048576) : Calls Tryd.prog 38 #[v, .int .i64 left] w fun e w' =>
    e = .returned (.int .i64 (szv left ((xss.length : Int) + sumLen xss))) ∧ w = w' := by
  obtain ⟨rows, ⟨a, c, rfl, h1, h2, -, h3⟩, hin⟩ := h
  have H3 := Lib.hid h3
  have HIN := Lib.hid hin
  obtain ⟨n, hn⟩ : ∃ n, n = rows.length := ⟨_, rfl⟩
  have hn2 : n = xss.length := hn.trans hin.1
  rw [← hn] at h1 ⊢
  have HN := Lib.hid hn
  have HN2 := Lib.hid hn2
  unfold maxLen at h2
  clear h3 hin hn hn2
  by_cases hlt : left < n
  · go_enter Tryd.func38, Tryd.ntmps38
    go_wp2
    go_ret
    exact ⟨ret_int (szv_neg (by have := HN2.out; omega)).symm, rfl⟩
  · go_enter Tryd.func38, Tryd.ntmps38
    go_wp2
    go_loop [1, 5] (fun t i => ∃ k : Nat, k ≤ n ∧ i = .int .i64 k ∧ t = .int .i64 (left - n - sumLen (xss.take k)) ∧ (sumLen (xss.take k) : Int) ≤ left - n) (fun _ i => n - (intOf i).toNat)
    case atStart => exact ⟨0, Nat.zero_le _, rfl, by simp [sumLen], by simp [sumLen]; omega⟩
    case round =>
      obtain ⟨k, hk, rfl, rfl, hs⟩ := hrel
      by_cases hlt2 : k < n
      · obtain ⟨xs, hxs⟩ : ∃ xs, xss[k]? = some xs := ⟨_, List.getElem?_eq_getElem (by have := HN2.out; omega)⟩
        obtain ⟨s, hrow, hrd⟩ := HIN.out.get hxs
        obtain ⟨b, o, rfl, hbl, hc⟩ := H3.out k s hrow
        have c0 := hc 0 _ rfl
        simp only [Nat.add_zero, Nat.mul_one] at c0
        have HS1 := Lib.hid (sum_take hxs)
        have HRD := Lib.hid hrd
        clear hc hxs hrow hrd
        by_cases hfit : (xs.length : Int) ≤ left - n - sumLen (xss.take k)
        · have hz := szv_pos hfit
          have HZ := Lib.hid hz
          clear hz
          go_wp2_with fail
          refine (szIntS_c xs _ _ _ HRD.out (by omega)).mono ?_
          rintro e w' ⟨rfl, rfl⟩
          rw [HZ.out]
          go_wp2
          go_round
          case rel => exact ⟨k + 1, by omega, by go_num, by have := HS1.out; first | (congr 1; omega) | (simp; omega), by have := HS1.out; omega⟩
          case measure => simp [intOf]; omega
        · have hz : szv (left - n - sumLen (xss.take k)) xs.length = -1 := szv_neg (by omega)
          have HZ := Lib.hid hz
          clear hz
          go_wp2_with fail
          refine (szIntS_c xs _ _ _ HRD.out (by omega)).mono ?_
          rintro e w' ⟨rfl, rfl⟩
          rw [HZ.out]
          go_wp2
          go_ret
          exact ⟨ret_int (szv_neg (by have := HS1.out; have := HN2.out; have := sum_take_le xss (k + 1); omega)).symm, rfl⟩
      · go_wp2
        go_ret
        have hall : sumLen (xss.take k) = sumLen xss := sum_all (by have := HN2.out; omega)
        rw [hall] at hs ⊢
        exact ⟨ret_int (by rw [szv_pos (by have := HN2.out; omega)]; have := HN2.out; omega), rfl⟩
end Go.Proofs.YtklphfmjdgnpnaaDoor
