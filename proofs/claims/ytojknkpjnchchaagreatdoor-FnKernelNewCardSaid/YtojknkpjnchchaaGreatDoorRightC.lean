/- Contracts of the functions that check rights. No conditions but the readings of the arguments and the sizes of the texts. -/
import Derived.Test.YtojknkpjnchchaaGreatDoorGRight
import Derived.Deep.QuietTactic
import Derived.BigQuiet
namespace Go.Proofs.YtojknkpjnchchaaGreatDoor
open Go.ChangeShapes Go.WideShapes Go.RowKit
set_option linter.all false
set_option maxRecDepth 100000
attribute [local go_sem ↓] Go.wp_at_zero Go.wp_at_succ

theorem rights_bad {xs : List Txt} {k : Nat} {x : Txt} (hx : xs[k]? = some x) (h : rightOk x = false) : rightsOk xs = false := by
  cases hr : rightsOk xs
  · rfl
  · rw [rightsOk_all hr x (List.mem_of_getElem? hx)] at h; cases h
theorem rights_badlt {xs : List Txt} {k : Nat} {y x : Txt} (hy : xs[k]? = some y) (hx : xs[k + 1]? = some x) (h : ltT y x = false) : rightsOk xs = false := by
  cases hr : rightsOk xs
  · rfl
  · have h1 := rightsOk_asc hr
    rw [← ascB_pair] at h1
    have h2 := asc_take h1 (k + 2)
    rw [asc_take_succ hy hx, h, Bool.and_false] at h2
    cases h2
theorem rights_good {xs : List Txt} {k : Nat} (hk : xs.length ≤ k) (h1 : (xs.take k).all rightOk = true) (h2 : ascB (xs.take k) = true) : rightsOk xs = decide (xs.length ≤ 6) := by
  rw [List.take_of_length_le hk] at h1 h2
  simp [rightsOk, h1, h2]

set_option maxHeartbeats 2000000 in
theorem implRightsValid_c (xs : List Txt) (v : Value) (w : World) (h : RdS w v xs) (hf : fitS xs) : Calls Tryz.prog 45 #[v] w fun e w' => e = .returned (.bool (rightsOk xs)) ∧ Below w.heap.size w w' := by
  obtain ⟨n, hn⟩ : ∃ n, n = xs.length := ⟨_, rfl⟩
  have HR := Lib.hid h
  obtain ⟨a, c, rfl, h1, h2, h0, h3⟩ := h
  rw [← hn] at h1
  have HN := Lib.hid hn
  have H3 := Lib.hid h3
  have HF := Lib.hid hf
  unfold maxLen at h2
  rw [← hn] at HR ⊢
  clear hn h3 hf h0
  go_enter Tryz.func45, Tryz.ntmps45
  go_wp2
  go_loopw [7] (fun i wr => ∃ k : Nat, k ≤ n ∧ i = .int .i64 k ∧ Below w.heap.size w wr ∧ Hid ((xs.take k).all rightOk = true) ∧ Hid (ascB (xs.take k) = true)) (fun i _ => n - (intOf i).toNat)
  case atStart => exact ⟨0, Nat.zero_le _, rfl, bref _, by simp [Hid], by simp [Hid, ascB]⟩
  case round =>
    obtain ⟨k, hk, rfl, hb, hal, has⟩ := hrel
    by_cases hlt : k < n
    · obtain ⟨x, hx⟩ : ∃ x, xs[k]? = some x := ⟨_, List.getElem?_eq_getElem (by have := HN.out; omega)⟩
      obtain ⟨b, o, rfl, hbl, hc⟩ := H3.out k x hx
      have d0 := (hb.cell (p := ⟨b, o + k * 1 + 0, none⟩) hbl).trans (hc 0 _ rfl)
      simp only [Nat.mul_one, Nat.add_zero] at d0
      have hxs := HF.out x (List.mem_of_getElem? hx)
      have HX := Lib.hid hx
      clear hx hc
      go_wp2_with fail
      refine (implRightValid_c x _ hxs).mono ?_
      rintro e w1 ⟨rfl, hb1⟩
      have hb1 := bnext hb hb1
      cases hv : rightOk x
      · have HV := Lib.hid hv
        clear hv
        go_wp2
        go_ret
        exact ⟨ret_bool (rights_bad HX.out HV.out).symm, hb1⟩
      · have HV := Lib.hid hv
        clear hv
        rcases k with _ | j
        · go_wp2
          go_roundw
          case rel => exact ⟨1, by omega, by go_num, hb1, all_take_succ HX.out hal.out HV.out, asc_take_zero xs⟩
          case measure => simp [intOf]; omega
        · obtain ⟨y, hy⟩ : ∃ y, xs[j]? = some y := ⟨_, List.getElem?_eq_getElem (by have := HN.out; omega)⟩
          obtain ⟨b', o', hbb, hbl', hc'⟩ := H3.out j y hy
          simp only [Option.some.injEq, Addr.mk.injEq, and_true] at hbb
          obtain ⟨rfl, rfl⟩ := hbb
          have d1 := (hb1.cell (p := ⟨b, o + j * 1 + 0, none⟩) hbl).trans (hc' 0 _ rfl)
          simp only [Nat.mul_one, Nat.add_zero] at d1
          have HY := Lib.hid hy
          clear hy hc'
          have hlt' : Op.bytesLess y x = ltT y x := rfl
          cases hl : ltT y x
          · have HL := Lib.hid hl
            rw [hl] at hlt'
            clear hl
            go_wp2
            go_ret
            exact ⟨ret_bool (rights_badlt HY.out HX.out HL.out).symm, hb1⟩
          · have HL := Lib.hid hl
            rw [hl] at hlt'
            clear hl
            go_wp2
            go_roundw
            case rel => exact ⟨j + 2, by omega, by go_num, hb1, all_take_succ HX.out hal.out HV.out, by show ascB (xs.take (j + 2)) = true; rw [asc_take_succ HY.out HX.out, has.out, HL.out]; rfl⟩
            case measure => simp [intOf]; omega
    · go_wp2
      go_ret
      exact ⟨ret_bool (by rw [rights_good (by have := HN.out; omega) hal.out has.out, ← HN.out]; first | rfl | (simp; try omega)), hb⟩
theorem specRightValid_q (x : Txt) (r : Bool) (w : World) (hx : x.length ≤ 9223372036854775807) (hr : rightOk x = r) : Calls Tryz.prog 127 #[tv x] w fun e w' => e = .returned (.bool r) ∧ ∃ n, w' = w.drewN n :=
  (specRightValid_c x w hx).mono (by rintro e w' ⟨he, hw⟩; exact ⟨by rw [he, hr], 0, hw.symm⟩)

set_option maxHeartbeats 2000000 in
theorem specRightsValid_c (xs : List Txt) (v : Value) (w : World) (h : RdS w v xs) (hf : fitS xs) : Calls Tryz.prog 73 #[v] w fun e w' => e = .returned (.bool (rightsOk xs)) ∧ Below w.heap.size w w' := by
  obtain ⟨n, hn⟩ : ∃ n, n = xs.length := ⟨_, rfl⟩
  have HR := Lib.hid h
  obtain ⟨a, c, rfl, h1, h2, h0, h3⟩ := h
  rw [← hn] at h1
  have HN := Lib.hid hn
  have H3 := Lib.hid h3
  have HF := Lib.hid hf
  unfold maxLen at h2
  rw [← hn] at HR ⊢
  clear hn h3 hf h0
  go_enter Tryz.func73, Tryz.ntmps73
  go_wp2
  go_loopw [3] (fun i wr => ∃ k : Nat, k ≤ n ∧ i = .int .i64 k ∧ Below w.heap.size w wr ∧ Hid ((xs.take k).all rightOk = true) ∧ Hid (ascB (xs.take k) = true)) (fun i _ => n - (intOf i).toNat)
  case atStart => exact ⟨0, Nat.zero_le _, rfl, bref _, by simp [Hid], by simp [Hid, ascB]⟩
  case round =>
    obtain ⟨k, hk, rfl, hb, hal, has⟩ := hrel
    by_cases hlt : k < n
    · obtain ⟨x, hx⟩ : ∃ x, xs[k]? = some x := ⟨_, List.getElem?_eq_getElem (by have := HN.out; omega)⟩
      obtain ⟨b, o, rfl, hbl, hc⟩ := H3.out k x hx
      have d0 := (hb.cell (p := ⟨b, o + k * 1 + 0, none⟩) hbl).trans (hc 0 _ rfl)
      simp only [Nat.mul_one, Nat.add_zero] at d0
      have hxs := HF.out x (List.mem_of_getElem? hx)
      have HX := Lib.hid hx
      clear hx hc
      have hin : (k : Int) < (n : Int) := by omega
      cases hv : rightOk x
      · have HV := Lib.hid hv
        clear hv
        go_wp2
        go_quiet (exact Calls.quiet_of (specRightValid_q x _ _ hxs HV.out))
        go_wp2
        go_ret
        exact ⟨ret_bool (rights_bad HX.out HV.out).symm, below_drewN hb _⟩
      · have HV := Lib.hid hv
        clear hv
        by_cases hk0 : k = 0
        · have hg : decide ((0 : Int) < (k : Int)) = false := by simp [hk0]
          have hg2 : decide (0 < k) = false := by simp [hk0]
          have HK := Lib.hid hk0
          clear hk0
          go_wp2
          go_quiet (exact Calls.quiet_of (specRightValid_q x _ _ hxs HV.out))
          go_wp2
          go_roundw
          case rel => exact ⟨k + 1, by omega, by go_num, below_drewN hb _, all_take_succ HX.out hal.out HV.out, by rw [HK.out]; exact asc_take_zero xs⟩
          case measure => simp [intOf]; omega
        · obtain ⟨j, rfl⟩ : ∃ j, k = j + 1 := ⟨k - 1, by omega⟩
          obtain ⟨y, hy⟩ : ∃ y, xs[j]? = some y := ⟨_, List.getElem?_eq_getElem (by have := HN.out; omega)⟩
          obtain ⟨b', o', hbb, hbl', hc'⟩ := H3.out j y hy
          simp only [Option.some.injEq, Addr.mk.injEq, and_true] at hbb
          obtain ⟨rfl, rfl⟩ := hbb
          have d1 := (hb.cell (p := ⟨b, o + j * 1 + 0, none⟩) hbl).trans (hc' 0 _ rfl)
          simp only [Nat.mul_one, Nat.add_zero] at d1
          have HY := Lib.hid hy
          clear hy hc'
          have hpos : (0 : Int) < ((j + 1 : Nat) : Int) := by omega
          have hlt' : Op.bytesLess y x = ltT y x := rfl
          cases hl : ltT y x
          · have HL := Lib.hid hl
            rw [hl] at hlt'
            clear hl
            go_wp2
            go_quiet (exact Calls.quiet_of (specRightValid_q x _ _ hxs HV.out))
            go_wp2
            go_ret
            exact ⟨ret_bool (rights_badlt HY.out HX.out HL.out).symm, below_drewN hb _⟩
          · have HL := Lib.hid hl
            rw [hl] at hlt'
            clear hl
            go_wp2
            go_quiet (exact Calls.quiet_of (specRightValid_q x _ _ hxs HV.out))
            go_wp2
            go_roundw
            case rel => exact ⟨j + 2, by omega, by go_num, below_drewN hb _, all_take_succ HX.out hal.out HV.out, by show ascB (xs.take (j + 2)) = true; rw [asc_take_succ HY.out HX.out, has.out, HL.out]; rfl⟩
            case measure => simp [intOf]; omega
    · go_wp2
      go_ret
      exact ⟨ret_bool (by rw [rights_good (by have := HN.out; omega) hal.out has.out, ← HN.out]; first | rfl | (simp; try omega)), hb⟩
end Go.Proofs.YtojknkpjnchchaaGreatDoor
