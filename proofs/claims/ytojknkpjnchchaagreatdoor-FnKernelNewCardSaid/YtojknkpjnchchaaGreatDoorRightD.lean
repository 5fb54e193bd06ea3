/- Contracts of the functions that ask rights for leave. No conditions but the readings of the arguments and the sizes of the texts. -/
import Derived.Test.YtojknkpjnchchaaGreatDoorRightC
namespace Go.Proofs.YtojknkpjnchchaaGreatDoor
open Go.ChangeShapes Go.WideShapes Go.RowKit
set_option linter.all false
set_option maxRecDepth 100000
attribute [local go_sem ↓] Go.wp_at_zero Go.wp_at_succ

theorem may_yes {xs : List Txt} {k : Nat} {x g : Txt} (hx : xs[k]? = some x) (h : covB x g = true) : mayB xs g = true := by
  simp only [mayB, List.any_eq_true]; exact ⟨x, List.mem_of_getElem? hx, h⟩
theorem may_no {xs : List Txt} {k : Nat} {g : Txt} (hk : xs.length ≤ k) (h : mayB (xs.take k) g = false) : mayB xs g = false := by
  rwa [List.take_of_length_le hk] at h
theorem may_take_succ {xs : List Txt} {k : Nat} {x g : Txt} (hx : xs[k]? = some x) (h : mayB (xs.take k) g = false) (hp : covB x g = false) : mayB (xs.take (k + 1)) g = false := by
  unfold mayB at *
  rw [List.take_add_one, hx]; simp [List.any_append, h, hp]

set_option maxHeartbeats 1000000 in
theorem l11May_c (xs : List Txt) (v : Value) (g : Txt) (w : World) (h : RdS w v xs) (hf : fitS xs) (hg : g.length ≤ 9223372036854775807) : Calls Tryz.prog 131 #[v, tv g] w fun e w' => e = .returned (.bool (mayB xs g)) ∧ w = w' := by
  obtain ⟨n, hn⟩ : ∃ n, n = xs.length := ⟨_, rfl⟩
  obtain ⟨a, c, rfl, h1, h2, h0, h3⟩ := h
  rw [← hn] at h1 ⊢
  have HN := Lib.hid hn
  have H3 := Lib.hid h3
  have HF := Lib.hid hf
  unfold maxLen at h2
  clear hn h3 hf h0
  go_enter Tryz.func131, Tryz.ntmps131
  go_wp2
  go_loop [5] (fun i => ∃ k : Nat, k ≤ n ∧ i = .int .i64 k ∧ Hid (mayB (xs.take k) g = false)) (fun i => n - (intOf i).toNat)
  case atStart => exact ⟨0, Nat.zero_le _, rfl, by simp [Hid, mayB]⟩
  case round =>
    obtain ⟨k, hk, rfl, hal⟩ := hrel
    by_cases hlt : k < n
    · obtain ⟨x, hx⟩ : ∃ x, xs[k]? = some x := ⟨_, List.getElem?_eq_getElem (by have := HN.out; omega)⟩
      obtain ⟨b, o, rfl, hbl, hc⟩ := H3.out k x hx
      have d0 := hc 0 _ rfl
      simp only [Nat.mul_one, Nat.add_zero] at d0
      have hxs := HF.out x (List.mem_of_getElem? hx)
      have HX := Lib.hid hx
      clear hx hc
      go_wp2_with fail
      refine (l11Covers_c x g _ hxs hg).mono ?_
      rintro e w1 ⟨rfl, rfl⟩
      cases hv : covB x g
      · have HV := Lib.hid hv
        clear hv
        go_wp2
        go_round
        case rel => exact ⟨k + 1, by omega, by go_num, may_take_succ HX.out hal.out HV.out⟩
        case measure => simp [intOf]; omega
      · have HV := Lib.hid hv
        clear hv
        go_wp2
        go_ret
        exact ⟨ret_bool (may_yes HX.out HV.out).symm, rfl⟩
    · go_wp2
      go_ret
      exact ⟨ret_bool (may_no (by have := HN.out; omega) hal.out).symm, rfl⟩

/-- The closure that asks one right for leave. -/
theorem mayFn_c (B : Nat) (x g : Txt) (w : World) (hB : w.cell? ⟨B, 0, none⟩ = some (tv g)) : Calls Tryz.prog 145 #[tv x, .pointer (some ⟨B, 0, none⟩)] w fun e w' => e = .returned (.bool (covB x g)) ∧ w = w' := by
  go_enter Tryz.func145, Tryz.ntmps145
  go_wp2_with fail
  refine (hasPrefix_c g x _).mono ?_
  rintro e w1 ⟨rfl, rfl⟩
  go_wp2
  go_ret
  exact ⟨rfl, rfl⟩

set_option maxHeartbeats 1000000 in
theorem mayIdx_c (xs : List Txt) (v : Value) (g : Txt) (B : Nat) (w : World) (h : RdS w v xs) (hB : w.cell? ⟨B, 0, none⟩ = some (tv g)) : Calls Tryz.prog 161 #[v, .func (.func 145) #[] #[.pointer (some ⟨B, 0, none⟩)]] w fun e w' => ∃ q : Int, e = .returned (.int .i64 q) ∧ Hid (decide (0 ≤ q) = mayB xs g) ∧ w = w' := by
  obtain ⟨n, hn⟩ : ∃ n, n = xs.length := ⟨_, rfl⟩
  obtain ⟨a, c, rfl, h1, h2, h0, h3⟩ := h
  rw [← hn] at h1 ⊢
  have HN := Lib.hid hn
  have H3 := Lib.hid h3
  have HB := Lib.hid hB
  unfold maxLen at h2
  clear hn h3 h0 hB
  go_enter Tryz.func161, Tryz.ntmps161
  go_wp2
  go_loop [8] (fun i => ∃ k : Nat, k ≤ n ∧ i = .int .i64 k ∧ Hid (mayB (xs.take k) g = false)) (fun i => n - (intOf i).toNat)
  case atStart => exact ⟨0, Nat.zero_le _, rfl, by simp [Hid, mayB]⟩
  case round =>
    obtain ⟨k, hk, rfl, hal⟩ := hrel
    by_cases hlt : k < n
    · obtain ⟨x, hx⟩ : ∃ x, xs[k]? = some x := ⟨_, List.getElem?_eq_getElem (by have := HN.out; omega)⟩
      obtain ⟨b, o, rfl, hbl, hc⟩ := H3.out k x hx
      have d0 := hc 0 _ rfl
      simp only [Nat.mul_one, Nat.add_zero] at d0
      have HX := Lib.hid hx
      clear hx hc
      go_wp2_with fail
      refine (mayFn_c B x g _ HB.out).mono ?_
      rintro e w1 ⟨rfl, rfl⟩
      cases hv : covB x g
      · have HV := Lib.hid hv
        clear hv
        go_wp2
        go_round
        case rel => exact ⟨k + 1, by omega, by go_num, may_take_succ HX.out hal.out HV.out⟩
        case measure => simp [intOf]; omega
      · have HV := Lib.hid hv
        clear hv
        go_wp2
        go_ret
        exact ⟨k, rfl, by show decide ((0 : Int) ≤ (k : Int)) = mayB xs g; rw [may_yes HX.out HV.out]; simp, rfl⟩
    · go_wp2
      go_ret
      exact ⟨-1, rfl, by show decide ((0 : Int) ≤ -1) = mayB xs g; rw [may_no (by have := HN.out; omega) hal.out]; rfl, rfl⟩

theorem mayHas_c (xs : List Txt) (v : Value) (g : Txt) (B : Nat) (w : World) (h : RdS w v xs) (hB : w.cell? ⟨B, 0, none⟩ = some (tv g)) : Calls Tryz.prog 144 #[v, .func (.func 145) #[] #[.pointer (some ⟨B, 0, none⟩)]] w fun e w' => e = .returned (.bool (mayB xs g)) ∧ w = w' := by
  have HH := Lib.hid h
  have HB := Lib.hid hB
  clear h hB
  go_enter Tryz.func144, Tryz.ntmps144
  go_wp2_with fail
  refine (mayIdx_c xs v g B _ HH.out HB.out).mono ?_
  rintro e w1 ⟨q, rfl, hq, rfl⟩
  go_wp2
  go_ret
  exact ⟨ret_bool hq.out, rfl⟩

theorem may_c (xs : List Txt) (v : Value) (g : Txt) (w : World) (h : RdS w v xs) : Calls Tryz.prog 108 #[v, tv g] w fun e w' => e = .returned (.bool (mayB xs g)) ∧ Below w.heap.size w w' := by
  have HH := Lib.hid h
  clear h
  go_enter Tryz.func108, Tryz.ntmps108
  go_wp2_with fail
  refine (mayHas_c xs v g _ _ (HH.out.below (balloc _ _)) (by have hn := heap_alloc_new w (Obj.cells #[tv g] 9); simp only [World.cell?]; rw [hn]; rfl)).mono ?_
  rintro e w1 ⟨rfl, rfl⟩
  go_wp2
  go_ret
  exact ⟨rfl, balloc _ _⟩
end Go.Proofs.YtojknkpjnchchaaGreatDoor
