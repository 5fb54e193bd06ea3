/- Contracts of the helpers' loops over slices of integer slices, part two. No conditions but the readings of the arguments. -/
import Derived.Test.YtojknkpjnchchaaDoorSwapA
namespace Go.Proofs.YtojknkpjnchchaaDoor
open Go.ChangeShapes Go.WideShapes Go.RowKit
set_option linter.all false
set_option maxRecDepth 100000
attribute [local go_sem ↓] Go.wp_at_zero Go.wp_at_succ

theorem len_le_sum {xss : List (List Int)} {k : Nat} {xs : List Int} (h : xss[k]? = some xs) : xs.length ≤ sumLen xss := by
  have h1 := sum_take h
  have h2 := sum_take_le xss (k + 1)
  omega

set_option maxHeartbeats 1000000 in
theorem eqIntSS_c (xs ys : List (List Int)) (v u : Value) (w : World) (hx : RdII w v xs) (hy : RdII w u ys) : Calls Tryd.prog 21 #[v, u] w fun e w' =>
    e = .returned (.bool (decide (xs = ys))) ∧ Below w.heap.size w w' := by
  obtain ⟨rx, ⟨a, c, rfl, h1, h2, -, h3⟩, hin⟩ := hx
  obtain ⟨ry, ⟨a', c', rfl, h1', h2', -, h3'⟩, hin'⟩ := hy
  unfold maxLen at h2 h2'
  rw [hin.1] at h1 ⊢
  rw [hin'.1] at h1' ⊢
  have HIN := Lib.hid hin
  have HIN' := Lib.hid hin'
  have H3 := Lib.hid h3
  have H3' := Lib.hid h3'
  clear h3 h3' hin hin'
  by_cases hn : xs.length = ys.length
  · obtain ⟨n, hn1⟩ : ∃ n, n = xs.length := ⟨_, rfl⟩
    have hn2 : ys.length = n := by omega
    rw [← hn1, hn2]
    have HN1 := Lib.hid hn1
    have HN2 := Lib.hid hn2
    have hnc : n ≤ c := by omega
    have hnc' : n ≤ c' := by omega
    clear hn hn1 hn2 h1 h1'
    go_enter Tryd.func21, Tryd.ntmps21
    go_wp2
    go_loopw [5] (fun i wr => ∃ k : Nat, k ≤ n ∧ i = .int .i64 k ∧ Below w.heap.size w wr ∧ Hid (xs.take k = ys.take k)) (fun i _ => n - (intOf i).toNat)
    case atStart => exact ⟨0, Nat.zero_le _, rfl, Below.refl _ _, rfl⟩
    case round =>
      obtain ⟨k, hk, rfl, hb, heq⟩ := hrel
      by_cases hlt : k < n
      · obtain ⟨m, hm⟩ : ∃ m, xs[k]? = some m := ⟨_, List.getElem?_eq_getElem (by have := HN1.out; omega)⟩
        obtain ⟨p, hp⟩ : ∃ m, ys[k]? = some m := ⟨_, List.getElem?_eq_getElem (by have := HN2.out; omega)⟩
        obtain ⟨s, hrow, hrd⟩ := HIN.out.get hm
        obtain ⟨t, hrow', hrd'⟩ := HIN'.out.get hp
        obtain ⟨b, o, rfl, hbl, hc⟩ := H3.out k s hrow
        obtain ⟨b', o', rfl, hbl', hc'⟩ := H3'.out k t hrow'
        have hk0 : (0 : Int) ≤ (k : Int) := by omega
        have hkn : (k : Int) < (n : Int) := by omega
        have c0 := (hb.cell (p := ⟨b, o + k * 1 + 0, none⟩) hbl).trans (hc 0 _ rfl)
        have d0 := (hb.cell (p := ⟨b', o' + k * 1 + 0, none⟩) hbl').trans (hc' 0 _ rfl)
        simp only [Nat.add_zero, Nat.mul_one] at c0 d0
        have HM := Lib.hid hm
        have HP := Lib.hid hp
        have HRD := Lib.hid ((hrd.below hb).below (bref wr).drew)
        have HRD' := Lib.hid ((hrd'.below hb).below (bref wr).drew)
        clear hc hc' hm hp hrow hrow' hrd hrd'
        by_cases hmp : m = p
        all_goals
          have HE := Lib.hid hmp
          first | have he := Lib.hid (decide_eq_false hmp) | have he := Lib.hid (decide_eq_true hmp)
          clear hmp
          go_wp2
          go_still_tail 8, (by kernel_rfl)
          change wpList _ _ _ _ _ wr.drew
          go_wp2_with (go_at_call 38; refine (eqIntS_c m p (slv s) (slv t) _ HRD.out HRD'.out).mono ?_; rintro e w' ⟨rfl, hb2⟩; rw [he.out]; have hb3 := hb.drew.trans (hb2.mono hb.size))
        · go_roundw
          case rel => exact ⟨k + 1, by omega, by go_num, hb3, take_eq_succ HM.out HP.out heq HE.out⟩
          case measure => simp [intOf]; omega
        · go_ret
          exact ⟨ret_bool (by rw [eq_comm, decide_eq_false_iff_not]; exact ne_of_get HM.out HP.out HE.out), hb3⟩
      · go_wp2
        go_ret
        refine ⟨ret_bool ?_, hb⟩
        have h1 := HN1.out
        have h2 := HN2.out
        have h3 : k = n := by omega
        have h4 := heq.out
        rw [List.take_of_length_le (by omega), List.take_of_length_le (by omega)] at h4
        simp [h4]
  · go_enter Tryd.func21, Tryd.ntmps21
    go_wp2
    go_ret
    exact ⟨ret_bool (by rw [eq_comm, decide_eq_false_iff_not]; rintro rfl; exact hn rfl), Below.refl _ _⟩
end Go.Proofs.YtojknkpjnchchaaDoor
