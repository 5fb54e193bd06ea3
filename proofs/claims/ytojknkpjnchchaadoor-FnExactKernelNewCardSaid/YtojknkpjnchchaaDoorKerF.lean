/- Contracts of the marks of environments and translations. No conditions but the readings of the arguments. -/
import Derived.Test.YtojknkpjnchchaaDoorKerE
namespace Go.Proofs.YtojknkpjnchchaaDoor
open Go.ChangeShapes Go.WideShapes Go.RowKit
set_option linter.all false
set_option maxRecDepth 100000
attribute [local go_sem ↓] Go.wp_at_zero Go.wp_at_succ

set_option maxHeartbeats 2000000 in
theorem markCachedS_c (xs : List Cac) (v : Value) (q : Int) (base : Nat) (w : World) (hx : OwC base w v xs) (hq : 0 ≤ q ∧ q ≤ 50000000) (hl : xs.length ≤ 2000000) : Calls Tryd.prog 30 #[v, .int .i64 q] w fun e w' =>
    e = .returned (.int .i64 (q + 4 * xs.length)) ∧ OwC base w' v (marksC q xs.length) ∧ (∀ g, v.ownBlock = some g → w.grownBy w' (some g)) ∧ (v.ownBlock = none → w = w') := by
  rcases hx.2 with ⟨rfl, hn⟩ | ⟨g, c, cur, rfl, -⟩
  · have : xs = [] := List.eq_nil_of_length_eq_zero hn
    subst this
    go_enter Tryd.func30, Tryd.ntmps30
    go_wp2
    refine wp_loop_rounds 1 ?_
    rw [rounds_succ]
    go_wp2
    go_ret
    exact ⟨by simp, World.ownsRow_nil _ _ _ _, by simp [Value.ownBlock], fun _ => rfl⟩
  have hml := marksC_len q xs.length
  have HML := Lib.hid hml
  have hx0 : OwC base w (.slice (some ⟨g, 0, none⟩) xs.length c) (markedBy (marksC q xs.length) xs 0) := by rw [markedBy_zero]; exact hx
  clear hx hml
  go_enter Tryd.func30, Tryd.ntmps30
  go_wp2
  go_loopw [1, 5] (fun t i wr => ∃ k : Nat, k ≤ xs.length ∧ i = .int .i64 k ∧ t = .int .i64 (q + 4 * k) ∧ w.grownBy wr (some g) ∧ OwC base wr (.slice (some ⟨g, 0, none⟩) xs.length c) (markedBy (marksC q xs.length) xs k)) (fun _ i _ => xs.length - (intOf i).toNat)
  case atStart => exact ⟨0, Nat.zero_le _, rfl, by simp, World.grownBy.refl _ _, hx0⟩
  case round =>
    obtain ⟨k, hk, rfl, rfl, hg, hok⟩ := hrel
    by_cases hlt : k < xs.length
    · have HG := Lib.hid hg
      obtain ⟨e0, e1, e2, e3, e4, hfz, hcs⟩ := hok.open Cac.enc_len
      obtain ⟨z, hz⟩ : ∃ z, (markedBy (marksC q xs.length) xs k)[k]? = some z := ⟨_, List.getElem?_eq_getElem (by omega)⟩
      have d0 := hcs k z 0 _ hz rfl
      have d1 := hcs k z 1 _ hz rfl
      have d2 := hcs k z 2 _ hz rfl
      have d3 := hcs k z 3 _ hz rfl
      have f0 := hfz (k * 4)
      have f1 := hfz (k * 4 + 1)
      have f2 := hfz (k * 4 + 2)
      have f3 := hfz (k * 4 + 3)
      have hok1 := store4 (k := k) hok (m := markC q k) (by omega)
      rw [markedBy_step _ _ _ _ HML.out (marksC_get q _ k hlt)] at hok1
      simp only [Nat.add_zero] at d0
      unfold markC at hok1
      dsimp only at hok1
      have HOK1 := Lib.hid hok1
      have hq0 : 0 ≤ q + 4 * (k : Int) := by omega
      unfold maxLen at e4
      clear hz hcs hfz hok hg hok1 e0
      go_wp2
      go_roundw
      case rel => exact ⟨k + 1, by omega, by go_num, by go_num, grown_set (grown_set (grown_set (grown_set HG.out _ _) _ _) _ _) _ _, HOK1.out⟩
      case measure => simp [intOf]; omega
    · go_wp2
      go_ret
      have h3 : k = xs.length := by omega
      refine ⟨ret_int (by omega), ?_, ?_, ?_⟩
      · have hl := HML.out
        rw [h3, markedBy_all _ _ hl] at hok
        unfold OwC OwT at hok ⊢
        rw [hl] at hok ⊢
        exact hok
      · intro g' hg'
        simp [Value.ownBlock] at hg'
        subst hg'
        exact hg
      · simp [Value.ownBlock]

set_option maxHeartbeats 2000000 in
theorem heldCachedS_c (n : Nat) (v : Value) (q : Int) (w : World) (hx : RdC w v (marksC q n)) (hq : 0 ≤ q ∧ q ≤ 50000000) (hl : n ≤ 2000000) : Calls Tryd.prog 34 #[v, .int .i64 q] w fun e w' =>
    e = .returned (.int .i64 (q + 4 * n)) ∧ w = w' := by
  obtain ⟨a, c, rfl, h1, h2, -, h3⟩ := hx
  rw [marksC_len] at h1 ⊢
  have H3 := Lib.hid h3
  clear h3
  unfold maxLen at h2
  go_enter Tryd.func34, Tryd.ntmps34
  go_wp2
  go_loop [1, 5] (fun t i => ∃ k : Nat, k ≤ n ∧ i = .int .i64 k ∧ t = .int .i64 (q + 4 * k)) (fun _ i => n - (intOf i).toNat)
  case atStart => exact ⟨0, Nat.zero_le _, rfl, by simp⟩
  case round =>
    obtain ⟨k, hk, rfl, rfl⟩ := hrel
    by_cases hlt : k < n
    · obtain ⟨b, o, rfl, hbl, hc⟩ := H3.out k _ (marksC_get q n k hlt)
      have c0 : w.cell? ⟨b, o + k * 4, none⟩ = some (.int .i64 (q + 4 * k)) := hc 0 _ rfl
      have c1 : w.cell? ⟨b, o + k * 4 + 1, none⟩ = some (.int .i64 (q + 4 * k + 1)) := hc 1 _ rfl
      have c2 : w.cell? ⟨b, o + k * 4 + 2, none⟩ = some (.int .i64 (q + 4 * k + 1 + 1)) := hc 2 _ rfl
      have c3 : w.cell? ⟨b, o + k * 4 + 3, none⟩ = some (.bool ((q + 4 * k + 1 + 1 + 1) % 3 == 0)) := hc 3 _ rfl
      have hk0 : (0 : Int) ≤ (k : Int) := by omega
      have hkn : (k : Int) < (n : Int) := by omega
      have hq0 : 0 ≤ q + 4 * (k : Int) := by omega
      clear hc
      cases hm : (q + 4 * (k : Int) + 1 + 1 + 1) % 3 == 0
      all_goals
        rw [hm] at c3
        go_wp2
        go_round
        case rel => exact ⟨k + 1, by omega, by go_num, by go_num⟩
        case measure => simp [intOf]; omega
    · go_wp2
      go_ret
      exact ⟨ret_int (by omega), rfl⟩
end Go.Proofs.YtojknkpjnchchaaDoor
