/- Contracts of the functions that look for free frames. No conditions but the readings of the arguments and the sizes of the texts. -/
import Derived.Test.YtojknkpjnchchaaGreatDoorInfoE
namespace Go.Proofs.YtojknkpjnchchaaGreatDoor
open Go.ChangeShapes Go.WideShapes Go.RowKit
set_option linter.all false
set_option maxRecDepth 100000
attribute [local go_sem ↓] Go.wp_at_zero Go.wp_at_succ

theorem isFree0_eq (m : Info) : isFree0 m = (m.kd == 0) := by unfold isFree0; by_cases h : m.kd = 0 <;> simp [h]

theorem count_succ {xs : List Info} {k : Nat} {m : Info} (hm : xs[k]? = some m) : (countF (xs.take (k + 1)) : Int) = countF (xs.take k) + if isFree0 m then 1 else 0 := by
  unfold countF
  rw [List.take_add_one, hm]
  by_cases h : isFree0 m = true <;> simp [List.filter_append, h]
theorem count_take_le (xs : List Info) (k : Nat) : (countF (xs.take k) : Int) ≤ k := by
  have h : countF (xs.take k) ≤ (xs.take k).length := count_le _
  simp at h
  omega

theorem countFree_c (xs : List Info) (v : Value) (w : World) (hx : RdF w v xs) (hl : xs.length ≤ 100000000) : Calls Tryz.prog 78 #[v] w fun e w' => e = .returned (.int .i64 (countF xs)) ∧ Below w.heap.size w w' := by
  obtain ⟨a, c, rfl, h1, h2, -, h3⟩ := hx
  have H3 := Lib.hid h3
  obtain ⟨n, hn⟩ : ∃ n, n = xs.length := ⟨_, rfl⟩
  rw [← hn] at h1 hl ⊢
  have HN := Lib.hid hn
  clear h3 hn
  unfold maxLen at h2
  go_enter Tryz.func78, Tryz.ntmps78
  go_wp2
  go_loopw [3, 8] (fun t i wr => ∃ k : Nat, k ≤ n ∧ i = .int .i64 k ∧ t = .int .i64 (countF (xs.take k)) ∧ Below w.heap.size w wr) (fun _ i _ => n - (intOf i).toNat)
  case atStart => exact ⟨0, Nat.zero_le _, rfl, by simp [countF], bref _⟩
  case round =>
    obtain ⟨k, hk, rfl, rfl, hb⟩ := hrel
    by_cases hlt : k < n
    · obtain ⟨m, hm⟩ : ∃ m, xs[k]? = some m := ⟨_, List.getElem?_eq_getElem (by have := HN.out; omega)⟩
      obtain ⟨b, o, rfl, hbl, hc⟩ := H3.out k m hm
      have c0 := (hb.cell (p := ⟨b, o + k * 3 + 0, none⟩) hbl).trans (hc 0 _ rfl)
      have c1 := (hb.cell (p := ⟨b, o + k * 3 + 1, none⟩) hbl).trans (hc 1 _ rfl)
      have c2 := (hb.cell (p := ⟨b, o + k * 3 + 2, none⟩) hbl).trans (hc 2 _ rfl)
      simp only [Nat.add_zero] at c0
      have HS := Lib.hid (count_succ hm)
      have hcl := count_take_le xs k
      have HF := Lib.hid (isFree0_eq m)
      clear hc hm
      have hc0 : (0 : Int) ≤ (countF (xs.take k) : Int) := by omega
      cases hz : m.kd == 0
      all_goals
        have HZ := Lib.hid (HF.out.trans hz)
        go_wp2
        go_roundw
        case rel => exact ⟨k + 1, by omega, by go_num, by rw [HS.out, HZ.out]; first | rfl | (simp; done) | (congr 1; omega), by first | exact hb | exact bnext hb (by go_grown)⟩
        case measure => simp [intOf]; omega
    · go_wp2
      go_ret
      exact ⟨ret_int (by rw [List.take_of_length_le (by have := HN.out; omega)]), hb⟩

theorem implInfosFree_c (xs : List Info) (v : Value) (w : World) (hx : RdF w v xs) (hf : fitF xs) : Calls Tryz.prog 25 #[v] w fun e w' => e = .returned (.int .i64 (freeN xs)) ∧ Below w.heap.size w w' := by
  have HX := Lib.hid hx
  cases h1 : infosOk xs
  · have HA := Lib.hid (show freeN xs = -1 by simp [freeN, h1])
    have H1 := Lib.hid h1
    clear h1
    go_enter Tryz.func25, Tryz.ntmps25
    go_wp2_with fail
    refine (implInfosValid_c xs v _ HX.out hf).mono ?_
    rintro e w1 ⟨rfl, hb1⟩
    rw [H1.out]
    go_wp2
    go_ret
    exact ⟨ret_int HA.out.symm, hb1⟩
  · have HA := Lib.hid (show freeN xs = countF xs by simp [freeN, h1])
    have HL := Lib.hid (infosOk_len h1)
    have H1 := Lib.hid h1
    clear h1
    go_enter Tryz.func25, Tryz.ntmps25
    go_wp2_with fail
    refine (implInfosValid_c xs v _ HX.out hf).mono ?_
    rintro e w1 ⟨rfl, hb1⟩
    rw [H1.out]
    go_wp2_with fail
    refine (countFree_c xs v _ (HX.out.below hb1) (by have := HL.out; omega)).mono ?_
    rintro e w2 ⟨rfl, hb2⟩
    have hb3 := bnext hb1 hb2
    go_wp2
    go_ret
    exact ⟨ret_int HA.out.symm, hb3⟩

end Go.Proofs.YtojknkpjnchchaaGreatDoor
