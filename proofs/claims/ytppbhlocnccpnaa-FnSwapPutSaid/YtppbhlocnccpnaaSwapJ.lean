/- Contracts of the reference's functions that store words in a swap. No conditions but the readings of the arguments. -/
import Derived.Test.YtppbhlocnccpnaaSwapI
namespace Go.Proofs.Ytppbhlocnccpnaa
open Go.ChangeShapes Go.WideShapes Go.RowKit
set_option linter.all false
attribute [local go_sem ↓] Go.wp_at_zero Go.wp_at_succ

theorem l31Free_c (xss : List (List Int)) (v : Value) (w : World) (hx : RdII w v xss) : Calls Try.prog 49 #[v] w fun e w' => e = .returned (.int .i64 (freeI xss)) ∧ w = w' := by
  obtain ⟨rows, ⟨a, c, rfl, h1, h2, -, h3⟩, hin⟩ := hx
  have HIN := Lib.hid hin
  have H3 := Lib.hid h3
  obtain ⟨n, hn⟩ : ∃ n, n = rows.length := ⟨_, rfl⟩
  have hn2 : n = xss.length := hn.trans hin.1
  rw [← hn] at h1 ⊢
  have HN2 := Lib.hid hn2
  unfold maxLen at h2
  clear h3 hin hn hn2
  go_enter Try.func49, Try.ntmps49
  go_wp2
  go_loop [3] (fun i => ∃ k : Nat, k ≤ n ∧ i = .int .i64 k ∧ Hid ((xss.take k).any isFree = false)) (fun i => n - (intOf i).toNat)
  case atStart => exact ⟨0, Nat.zero_le _, rfl, by simp [Hid]⟩
  case round =>
    obtain ⟨k, hk, rfl, heq⟩ := hrel
    by_cases hlt : k < n
    · obtain ⟨xs, hxs⟩ : ∃ xs, xss[k]? = some xs := ⟨_, List.getElem?_eq_getElem (by have := HN2.out; omega)⟩
      obtain ⟨s, hrow, hrd⟩ := HIN.out.get hxs
      obtain ⟨b, o, rfl, hbl, hc⟩ := H3.out k s hrow
      have c0 := hc 0 _ rfl
      simp only [Nat.add_zero, Nat.mul_one] at c0
      obtain ⟨a2, c2, hsv, k1, k2, -, -⟩ := hrd
      rw [hsv] at c0
      unfold maxLen at k2
      have HX := Lib.hid hxs
      by_cases h0 : xs.length = 0
      · have h0g : ((xs.length : Int) == 0) = true := by simp [h0]
        have H0 := Lib.hid h0
        clear hc hxs hrow hsv h0
        go_wp2
        go_ret
        exact ⟨ret_int (idxOf_at HX.out heq.out (by simp [isFree, H0.out])).symm, rfl⟩
      · have h0g : ((xs.length : Int) == 0) = false := by rw [beq_eq_false_iff_ne]; omega
        have H0 := Lib.hid h0
        clear hc hxs hrow hsv h0
        go_wp2
        go_round
        case rel => exact ⟨k + 1, by omega, by go_num, any_take_succ HX.out heq.out (by simp only [isFree, decide_eq_false_iff_not]; exact H0.out)⟩
        case measure => simp [intOf]; omega
    · go_wp2
      go_ret
      exact ⟨ret_int (idxOf_none (k := k) (by have := HN2.out; omega) heq.out).symm, rfl⟩

theorem specSwapPut_c (xss : List (List Int)) (ys : List Int) (v v2 : Value) (w : World) (hx : RdII w v xss) (hy : RdI w v2 ys) :
    Calls Try.prog 32 #[v, v2] w fun e w' => ∃ u, e = .returned (.tuple #[u, .int .i64 (putI xss ys), .bool (putB xss ys)]) ∧ OwII w.heap.size w'.heap.size w' u (putL xss ys) ∧ Below w.heap.size w w' := by
  have HX := Lib.hid hx
  have HY := Lib.hid hy
  have hnil : ∀ w1 : World, OwII w1.heap.size (w1.alloc (.cells #[] 29)).heap.size (w1.alloc (.cells #[] 29)) (.slice (some ⟨w1.heap.size, 0, none⟩) 0 0) [] := fun w1 => ⟨[], OwF.of (OwT.lit eltSl w1 #[] [] rfl (by simp)) (Nat.le_refl _), InO.empty _ _ _⟩
  have HN := Lib.hid hnil
  clear hx hy hnil
  cases hv : swapOk xss
  · have HV := Lib.hid hv
    have HB := Lib.hid (show putB xss ys = false by simp [putB, hv])
    have HI := Lib.hid (show putI xss ys = 0 by simp [putI, HB.out])
    have HL := Lib.hid (show putL xss ys = [] by simp [putL, HB.out])
    clear hv
    go_enter Try.func32, Try.ntmps32
    go_wp2_with fail
    refine (l31Free_c xss _ _ HX.out).mono ?_
    rintro e w0 ⟨rfl, rfl⟩
    go_wp2_with fail
    refine (specSwapValid_c xss _ _ HX.out).mono ?_
    rintro e w1 ⟨rfl, hb1⟩
    rw [HV.out]
    go_wp2
    go_ret3
    rw [HB.out, HI.out, HL.out]
    exact ⟨_, rfl, (HN.out w1).mono hb1.size (Nat.le_refl _), hb1.alloc hb1.size _⟩
  cases hw : wordsOk ys
  · have HV := Lib.hid hv
    have HW := Lib.hid hw
    have HB := Lib.hid (show putB xss ys = false by simp [putB, hw])
    have HI := Lib.hid (show putI xss ys = 0 by simp [putI, HB.out])
    have HL := Lib.hid (show putL xss ys = [] by simp [putL, HB.out])
    clear hv hw
    go_enter Try.func32, Try.ntmps32
    go_wp2_with fail
    refine (l31Free_c xss _ _ HX.out).mono ?_
    rintro e w0 ⟨rfl, rfl⟩
    go_wp2_with fail
    refine (specSwapValid_c xss _ _ HX.out).mono ?_
    rintro e w1 ⟨rfl, hb1⟩
    rw [HV.out]
    go_wp2_with fail
    refine (l2Words_c ys _ _ (HY.out.below hb1)).mono ?_
    rintro e w2 ⟨rfl, hb2⟩
    rw [HW.out]
    have hb3 := bnext hb1 hb2
    go_wp2
    go_ret3
    rw [HB.out, HI.out, HL.out]
    exact ⟨_, rfl, (HN.out w2).mono hb3.size (Nat.le_refl _), hb3.alloc hb3.size _⟩
  have HV := Lib.hid hv
  have HW := Lib.hid hw
  have HSUM := Lib.hid (show (xss.length : Int) + sumLen xss ≤ 2000000 by have := swapOk_sum hv; omega)
  have HYL := Lib.hid (show ys.length ≤ 2000000 by have := wordsOk_len hw; omega)
  cases hf : xss.any isFree
  · have HFR := Lib.hid hf
    have HF := Lib.hid (show freeI xss = -1 by simp [freeI, idxOf, hf])
    have HB := Lib.hid (show putB xss ys = false by simp [putB, hf])
    have HI := Lib.hid (show putI xss ys = 0 by simp [putI, HB.out])
    have HL := Lib.hid (show putL xss ys = [] by simp [putL, HB.out])
    clear hv hw hf
    go_enter Try.func32, Try.ntmps32
    go_wp2_with fail
    refine (l31Free_c xss _ _ HX.out).mono ?_
    rintro e w0 ⟨rfl, rfl⟩
    rw [HF.out]
    go_wp2_with fail
    refine (specSwapValid_c xss _ _ HX.out).mono ?_
    rintro e w1 ⟨rfl, hb1⟩
    rw [HV.out]
    go_wp2_with fail
    refine (l2Words_c ys _ _ (HY.out.below hb1)).mono ?_
    rintro e w2 ⟨rfl, hb2⟩
    rw [HW.out]
    have hb3 := bnext hb1 hb2
    go_wp2
    go_ret3
    rw [HB.out, HI.out, HL.out]
    exact ⟨_, rfl, (HN.out w2).mono hb3.size (Nat.le_refl _), hb3.alloc hb3.size _⟩
  · obtain ⟨k, x, hk, hx, -, -⟩ := idx_found hf
    have HF := Lib.hid (show freeI xss = (k : Int) from hk)
    have HB := Lib.hid (show putB xss ys = true by simp [putB, hv, hw, hf])
    have HI := Lib.hid (show putI xss ys = (k : Int) by simp [putI, HB.out, HF.out])
    have HL := Lib.hid (show putL xss ys = xss.set k ys by simp [putL, HB.out, putAt, hf, HF.out])
    have HK := Lib.hid (show k < xss.length from (List.getElem?_eq_some_iff.1 hx).1)
    clear hk hx hv hw hf
    go_enter Try.func32, Try.ntmps32
    go_wp2_with fail
    refine (l31Free_c xss _ _ HX.out).mono ?_
    rintro e w0 ⟨rfl, rfl⟩
    rw [HF.out]
    go_wp2_with fail
    refine (specSwapValid_c xss _ _ HX.out).mono ?_
    rintro e w1 ⟨rfl, hb1⟩
    rw [HV.out]
    go_wp2_with fail
    refine (l2Words_c ys _ _ (HY.out.below hb1)).mono ?_
    rintro e w2 ⟨rfl, hb2⟩
    rw [HW.out]
    have hb2' := bnext hb1 hb2
    go_wp2_with fail
    refine (l2Copy_c xss _ _ (HX.out.below hb2') HSUM.out).mono ?_
    rintro e w3 ⟨u, rfl, ho, hb3⟩
    obtain ⟨ss, H3⟩ := ((Bun.refl w none).call hb2').addN neSl ho hb3
    have HY3 := Lib.hid ((HY.out.below (bnext hb2' hb3)).below (balloc w3 (.cells #[] 3)))
    have HH3 := Lib.hid (H3.lit eltInt #[] [] rfl (by simp))
    clear ho hb1 hb2 hb2' hb3 H3
    go_wp2_with (at_builtin; refine append_b eltInt rfl _ _ rfl (.slice (some ⟨w3.heap.size, 0, none⟩) 0 0) v2 ys rfl rfl HH3.out HY3.out (by have := HYL.out; simp; omega) ?_; intro v' w4 H4 hnil4; obtain ⟨⟨sa, sn, sc⟩, rfl⟩ := (H4.rd 0 rfl encI_len).sl; have hlen := (show InO encI 1 3 0 w4.heap.size w4 ss xss from H4.get 2 rfl).len; obtain ⟨z, hz⟩ : ∃ z, ss[k]? = some z := ⟨_, List.getElem?_eq_getElem (by have := HK.out; omega)⟩; obtain ⟨g, c, rfl, hk1, hk2, hk3, hk4, hfz, hcs⟩ := H4.at 1 rfl encL_len hz; have d0 := hcs 0 _ rfl; have f0 := hfz k; simp only [Nat.mul_one, Nat.add_zero] at d0; have H5 := Lib.hid (H4.putRow hk1); unfold maxLen at hk3; clear hfz hcs hz hlen H4 HH3 HY3; simp only [slv] at H5 d0 ⊢)
    go_ret3
    rw [HB.out, HI.out, HL.out]
    exact ⟨_, rfl, by have := H5.out.owN 0 1 rfl rfl; simpa using this, H5.out.below⟩
end Go.Proofs.Ytppbhlocnccpnaa
