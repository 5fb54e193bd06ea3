/- Contracts of the marks over slices of integer slices. No conditions but the readings of the arguments. -/
import Derived.Test.YtojknkpjnchchaaDoorSwapB
namespace Go.Proofs.YtojknkpjnchchaaDoor
open Go.ChangeShapes Go.WideShapes Go.RowKit
set_option linter.all false
set_option maxRecDepth 100000
attribute [local go_sem ↓] Go.wp_at_zero Go.wp_at_succ

/-- The marks that a loop lays over slices of integers: from q on. -/
def marksII : Int → List (List Int) → List (List Int)
  | _, [] => []
  | q, xs :: t => marksI q xs.length :: marksII (q + xs.length) t
theorem marksII_len : ∀ (xss : List (List Int)) (q : Int), (marksII q xss).length = xss.length := by
  intro xss
  induction xss with
  | nil => intro q; rfl
  | cons x t ih => intro q; simp [marksII, ih]
theorem marksII_get : ∀ (xss : List (List Int)) (q : Int) (k : Nat) (xs : List Int), xss[k]? = some xs → (marksII q xss)[k]? = some (marksI (q + sumLen (xss.take k)) xs.length) := by
  intro xss
  induction xss with
  | nil => intro q k xs h; simp at h
  | cons x t ih =>
    intro q k xs h
    cases k with
    | zero => simp at h; subst h; simp [marksII, sumLen]
    | succ k =>
      simp at h
      have := ih (q + x.length) k xs h
      simp only [marksII, List.getElem?_cons_succ, this, List.take_succ_cons, sumLen, List.map_cons, List.sum_cons]
      congr 2
      push_cast
      omega
theorem marksII_sum (xss : List (List Int)) (q : Int) : sumLen (marksII q xss) = sumLen xss := by
  induction xss generalizing q with
  | nil => rfl
  | cons x t ih =>
    have := ih (q + x.length)
    simp [sumLen, marksII, marksI_len] at this ⊢
    exact this

theorem markIntSS_c (xss : List (List Int)) (v : Value) (q : Int) (lo hi : Nat) (w : World) (hx : OwII lo hi w v xss) (hq : 0 ≤ q ∧ q ≤ 50000000) (hl : (xss.length : Int) + sumLen xss ≤ 2000000) : Calls Tryd.prog 27 #[v, .int .i64 q] w fun e w' =>
    e = .returned (.int .i64 (q + sumLen xss)) ∧ OwII lo hi w' v (marksII q xss) ∧ Chg lo hi w w' := by
  obtain ⟨rows, h0, hin⟩ := hx
  have hml := marksII_len xss q
  obtain ⟨s0, rfl⟩ := (h0.rd encL_len).sl
  obtain ⟨a, n0, c⟩ := s0
  obtain ⟨a', c', hv, h1, h2, -, -⟩ := h0.rd encL_len
  simp only [slv, Value.slice.injEq] at hv
  obtain ⟨rfl, rfl, rfl⟩ := hv
  unfold maxLen at h2
  simp only [slv] at h0 ⊢
  have hrl := hin.len
  have HML := Lib.hid hml
  have HRL := Lib.hid hrl
  obtain ⟨n, hn⟩ : ∃ n, n = rows.length := ⟨_, rfl⟩
  rw [← hn] at h0 h1 ⊢
  have HN := Lib.hid hn
  have HL := Lib.hid hl
  have hin0 : InO encI 1 3 lo hi w rows (markedBy (marksII q xss) xss 0) := by rw [markedBy_zero]; exact hin
  clear hn hml hrl hl hin
  go_enter Tryd.func27, Tryd.ntmps27
  go_wp2
  go_loopw [1, 5] (fun t i wr => ∃ k : Nat, k ≤ n ∧ i = .int .i64 k ∧ t = .int .i64 (q + sumLen (xss.take k)) ∧ OwF encL 1 45 lo hi wr (.slice a n c) rows ∧ InO encI 1 3 lo hi wr rows (markedBy (marksII q xss) xss k) ∧ Chg lo hi w wr) (fun _ i _ => n - (intOf i).toNat)
  case atStart => exact ⟨0, Nat.zero_le _, rfl, by simp [sumLen], h0, hin0, Chg.refl _ _ _⟩
  case round =>
    obtain ⟨k, hk, rfl, rfl, ho, hi, hc⟩ := hrel
    by_cases hlt : k < n
    · obtain ⟨xs, hxs⟩ : ∃ xs, xss[k]? = some xs := ⟨_, List.getElem?_eq_getElem (by have := HN.out; have := HRL.out; omega)⟩
      have hold : (markedBy (marksII q xss) xss k)[k]? = some xs := by
        unfold markedBy
        have hlen : ((marksII q xss).take k).length = k := by
          have h1 := HML.out
          have h2 := HN.out
          have h3 := HRL.out
          simp; omega
        rw [List.getElem?_append_right (by omega), hlen, Nat.sub_self, List.getElem?_drop]
        simpa using hxs
      obtain ⟨s, hrow, hos⟩ := hi.get hold
      obtain ⟨a2, c2, hv2, h12, h22, -, h3⟩ := ho.rd encL_len
      simp only [Value.slice.injEq] at hv2
      obtain ⟨rfl, -, rfl⟩ := hv2
      obtain ⟨b, o, rfl, hbl, hcc⟩ := h3 k s hrow
      have c0 := hcc 0 _ rfl
      simp only [Nat.add_zero, Nat.mul_one] at c0
      have hsl := sum_take_le xss k
      have hll := len_le_sum hxs
      have HST := Lib.hid (sum_take hxs)
      have HG := Lib.hid (marksII_get xss q k xs hxs)
      have HB := Lib.hid (show (0 ≤ q + (sumLen (xss.take k) : Int) ∧ q + (sumLen (xss.take k) : Int) ≤ 100000000) ∧ xs.length ≤ 2000000 by have := HL.out; omega)
      have HOS := Lib.hid hos
      have HROW := Lib.hid hrow
      have HI := Lib.hid hi
      clear hcc h3 hxs hold hrow hos hi hsl hll
      go_wp2_with fail
      refine (markIntS_c xs (slv s) _ lo _ HOS.out.1 HB.out.1 HB.out.2).mono ?_
      rintro e w2 ⟨rfl, ho1, hg1, hn1⟩
      obtain ⟨m1, m2, m3⟩ := OwN.mod neSl ho HI.out HROW.out ho1 hg1 hn1
      rw [markedBy_step _ _ _ _ HML.out HG.out] at m2
      have M1 := Lib.hid m1
      have M2 := Lib.hid m2
      have M3 := Lib.hid (hc.trans m3)
      clear m1 m2 m3 ho1 hg1 hn1 ho hc
      go_wp2
      go_roundw
      case rel => exact ⟨k + 1, by omega, by go_num, by have := HST.out; first | (congr 1; omega) | (simp; omega), M1.out, M2.out, M3.out⟩
      case measure => simp [intOf]; omega
    · go_wp2
      go_ret
      have h3 : k = xss.length := by have := HN.out; have := HRL.out; omega
      subst h3
      rw [sum_all (Nat.le_refl _)]
      rw [markedBy_all _ _ HML.out] at hi
      exact ⟨rfl, ⟨rows, ho, hi⟩, hc⟩

theorem heldIntSS_c (xss : List (List Int)) (v : Value) (q : Int) (w : World) (hx : RdII w v (marksII q xss)) (hq : 0 ≤ q ∧ q ≤ 50000000) (hl : (xss.length : Int) + sumLen xss ≤ 2000000) : Calls Tryd.prog 31 #[v, .int .i64 q] w fun e w' =>
    e = .returned (.int .i64 (q + sumLen xss)) ∧ w = w' := by
  obtain ⟨rows, ⟨a, c, rfl, h1, h2, -, h3⟩, hin⟩ := hx
  have HIN := Lib.hid hin
  have H3 := Lib.hid h3
  obtain ⟨n, hn⟩ : ∃ n, n = rows.length := ⟨_, rfl⟩
  have hn2 : n = xss.length := hn.trans (hin.1.trans (marksII_len xss q))
  rw [← hn] at h1 ⊢
  have HN := Lib.hid hn
  have HN2 := Lib.hid hn2
  have HL := Lib.hid hl
  unfold maxLen at h2
  clear h3 hin hn hn2 hl
  go_enter Tryd.func31, Tryd.ntmps31
  go_wp2
  go_loop [1, 5] (fun t i => ∃ k : Nat, k ≤ n ∧ i = .int .i64 k ∧ t = .int .i64 (q + sumLen (xss.take k))) (fun _ i => n - (intOf i).toNat)
  case atStart => exact ⟨0, Nat.zero_le _, rfl, by simp [sumLen]⟩
  case round =>
    obtain ⟨k, hk, rfl, rfl⟩ := hrel
    by_cases hlt : k < n
    · obtain ⟨xs, hxs⟩ : ∃ xs, xss[k]? = some xs := ⟨_, List.getElem?_eq_getElem (by have := HN2.out; omega)⟩
      obtain ⟨s, hrow, hrd⟩ := HIN.out.get (marksII_get xss q k xs hxs)
      obtain ⟨b, o, rfl, hbl, hc⟩ := H3.out k s hrow
      have c0 := hc 0 _ rfl
      simp only [Nat.add_zero, Nat.mul_one] at c0
      have hsl := sum_take_le xss k
      have hll := len_le_sum hxs
      have HST := Lib.hid (sum_take hxs)
      have HB := Lib.hid (show (0 ≤ q + (sumLen (xss.take k) : Int) ∧ q + (sumLen (xss.take k) : Int) ≤ 100000000) ∧ xs.length ≤ 2000000 by have := HL.out; omega)
      have HRD := Lib.hid hrd
      clear hc hxs hrow hrd hsl hll
      go_wp2_with fail
      refine (heldIntS_c xs.length (slv s) _ _ HRD.out HB.out.1 HB.out.2).mono ?_
      rintro e w2 ⟨rfl, rfl⟩
      have hp : (0 : Int) ≤ q + (sumLen (xss.take k) : Int) + xs.length := by have := HB.out; omega
      go_wp2
      go_round
      case rel => exact ⟨k + 1, by omega, by go_num, by have := HST.out; first | (congr 1; omega) | (simp; omega)⟩
      case measure => simp [intOf]; omega
    · go_wp2
      go_ret
      rw [sum_all (by have := HN2.out; omega)]
      exact ⟨rfl, rfl⟩
end Go.Proofs.YtojknkpjnchchaaDoor
