/- Contracts of the marks over bundles. No conditions but the readings of the arguments. -/
import Derived.Test.YtojknkpjnchchaaDoorKerD
import Derived.Test.YtojknkpjnchchaaDoorSwapC
import Derived.Test.YtojknkpjnchchaaDoorInfoD
namespace Go.Proofs.YtojknkpjnchchaaDoor
open Go.ChangeShapes Go.WideShapes Go.RowKit
set_option linter.all false
set_option maxRecDepth 100000
attribute [local go_sem ↓] Go.wp_at_zero Go.wp_at_succ

section
variable {w0 w w' : World} {row : Option Nat} {rs : List Res}

/-- A row of owned rows is changed in its place. -/
theorem Bun.modRow {α : Type} {enc : α → List Value} {K : Nat} {e : TypeId} {ss : List Sl} {xss : List (List α)} {k : Nat} {s : Sl} {xs : List α} (h : Bun w0 row w (Res.rows enc K e ss xss :: rs)) (hk : ss[k]? = some s) (hs : OwT enc K e 0 w' (slv s) xs)
    (h1 : ∀ g, (slv s).ownBlock = some g → w.grownBy w' (some g)) (h2 : (slv s).ownBlock = none → w = w') : Bun w0 row w' (Res.rows enc K e ss (xss.set k xs) :: rs) := by
  have hin : InO enc K e 0 w.heap.size w ss xss := h.get 0 rfl
  have hm := hin.mod hk hs h1 h2
  have hc : Chs (Res.rows enc K e ss xss).own w w' := by
    cases hv : (slv s).ownBlock with
    | none => rw [← h2 hv]; exact Chs.of_below (bref w)
    | some g => exact Chs.of_grown (h1 g hv) (fun q hq => ⟨s, List.mem_of_getElem? hk, by simp at hq; subst hq; exact hv⟩)
  exact h.mod hc (Res.rows enc K e ss (xss.set k xs)) (hm.mono (Nat.le_refl _) hc.size) (fun _ h => .inl h) (fun _ h => .inl h)

set_option maxHeartbeats 1000000 in
theorem markIntSS_b (xss : List (List Int)) (v : Value) (ss : List Sl) (q : Int) (H : Bun w0 row w (Res.row encL 1 45 v ss :: Res.rows encI 1 3 ss xss :: rs)) (hq : 0 ≤ q ∧ q ≤ 40000000) (hl : (xss.length : Int) + sumLen xss ≤ 2000000) :
    Calls Tryd.prog 27 #[v, .int .i64 q] w fun e w' => e = .returned (.int .i64 (q + sumLen xss)) ∧ Bun w0 row w' (Res.row encL 1 45 v ss :: Res.rows encI 1 3 ss (marksII q xss) :: rs) := by
  have hml := marksII_len xss q
  have hrl := (show InO encI 1 3 0 w.heap.size w ss xss from H.get 1 rfl).len
  have HML := Lib.hid hml
  have HRL := Lib.hid hrl
  obtain ⟨a, c, rfl, h1, h2, -, -⟩ := H.rd 0 rfl encL_len
  unfold maxLen at h2
  obtain ⟨n, hn⟩ : ∃ n, n = ss.length := ⟨_, rfl⟩
  rw [← hn] at h1 H ⊢
  have HN := Lib.hid hn
  have HL := Lib.hid hl
  have H0 : Bun w0 row w (Res.row encL 1 45 (.slice a n c) ss :: Res.rows encI 1 3 ss (markedBy (marksII q xss) xss 0) :: rs) := by rw [markedBy_zero]; exact H
  clear hn hml hrl hl H
  go_enter Tryd.func27, Tryd.ntmps27
  go_wp2
  go_loopw [1, 5] (fun t i wr => ∃ k : Nat, k ≤ n ∧ i = .int .i64 k ∧ t = .int .i64 (q + sumLen (xss.take k)) ∧ Bun w0 row wr (Res.row encL 1 45 (.slice a n c) ss :: Res.rows encI 1 3 ss (markedBy (marksII q xss) xss k) :: rs)) (fun _ i _ => n - (intOf i).toNat)
  case atStart => exact ⟨0, Nat.zero_le _, rfl, by simp [sumLen], H0⟩
  case round =>
    obtain ⟨k, hk, rfl, rfl, hb⟩ := hrel
    have HB := Lib.hid hb
    clear hb
    by_cases hlt : k < n
    · obtain ⟨xs, hxs⟩ : ∃ xs, xss[k]? = some xs := ⟨_, List.getElem?_eq_getElem (by have := HN.out; have := HRL.out; omega)⟩
      have hold : (markedBy (marksII q xss) xss k)[k]? = some xs := by
        unfold markedBy
        have hlen : ((marksII q xss).take k).length = k := by
          have h1 := HML.out
          have h2 := HN.out
          have h3 := HRL.out
          simp; omega
        rw [List.getElem?_append_right (by omega), hlen, Nat.sub_self, List.getElem?_drop]
        simpa using hxs
      obtain ⟨s, hrow, hos⟩ := (show InO encI 1 3 0 wr.heap.size wr ss (markedBy (marksII q xss) xss k) from HB.out.get 1 rfl).get hold
      obtain ⟨a2, c2, hv2, h12, h22, -, h3⟩ := HB.out.rd 0 rfl encL_len
      simp only [Value.slice.injEq] at hv2
      obtain ⟨rfl, -, rfl⟩ := hv2
      obtain ⟨b, o, rfl, hbl, hcc⟩ := h3 k s hrow
      have c0 := hcc 0 _ rfl
      simp only [Nat.add_zero, Nat.mul_one] at c0
      have hsl := sum_take_le xss k
      have hll := len_le_sum hxs
      have HST := Lib.hid (sum_take hxs)
      have HG := Lib.hid (marksII_get xss q k xs hxs)
      have HBB := Lib.hid (show (0 ≤ q + (sumLen (xss.take k) : Int) ∧ q + (sumLen (xss.take k) : Int) ≤ 50000000) ∧ xs.length ≤ 2000000 by have := HL.out; omega)
      have HOS := Lib.hid hos
      have HROW := Lib.hid hrow
      clear hcc h3 hxs hold hrow hos hsl hll
      go_wp2_with fail
      refine (markIntS_c xs (slv s) _ 0 _ HOS.out.1 (by have := HBB.out.1; omega) HBB.out.2).mono ?_
      rintro e w2 ⟨rfl, ho1, hg1, hn1⟩
      have hm := (HB.out.front 1 rfl).modRow HROW.out ho1 hg1 hn1
      rw [markedBy_step _ _ _ _ HML.out HG.out] at hm
      have HM := Lib.hid (hm.front 1 rfl)
      clear hm ho1 hg1 hn1 HB
      go_wp2
      go_roundw
      case rel => exact ⟨k + 1, by omega, by go_num, by have := HST.out; first | (congr 1; omega) | (simp; omega), HM.out⟩
      case measure => simp [intOf]; omega
    · go_wp2
      go_ret
      have h3 : k = xss.length := by have := HN.out; have := HRL.out; omega
      subst h3
      rw [sum_all (Nat.le_refl _)]
      have hbb := HB.out
      rw [markedBy_all _ _ HML.out] at hbb
      exact ⟨rfl, hbb⟩

set_option maxHeartbeats 1000000 in
theorem markStringSS_b (xss : List (List Txt)) (v : Value) (ss : List Sl) (q : Int) (H : Bun w0 row w (Res.row encL 1 38 v ss :: Res.rows encS 1 9 ss xss :: rs)) (hq : 1 ≤ q ∧ q ≤ 40000000) (hl : (xss.length : Int) + sumBy List.length xss ≤ 2000000) :
    Calls Tryd.prog 10 #[v, .int .i64 q] w fun e w' => e = .returned (.int .i64 (q + sumBy List.length xss)) ∧ Bun w0 row w' (Res.row encL 1 38 v ss :: Res.rows encS 1 9 ss (marksSS q xss) :: rs) := by
  have hml := marksSS_len xss q
  have hrl := (show InO encS 1 9 0 w.heap.size w ss xss from H.get 1 rfl).len
  have HML := Lib.hid hml
  have HRL := Lib.hid hrl
  obtain ⟨a, c, rfl, h1, h2, -, -⟩ := H.rd 0 rfl encL_len
  unfold maxLen at h2
  obtain ⟨n, hn⟩ : ∃ n, n = ss.length := ⟨_, rfl⟩
  rw [← hn] at h1 H ⊢
  have HN := Lib.hid hn
  have HL := Lib.hid hl
  have H0 : Bun w0 row w (Res.row encL 1 38 (.slice a n c) ss :: Res.rows encS 1 9 ss (markedBy (marksSS q xss) xss 0) :: rs) := by rw [markedBy_zero]; exact H
  clear hn hml hrl hl H
  go_enter Tryd.func10, Tryd.ntmps10
  go_wp2
  go_loopw [1, 5] (fun t i wr => ∃ k : Nat, k ≤ n ∧ i = .int .i64 k ∧ t = .int .i64 (q + sumBy List.length (xss.take k)) ∧ Bun w0 row wr (Res.row encL 1 38 (.slice a n c) ss :: Res.rows encS 1 9 ss (markedBy (marksSS q xss) xss k) :: rs)) (fun _ i _ => n - (intOf i).toNat)
  case atStart => exact ⟨0, Nat.zero_le _, rfl, by simp [sumBy], H0⟩
  case round =>
    obtain ⟨k, hk, rfl, rfl, hb⟩ := hrel
    have HB := Lib.hid hb
    clear hb
    by_cases hlt : k < n
    · obtain ⟨xs, hxs⟩ : ∃ xs, xss[k]? = some xs := ⟨_, List.getElem?_eq_getElem (by have := HN.out; have := HRL.out; omega)⟩
      have hold : (markedBy (marksSS q xss) xss k)[k]? = some xs := by
        unfold markedBy
        have hlen : ((marksSS q xss).take k).length = k := by
          have h1 := HML.out
          have h2 := HN.out
          have h3 := HRL.out
          simp; omega
        rw [List.getElem?_append_right (by omega), hlen, Nat.sub_self, List.getElem?_drop]
        simpa using hxs
      obtain ⟨s, hrow, hos⟩ := (show InO encS 1 9 0 wr.heap.size wr ss (markedBy (marksSS q xss) xss k) from HB.out.get 1 rfl).get hold
      obtain ⟨a2, c2, hv2, h12, h22, -, h3⟩ := HB.out.rd 0 rfl encL_len
      simp only [Value.slice.injEq] at hv2
      obtain ⟨rfl, -, rfl⟩ := hv2
      obtain ⟨b, o, rfl, hbl, hcc⟩ := h3 k s hrow
      have c0 := hcc 0 _ rfl
      simp only [Nat.add_zero, Nat.mul_one] at c0
      have hsl := sumBy_take_le List.length xss k
      have hll := le_sumBy List.length hxs
      have HST := Lib.hid (sumBy_take List.length hxs)
      have HG := Lib.hid (marksSS_get xss q k xs hxs)
      have HBB := Lib.hid (show (1 ≤ q + (sumBy List.length (xss.take k) : Int) ∧ q + (sumBy List.length (xss.take k) : Int) ≤ 50000000) ∧ xs.length ≤ 2000000 by have := HL.out; omega)
      have HOS := Lib.hid hos
      have HROW := Lib.hid hrow
      clear hcc h3 hxs hold hrow hos hsl hll
      go_wp2_with fail
      refine (markStringS_c xs (slv s) _ 0 _ HOS.out.1 (by have := HBB.out.1; omega) HBB.out.2).mono ?_
      rintro e w2 ⟨rfl, ho1, hg1, hn1⟩
      have hm := (HB.out.front 1 rfl).modRow HROW.out ho1 hg1 hn1
      rw [markedBy_step _ _ _ _ HML.out HG.out] at hm
      have HM := Lib.hid (hm.front 1 rfl)
      clear hm ho1 hg1 hn1 HB
      go_wp2
      go_roundw
      case rel => exact ⟨k + 1, by omega, by go_num, by have := HST.out; first | (congr 1; omega) | (simp; omega), HM.out⟩
      case measure => simp [intOf]; omega
    · go_wp2
      go_ret
      have h3 : k = xss.length := by have := HN.out; have := HRL.out; omega
      subst h3
      rw [sumBy_all List.length (Nat.le_refl _)]
      have hbb := HB.out
      rw [markedBy_all _ _ HML.out] at hbb
      exact ⟨rfl, hbb⟩

end
end Go.Proofs.YtojknkpjnchchaaDoor
