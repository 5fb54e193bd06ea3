/- Contracts of the helpers' loops over slices of strings. No conditions but the readings of the arguments. -/
import Derived.Test.YtojknkpjnchchaaDoorGen
import Derived.Test.YtojknkpjnchchaaDoorLibD
import Derived.Lib.Strings
namespace Go.Proofs.YtojknkpjnchchaaDoor
open Go.ChangeShapes Go.WideShapes Go.RowKit
set_option linter.all false
set_option maxRecDepth 100000
attribute [local go_sem ↓] Go.wp_at_zero Go.wp_at_succ

/-- A text: its bytes. -/
abbrev Txt := List UInt8
abbrev tv (x : Txt) : Value := .string ⟨x.toArray⟩
def encS (x : Txt) : List Value := [tv x]
theorem encS_len (x : Txt) : (encS x).length = 1 := rfl
abbrev RdS := RdT encS 1
abbrev OwS := OwT encS 1 9
theorem infoStr : (Tryd.prog.info? 9).map (fun i => (i.zero, i.size, i.bytes)) = some (some (.string ⟨#[]⟩), 1, 16) := by kernel_rfl
theorem eltStr : Elt Tryd.prog encS 1 9 38 ([] : Txt) := by
  obtain ⟨i0, hi, hz0, hz1, hz2⟩ := info_parts infoStr
  refine ⟨encS_len, by decide, ?_, Tryd.underlying38, i0, _, hi, hz0, hz1, by omega, rfl⟩
  intro x u hu
  simp [encS] at hu
  subst hu; rfl
theorem tv_size (x : Txt) : (ByteArray.mk x.toArray).size = x.length := by simp [ByteArray.size]
theorem tv_of (s : ByteArray) : Value.string s = tv s.data.toList := by cases s; rfl

set_option maxHeartbeats 1000000 in
theorem eqStringS_c (xs ys : List Txt) (v u : Value) (w : World) (hx : RdT encS 1 w v xs) (hy : RdT encS 1 w u ys) : Calls Tryd.prog 25 #[v, u] w fun e w' =>
    e = .returned (.bool (decide (xs = ys))) ∧ Below w.heap.size w w' := by
  obtain ⟨a, c, rfl, h1, h2, -, h3⟩ := hx
  obtain ⟨a', c', rfl, h1', h2', -, h3'⟩ := hy
  unfold maxLen at h2 h2'
  by_cases hn : xs.length = ys.length
  · have HN := Lib.hid hn
    obtain ⟨n, hn1⟩ : ∃ n, n = xs.length := ⟨_, rfl⟩
    have hn2 : ys.length = n := by omega
    rw [← hn1, hn2]
    have HN1 := Lib.hid hn1
    have HN2 := Lib.hid hn2
    have hnc : n ≤ c := by omega
    have hnc' : n ≤ c' := by omega
    clear hn hn1 hn2 h1 h1'
    have H3 := Lib.hid h3
    have H3' := Lib.hid h3'
    clear h3 h3'
    go_enter Tryd.func25, Tryd.ntmps25
    go_wp2
    go_loopw [5] (fun i wr => ∃ k : Nat, k ≤ n ∧ i = .int .i64 k ∧ Below w.heap.size w wr ∧ Hid (xs.take k = ys.take k)) (fun i _ => n - (intOf i).toNat)
    case atStart => exact ⟨0, Nat.zero_le _, rfl, Below.refl _ _, rfl⟩
    case round =>
      obtain ⟨k, hk, rfl, hb, heq⟩ := hrel
      by_cases hlt : k < n
      · obtain ⟨m, hm⟩ : ∃ m, xs[k]? = some m := ⟨_, List.getElem?_eq_getElem (by have := HN1.out; omega)⟩
        obtain ⟨p, hp⟩ : ∃ m, ys[k]? = some m := ⟨_, List.getElem?_eq_getElem (by have := HN2.out; omega)⟩
        obtain ⟨b, o, rfl, hbl, hc⟩ := H3.out k m hm
        obtain ⟨b', o', rfl, hbl', hc'⟩ := H3'.out k p hp
        have hk0 : (0 : Int) ≤ (k : Int) := by omega
        have hkn : (k : Int) < (n : Int) := by omega
        have c0 := (hb.cell (p := ⟨b, o + k * 1 + 0, none⟩) hbl).trans (hc 0 _ rfl)
        have d0 := (hb.cell (p := ⟨b', o' + k * 1 + 0, none⟩) hbl').trans (hc' 0 _ rfl)
        simp only [Nat.add_zero, Nat.mul_one] at c0 d0
        have HM := Lib.hid hm
        have HP := Lib.hid hp
        clear hc hc' hm hp
        by_cases hmp : m = p
        all_goals
          have HE := Lib.hid hmp
          first | have he := Lib.hid (decide_eq_false hmp) | have he := Lib.hid (decide_eq_true hmp)
          first | have hne : (m == p) = false := beq_eq_false_iff_ne.2 hmp | have hne : (m == p) = true := beq_iff_eq.2 hmp
          clear hmp
          go_wp2
          go_still_tail 8, (by kernel_rfl)
          change wpList _ _ _ _ _ wr.drew
          have hb3 := hb.drew
          go_wp2
        · go_roundw
          case rel => exact ⟨k + 1, by omega, by go_num, hb3, take_eq_succ HM.out HP.out heq HE.out⟩
          case measure => simp [intOf]; omega
        · go_ret
          exact ⟨ret_bool (by rw [eq_comm, decide_eq_false_iff_not]; exact ne_of_get HM.out HP.out HE.out), hb3⟩
      · go_wp2
        go_ret
        refine ⟨ret_bool ?_, hb⟩
        have h1 := HN1.out
        have h2 := HN2.out
        have h3 : k = n := by omega
        have h4 := heq.out
        rw [List.take_of_length_le (by omega), List.take_of_length_le (by omega)] at h4
        simp [h4]
  · go_enter Tryd.func25, Tryd.ntmps25
    go_wp2
    go_ret
    exact ⟨ret_bool (by rw [eq_comm, decide_eq_false_iff_not]; rintro rfl; exact hn rfl), Below.refl _ _⟩

set_option maxHeartbeats 1000000 in
theorem toStringS_c (xs : List Txt) (v : Value) (w : World) (hx : RdT encS 1 w v xs) (hl : xs.length ≤ 1048576) : Calls Tryd.prog 16 #[v] w fun e w' =>
    ∃ u, e = .returned u ∧ OwT encS 1 9 w.heap.size w' u xs ∧ Below w.heap.size w w' := by
  obtain ⟨a, c, rfl, h1, h2, -, h3⟩ := hx
  unfold maxLen at h2
  obtain ⟨n, hn1⟩ : ∃ n, n = xs.length := ⟨_, rfl⟩
  rw [← hn1] at h1 hl ⊢
  have HN := Lib.hid hn1
  have H3 := Lib.hid h3
  clear h3 hn1
  go_enter Tryd.func16, Tryd.ntmps16
  go_wp2_with (refine make_T eltStr rfl _ _ rfl n rfl rfl (by omega) ?_; intro w1 ho hb1)
  have hs1 := hb1.size
  have ho : OwT encS 1 9 w.heap.size w1 (.slice (some ⟨w.heap.size, 0, none⟩) n n) (filled [] xs 0) := by rw [filled_zero, ← HN.out]; exact ho
  go_wp2
  go_loopw [4] (fun i wr => ∃ k : Nat, k ≤ n ∧ i = .int .i64 k ∧ Below w.heap.size w wr ∧ OwT encS 1 9 w.heap.size wr (.slice (some ⟨w.heap.size, 0, none⟩) n n) (filled [] xs k)) (fun i _ => n - (intOf i).toNat)
  case atStart => exact ⟨0, Nat.zero_le _, rfl, hb1, ho⟩
  case round =>
    obtain ⟨k, hk, rfl, hb, hok⟩ := hrel
    obtain ⟨e0, e1, e2, e3, e4, hfz, hcs⟩ := hok.open eltStr.len
    by_cases hlt : k < n
    · obtain ⟨m, hm⟩ : ∃ m, xs[k]? = some m := ⟨_, List.getElem?_eq_getElem (by have := HN.out; omega)⟩
      obtain ⟨z, hz⟩ : ∃ z, (filled [] xs k)[k]? = some z := ⟨_, List.getElem?_eq_getElem (by omega)⟩
      obtain ⟨b, o, rfl, hbl, hc⟩ := H3.out k m hm
      have c0 := (hb.cell (p := ⟨b, o + k * 1 + 0, none⟩) hbl).trans (hc 0 _ rfl)
      have d0 := hcs k z 0 _ hz rfl
      have f0 := hfz k
      simp only [Nat.add_zero, Nat.mul_one] at c0 d0
      have HM := Lib.hid hm
      have HOK := Lib.hid hok
      have HE0 := Lib.hid e0
      clear hc hm hz hcs hfz hok e0
      go_wp2
      have hok2 := HOK.out.stored1 eltStr.len k m _ (by have := HE0.out; omega) rfl
      rw [filled_step _ _ _ _ HM.out] at hok2
      go_roundw
      case rel => exact ⟨k + 1, by omega, by go_num, hb.setCell (Nat.le_refl _) _, hok2⟩
      case measure => simp [intOf]; omega
    · clear hcs hfz e0
      go_wp2
      go_ret
      refine ⟨_, rfl, ?_, hb⟩
      have h1 := HN.out
      have h3 : k = xs.length := by omega
      rw [h3, filled_all] at hok
      exact hok


/-- How many bytes there are. -/
def strSum (xs : List Txt) : Nat := (xs.map List.length).sum
theorem strSum_take {xs : List Txt} {k : Nat} {x : Txt} (h : xs[k]? = some x) : strSum (xs.take (k + 1)) = strSum (xs.take k) + x.length := by
  unfold strSum
  rw [List.take_add_one, h]
  simp
theorem strSum_take_le (xs : List Txt) (k : Nat) : strSum (xs.take k) ≤ strSum xs := by
  have h := congrArg strSum (List.take_append_drop k xs)
  unfold strSum at h ⊢
  rw [List.map_append, List.sum_append] at h
  omega
theorem strSum_all {xs : List Txt} {k : Nat} (h : xs.length ≤ k) : strSum (xs.take k) = strSum xs := by rw [List.take_of_length_le h]
theorem len_le_strSum {xs : List Txt} {x : Txt} (h : x ∈ xs) : x.length ≤ strSum xs := by
  obtain ⟨k, hk⟩ := List.getElem?_of_mem h
  have h1 := strSum_take hk
  have h2 := strSum_take_le xs (k + 1)
  omega

/-- Texts of a size that a machine can bear. -/
def fitS (xs : List Txt) : Prop := ∀ x ∈ xs, x.length ≤ 9223372036854775807
def RdSF (w : World) (v : Value) (xs : List Txt) : Prop := RdS w v xs ∧ fitS xs
theorem RdSF.below {w w' : World} {v : Value} {xs : List Txt} (h : RdSF w v xs) (hb : Below w.heap.size w w') : RdSF w' v xs := ⟨h.1.below hb, h.2⟩

theorem szStringS_c (xs : List Txt) (v : Value) (left : Int) (w : World) (h : RdS w v xs) (hf : fitS xs) (hl : 0 ≤ left ∧ left ≤ 1048576) : Calls Tryd.prog 13 #[v, .int .i64 left] w fun e w' =>
    e = .returned (.int .i64 (szv left ((xs.length : Int) + strSum xs))) ∧ w = w' := by
  obtain ⟨a, c, rfl, h1, h2, -, h3⟩ := h
  have H3 := Lib.hid h3
  have HF := Lib.hid hf
  obtain ⟨n, hn⟩ : ∃ n, n = xs.length := ⟨_, rfl⟩
  rw [← hn] at h1 ⊢
  have HN := Lib.hid hn
  unfold maxLen at h2
  clear h3 hn hf
  by_cases hlt : left < n
  · go_enter Tryd.func13, Tryd.ntmps13
    go_wp2
    go_ret
    exact ⟨ret_int (szv_neg (by omega)).symm, rfl⟩
  · go_enter Tryd.func13, Tryd.ntmps13
    go_wp2
    go_loop [1, 5] (fun t i => ∃ k : Nat, k ≤ n ∧ i = .int .i64 k ∧ t = .int .i64 (left - n - strSum (xs.take k)) ∧ (strSum (xs.take k) : Int) ≤ left - n) (fun _ i => n - (intOf i).toNat)
    case atStart => exact ⟨0, Nat.zero_le _, rfl, by simp [strSum], by simp [strSum]; omega⟩
    case round =>
      obtain ⟨k, hk, rfl, rfl, hs⟩ := hrel
      by_cases hlt2 : k < n
      · obtain ⟨x, hx⟩ : ∃ x, xs[k]? = some x := ⟨_, List.getElem?_eq_getElem (by have := HN.out; omega)⟩
        obtain ⟨b, o, rfl, hbl, hc⟩ := H3.out k x hx
        have c0 := hc 0 _ rfl
        simp only [Nat.add_zero, Nat.mul_one] at c0
        have HS1 := Lib.hid (strSum_take hx)
        have hxl := HF.out x (List.mem_of_getElem? hx)
        have hsz := tv_size x
        clear hc hx
        by_cases hfit : (x.length : Int) ≤ left - n - strSum (xs.take k)
        · go_wp2
          go_round
          case rel => exact ⟨k + 1, by omega, by go_num, by have := HS1.out; first | (congr 1; omega) | (simp; omega), by have := HS1.out; omega⟩
          case measure => simp [intOf]; omega
        · go_wp2
          go_ret
          exact ⟨ret_int (szv_neg (by have := HS1.out; have := HN.out; have := strSum_take_le xs (k + 1); omega)).symm, rfl⟩
      · go_wp2
        go_ret
        have hall : strSum (xs.take k) = strSum xs := strSum_all (by have := HN.out; omega)
        rw [hall] at hs ⊢
        exact ⟨ret_int (by rw [szv_pos (by omega)]; omega), rfl⟩
end Go.Proofs.YtojknkpjnchchaaDoor
