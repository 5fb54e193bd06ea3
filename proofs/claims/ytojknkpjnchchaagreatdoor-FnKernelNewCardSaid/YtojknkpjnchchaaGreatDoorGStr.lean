/- Contracts of the helpers' loops over slices of strings. No conditions but the readings of the arguments. Contracts of the marks over slices of strings, and of the library's loops over them. No conditions but the readings of the arguments. Contracts of the helpers' loops over integers. No conditions but the readings of the arguments. Small functions and plain facts that many contracts use. No conditions. Contracts of the functions on words: slices of integers, and the library's loops over them. No conditions but the readings of the arguments. -/
import Derived.Test.YtojknkpjnchchaaGreatDoorGLib
import Derived.Lib.Strings
namespace Go.Proofs.YtojknkpjnchchaaGreatDoor
open Go.ChangeShapes Go.WideShapes Go.RowKit
set_option linter.all false
set_option maxRecDepth 100000
attribute [local go_sem ↓] Go.wp_at_zero Go.wp_at_succ

/-- A text: its bytes. -/
abbrev Txt := List UInt8
abbrev tv (x : Txt) : Value := .string ⟨x.toArray⟩
def encS (x : Txt) : List Value := [tv x]
theorem encS_len (x : Txt) : (encS x).length = 1 := rfl
abbrev RdS := RdT encS 1
abbrev OwS := OwT encS 1 9
theorem infoStr : (Tryz.prog.info? 9).map (fun i => (i.zero, i.size, i.bytes)) = some (some (.string ⟨#[]⟩), 1, 16) := by kernel_rfl
theorem eltStr : Elt Tryz.prog encS 1 9 53 ([] : Txt) := by
  obtain ⟨i0, hi, hz0, hz1, hz2⟩ := info_parts infoStr
  refine ⟨encS_len, by decide, ?_, Tryz.underlying53, i0, _, hi, hz0, hz1, by omega, rfl⟩
  intro x u hu
  simp [encS] at hu
  subst hu; rfl
theorem tv_size (x : Txt) : (ByteArray.mk x.toArray).size = x.length := by simp [ByteArray.size]
theorem tv_of (s : ByteArray) : Value.string s = tv s.data.toList := by cases s; rfl

set_option maxHeartbeats 1000000 in
theorem eqStringS_c (xs ys : List Txt) (v u : Value) (w : World) (hx : RdT encS 1 w v xs) (hy : RdT encS 1 w u ys) : Calls Tryz.prog 149 #[v, u] w fun e w' =>
    e = .returned (.bool (decide (xs = ys))) ∧ Below w.heap.size w w' := by
  obtain ⟨a, c, rfl, h1, h2, -, h3⟩ := hx
  obtain ⟨a', c', rfl, h1', h2', -, h3'⟩ := hy
  unfold maxLen at h2 h2'
  by_cases hn : xs.length = ys.length
  · have HN := Lib.hid hn
    obtain ⟨n, hn1⟩ : ∃ n, n = xs.length := ⟨_, rfl⟩
    have hn2 : ys.length = n := by omega
    rw [← hn1, hn2]
    have HN1 := Lib.hid hn1
    have HN2 := Lib.hid hn2
    have hnc : n ≤ c := by omega
    have hnc' : n ≤ c' := by omega
    clear hn hn1 hn2 h1 h1'
    have H3 := Lib.hid h3
    have H3' := Lib.hid h3'
    clear h3 h3'
    go_enter Tryz.func149, Tryz.ntmps149
    go_wp2
    go_loopw [5] (fun i wr => ∃ k : Nat, k ≤ n ∧ i = .int .i64 k ∧ Below w.heap.size w wr ∧ Hid (xs.take k = ys.take k)) (fun i _ => n - (intOf i).toNat)
    case atStart => exact ⟨0, Nat.zero_le _, rfl, Below.refl _ _, rfl⟩
    case round =>
      obtain ⟨k, hk, rfl, hb, heq⟩ := hrel
      by_cases hlt : k < n
      · obtain ⟨m, hm⟩ : ∃ m, xs[k]? = some m := ⟨_, List.getElem?_eq_getElem (by have := HN1.out; omega)⟩
        obtain ⟨p, hp⟩ : ∃ m, ys[k]? = some m := ⟨_, List.getElem?_eq_getElem (by have := HN2.out; omega)⟩
        obtain ⟨b, o, rfl, hbl, hc⟩ := H3.out k m hm
        obtain ⟨b', o', rfl, hbl', hc'⟩ := H3'.out k p hp
        have hk0 : (0 : Int) ≤ (k : Int) := by omega
        have hkn : (k : Int) < (n : Int) := by omega
        have c0 := (hb.cell (p := ⟨b, o + k * 1 + 0, none⟩) hbl).trans (hc 0 _ rfl)
        have d0 := (hb.cell (p := ⟨b', o' + k * 1 + 0, none⟩) hbl').trans (hc' 0 _ rfl)
        simp only [Nat.add_zero, Nat.mul_one] at c0 d0
        have HM := Lib.hid hm
        have HP := Lib.hid hp
        clear hc hc' hm hp
        by_cases hmp : m = p
        all_goals
          have HE := Lib.hid hmp
          first | have he := Lib.hid (decide_eq_false hmp) | have he := Lib.hid (decide_eq_true hmp)
          first | have hne : (m == p) = false := beq_eq_false_iff_ne.2 hmp | have hne : (m == p) = true := beq_iff_eq.2 hmp
          clear hmp
          go_wp2
          go_still_tail 8, (by kernel_rfl)
          change wpList _ _ _ _ _ wr.drew
          have hb3 := hb.drew
          go_wp2
        · go_roundw
          case rel => exact ⟨k + 1, by omega, by go_num, hb3, take_eq_succ HM.out HP.out heq HE.out⟩
          case measure => simp [intOf]; omega
        · go_ret
          exact ⟨ret_bool (by rw [eq_comm, decide_eq_false_iff_not]; exact ne_of_get HM.out HP.out HE.out), hb3⟩
      · go_wp2
        go_ret
        refine ⟨ret_bool ?_, hb⟩
        have h1 := HN1.out
        have h2 := HN2.out
        have h3 : k = n := by omega
        have h4 := heq.out
        rw [List.take_of_length_le (by omega), List.take_of_length_le (by omega)] at h4
        simp [h4]
  · go_enter Tryz.func149, Tryz.ntmps149
    go_wp2
    go_ret
    exact ⟨ret_bool (by rw [eq_comm, decide_eq_false_iff_not]; rintro rfl; exact hn rfl), Below.refl _ _⟩

set_option maxHeartbeats 1000000 in
theorem toStringS_c (xs : List Txt) (v : Value) (w : World) (hx : RdT encS 1 w v xs) (hl : xs.length ≤ 1048576) : Calls Tryz.prog 134 #[v] w fun e w' =>
    ∃ u, e = .returned u ∧ OwT encS 1 9 w.heap.size w' u xs ∧ Below w.heap.size w w' := by
  obtain ⟨a, c, rfl, h1, h2, -, h3⟩ := hx
  unfold maxLen at h2
  obtain ⟨n, hn1⟩ : ∃ n, n = xs.length := ⟨_, rfl⟩
  rw [← hn1] at h1 hl ⊢
  have HN := Lib.hid hn1
  have H3 := Lib.hid h3
  clear h3 hn1
  go_enter Tryz.func134, Tryz.ntmps134
  go_wp2_with (refine make_T eltStr rfl _ _ rfl n rfl rfl (by omega) ?_; intro w1 ho hb1)
  have hs1 := hb1.size
  have ho : OwT encS 1 9 w.heap.size w1 (.slice (some ⟨w.heap.size, 0, none⟩) n n) (filled [] xs 0) := by rw [filled_zero, ← HN.out]; exact ho
  go_wp2
  go_loopw [4] (fun i wr => ∃ k : Nat, k ≤ n ∧ i = .int .i64 k ∧ Below w.heap.size w wr ∧ OwT encS 1 9 w.heap.size wr (.slice (some ⟨w.heap.size, 0, none⟩) n n) (filled [] xs k)) (fun i _ => n - (intOf i).toNat)
  case atStart => exact ⟨0, Nat.zero_le _, rfl, hb1, ho⟩
  case round =>
    obtain ⟨k, hk, rfl, hb, hok⟩ := hrel
    obtain ⟨e0, e1, e2, e3, e4, hfz, hcs⟩ := hok.open eltStr.len
    by_cases hlt : k < n
    · obtain ⟨m, hm⟩ : ∃ m, xs[k]? = some m := ⟨_, List.getElem?_eq_getElem (by have := HN.out; omega)⟩
      obtain ⟨z, hz⟩ : ∃ z, (filled [] xs k)[k]? = some z := ⟨_, List.getElem?_eq_getElem (by omega)⟩
      obtain ⟨b, o, rfl, hbl, hc⟩ := H3.out k m hm
      have c0 := (hb.cell (p := ⟨b, o + k * 1 + 0, none⟩) hbl).trans (hc 0 _ rfl)
      have d0 := hcs k z 0 _ hz rfl
      have f0 := hfz k
      simp only [Nat.add_zero, Nat.mul_one] at c0 d0
      have HM := Lib.hid hm
      have HOK := Lib.hid hok
      have HE0 := Lib.hid e0
      clear hc hm hz hcs hfz hok e0
      go_wp2
      have hok2 := HOK.out.stored1 eltStr.len k m _ (by have := HE0.out; omega) rfl
      rw [filled_step _ _ _ _ HM.out] at hok2
      go_roundw
      case rel => exact ⟨k + 1, by omega, by go_num, hb.setCell (Nat.le_refl _) _, hok2⟩
      case measure => simp [intOf]; omega
    · clear hcs hfz e0
      go_wp2
      go_ret
      refine ⟨_, rfl, ?_, hb⟩
      have h1 := HN.out
      have h3 : k = xs.length := by omega
      rw [h3, filled_all] at hok
      exact hok


/-- How many bytes there are. -/
def strSum (xs : List Txt) : Nat := (xs.map List.length).sum
theorem strSum_take {xs : List Txt} {k : Nat} {x : Txt} (h : xs[k]? = some x) : strSum (xs.take (k + 1)) = strSum (xs.take k) + x.length := by
  unfold strSum
  rw [List.take_add_one, h]
  simp
theorem strSum_take_le (xs : List Txt) (k : Nat) : strSum (xs.take k) ≤ strSum xs := by
  have h := congrArg strSum (List.take_append_drop k xs)
  unfold strSum at h ⊢
  rw [List.map_append, List.sum_append] at h
  omega
theorem strSum_all {xs : List Txt} {k : Nat} (h : xs.length ≤ k) : strSum (xs.take k) = strSum xs := by rw [List.take_of_length_le h]
theorem len_le_strSum {xs : List Txt} {x : Txt} (h : x ∈ xs) : x.length ≤ strSum xs := by
  obtain ⟨k, hk⟩ := List.getElem?_of_mem h
  have h1 := strSum_take hk
  have h2 := strSum_take_le xs (k + 1)
  omega

/-- Texts of a size that a machine can bear. -/
def fitS (xs : List Txt) : Prop := ∀ x ∈ xs, x.length ≤ 9223372036854775807
def RdSF (w : World) (v : Value) (xs : List Txt) : Prop := RdS w v xs ∧ fitS xs
theorem RdSF.below {w w' : World} {v : Value} {xs : List Txt} (h : RdSF w v xs) (hb : Below w.heap.size w w') : RdSF w' v xs := ⟨h.1.below hb, h.2⟩

theorem szStringS_c (xs : List Txt) (v : Value) (left : Int) (w : World) (h : RdS w v xs) (hf : fitS xs) (hl : 0 ≤ left ∧ left ≤ 1048576) : Calls Tryz.prog 129 #[v, .int .i64 left] w fun e w' =>
    e = .returned (.int .i64 (szv left ((xs.length : Int) + strSum xs))) ∧ w = w' := by
  obtain ⟨a, c, rfl, h1, h2, -, h3⟩ := h
  have H3 := Lib.hid h3
  have HF := Lib.hid hf
  obtain ⟨n, hn⟩ : ∃ n, n = xs.length := ⟨_, rfl⟩
  rw [← hn] at h1 ⊢
  have HN := Lib.hid hn
  unfold maxLen at h2
  clear h3 hn hf
  by_cases hlt : left < n
  · go_enter Tryz.func129, Tryz.ntmps129
    go_wp2
    go_ret
    exact ⟨ret_int (szv_neg (by omega)).symm, rfl⟩
  · go_enter Tryz.func129, Tryz.ntmps129
    go_wp2
    go_loop [1, 5] (fun t i => ∃ k : Nat, k ≤ n ∧ i = .int .i64 k ∧ t = .int .i64 (left - n - strSum (xs.take k)) ∧ (strSum (xs.take k) : Int) ≤ left - n) (fun _ i => n - (intOf i).toNat)
    case atStart => exact ⟨0, Nat.zero_le _, rfl, by simp [strSum], by simp [strSum]; omega⟩
    case round =>
      obtain ⟨k, hk, rfl, rfl, hs⟩ := hrel
      by_cases hlt2 : k < n
      · obtain ⟨x, hx⟩ : ∃ x, xs[k]? = some x := ⟨_, List.getElem?_eq_getElem (by have := HN.out; omega)⟩
        obtain ⟨b, o, rfl, hbl, hc⟩ := H3.out k x hx
        have c0 := hc 0 _ rfl
        simp only [Nat.add_zero, Nat.mul_one] at c0
        have HS1 := Lib.hid (strSum_take hx)
        have hxl := HF.out x (List.mem_of_getElem? hx)
        have hsz := tv_size x
        clear hc hx
        by_cases hfit : (x.length : Int) ≤ left - n - strSum (xs.take k)
        · go_wp2
          go_round
          case rel => exact ⟨k + 1, by omega, by go_num, by have := HS1.out; first | (congr 1; omega) | (simp; omega), by have := HS1.out; omega⟩
          case measure => simp [intOf]; omega
        · go_wp2
          go_ret
          exact ⟨ret_int (szv_neg (by have := HS1.out; have := HN.out; have := strSum_take_le xs (k + 1); omega)).symm, rfl⟩
      · go_wp2
        go_ret
        have hall : strSum (xs.take k) = strSum xs := strSum_all (by have := HN.out; omega)
        rw [hall] at hs ⊢
        exact ⟨ret_int (by rw [szv_pos (by omega)]; omega), rfl⟩
end Go.Proofs.YtojknkpjnchchaaGreatDoor
namespace Go.Proofs.YtojknkpjnchchaaGreatDoor
open Go.ChangeShapes Go.WideShapes Go.RowKit
set_option linter.all false
set_option maxRecDepth 100000
attribute [local go_sem ↓] Go.wp_at_zero Go.wp_at_succ

/-- Decimal digits, in front of a text. -/
def digs (n : Nat) (acc : Txt) : Txt := if h : n = 0 then acc else digs (n / 10) (UInt8.ofNat (48 + n % 10) :: acc)
termination_by n
decreasing_by omega
def mtext (q : Int) : Txt := 109 :: digs q.toNat []
theorem digs_step {n : Nat} (h : 0 < n) (acc : Txt) : digs n acc = digs (n / 10) (UInt8.ofNat (48 + n % 10) :: acc) := by rw [digs, dif_neg (by omega)]
theorem digs_zero (acc : Txt) : digs 0 acc = acc := by rw [digs, dif_pos rfl]

theorem cat_one (b : UInt8) (x : Txt) : Value.string (ByteArray.mk #[b] ++ ByteArray.mk x.toArray) = tv (b :: x) := by
  congr 1

set_option maxHeartbeats 1000000 in
theorem markText_c (q : Int) (w : World) (hq : 1 ≤ q ∧ q ≤ 100000000) : Calls Tryz.prog 122 #[.int .i64 q] w fun e w' => e = .returned (tv (mtext q)) ∧ Below w.heap.size w w' := by
  go_enter Tryz.func122, Tryz.ntmps122
  go_wp2
  go_loopw [0, 3] (fun t out wr => ∃ (n : Nat) (acc : Txt), t = .int .i64 n ∧ out = tv acc ∧ Hid (digs n acc = digs q.toNat []) ∧ Hid (n * 10 ^ acc.length ≤ 100000000) ∧ acc.length ≤ 10 ∧ Below w.heap.size w wr) (fun t _ _ => (intOf t).toNat)
  case atStart => exact ⟨q.toNat, [], by simp [Int.toNat_of_nonneg (show 0 ≤ q by omega)], rfl, rfl, by simp [Hid]; omega, by simp, bref _⟩
  case round =>
    obtain ⟨n, acc, rfl, rfl, hd, hn, hla, hb⟩ := hrel
    by_cases hlt : 0 < n
    · have hacc : acc.length ≤ 8 := by
        have h1 := hn.out
        apply Classical.byContradiction
        intro hc
        have h2 : 10 ^ 9 ≤ 10 ^ acc.length := Nat.pow_le_pow_right (by decide) (by omega)
        have h3 : 1 * 10 ^ acc.length ≤ n * 10 ^ acc.length := Nat.mul_le_mul_right _ hlt
        omega
      have hnb : n ≤ 100000000 := by
        have h1 := hn.out
        have h3 : n * 1 ≤ n * 10 ^ acc.length := Nat.mul_le_mul_left _ (Nat.pow_pos (by decide))
        omega
      have hm0 : 0 ≤ (n : Int) % 10 := by omega
      have hm1 : (n : Int) % 10 ≤ 9 := by omega
      have hcv : (convert 47 9 (.slice (some ⟨wr.heap.size, 0, none⟩) 1 1)).run Tryz.prog (wr.alloc (.cells #[.int .u8 (48 + (n : Int) % 10)] 5)) = .ok (.string ⟨#[UInt8.ofNat (48 + n % 10)]⟩) (wr.alloc (.cells #[.int .u8 (48 + (n : Int) % 10)] 5)) :=
        run_convert_bytes_back _ 47 9 5 ⟨wr.heap.size, 0, none⟩ 1 [UInt8.ofNat (48 + n % 10)] Tryz.underlying47 Tryz.underlying5 Tryz.underlying9 (fun j hj => by
          have hj0 : j = 0 := by simp at hj; exact hj
          subst hj0
          have hb9 : (UInt8.ofNat (48 + n % 10)).toNat = 48 + n % 10 := by simp; omega
          have := cell_of_row (wr.alloc (.cells #[.int .u8 (48 + (n : Int) % 10)] 5)) wr.heap.size 0 _ _ (0, 0) (heap_alloc_new wr _)
          simp only [List.getElem_cons_zero, hb9]
          refine Eq.trans this ?_
          simp)
      have hz9 : (9223372036854775807 < 1 + acc.length) = False := by simp; omega
      have hd' := hd.out
      rw [digs_step hlt] at hd'
      generalize UInt8.ofNat (48 + n % 10) = bb at hcv hd'
      have HD := Lib.hid hd'
      have hn' : n / 10 * 10 ^ (bb :: acc).length ≤ 100000000 := by
        have h1 := hn.out
        rw [List.length_cons, Nat.pow_succ, Nat.mul_comm (10 ^ _) 10, ← Nat.mul_assoc]
        exact Nat.le_trans (Nat.mul_le_mul_right _ (Nat.div_mul_le_self n 10)) h1
      have HN := Lib.hid hn'
      clear hd hd' hn hn'
      go_wp2
      go_roundw
      case rel => exact ⟨n / 10, bb :: acc, by first | (push_cast; rfl) | go_num, cat_one _ _, HD.out, HN.out, by simp; omega, hb.alloc hb.size _⟩
      case measure => simp [intOf]; omega
    · have hn0 : n = 0 := by omega
      subst hn0
      have hz9 : (9223372036854775807 < 1 + acc.length) = False := by
        simp; omega
      have hd' := hd.out
      rw [digs_zero] at hd'
      have HD := Lib.hid hd'
      clear hd hd'
      go_wp2
      go_ret
      exact ⟨by rw [cat_one, HD.out]; rfl, hb⟩

def marksS (q : Int) (n : Nat) : List Txt := (List.range n).map fun i => mtext (q + (i : Nat))
theorem marksS_len (q : Int) (n : Nat) : (marksS q n).length = n := by simp [marksS]
theorem marksS_get (q : Int) (n k : Nat) (h : k < n) : (marksS q n)[k]? = some (mtext (q + k)) := by simp [marksS, h]

set_option maxHeartbeats 1000000 in
theorem markStringS_c (xs : List Txt) (v : Value) (q : Int) (base : Nat) (w : World) (hx : OwS base w v xs) (hq : 1 ≤ q ∧ q ≤ 50000000) (hl : xs.length ≤ 2000000) : Calls Tryz.prog 123 #[v, .int .i64 q] w fun e w' =>
    e = .returned (.int .i64 (q + xs.length)) ∧ OwS base w' v (marksS q xs.length) ∧ (∀ g, v.ownBlock = some g → w.grownBy w' (some g)) ∧ (v.ownBlock = none → w = w') := by
  rcases hx.2 with ⟨rfl, hn⟩ | ⟨g, c, cur, rfl, -⟩
  · have : xs = [] := List.eq_nil_of_length_eq_zero hn
    subst this
    go_enter Tryz.func123, Tryz.ntmps123
    go_wp2
    refine wp_loop_rounds 1 ?_
    rw [rounds_succ]
    go_wp2
    go_ret
    exact ⟨by simp, World.ownsRow_nil _ _ _ _, by simp [Value.ownBlock], fun _ => rfl⟩
  have hml := marksS_len q xs.length
  have HML := Lib.hid hml
  have hx0 : OwS base w (.slice (some ⟨g, 0, none⟩) xs.length c) (markedBy (marksS q xs.length) xs 0) := by rw [markedBy_zero]; exact hx
  clear hx hml
  go_enter Tryz.func123, Tryz.ntmps123
  go_wp2
  go_loopw [1, 5] (fun t i wr => ∃ k : Nat, k ≤ xs.length ∧ i = .int .i64 k ∧ t = .int .i64 (q + k) ∧ w.grownBy wr (some g) ∧ OwS base wr (.slice (some ⟨g, 0, none⟩) xs.length c) (markedBy (marksS q xs.length) xs k)) (fun _ i _ => xs.length - (intOf i).toNat)
  case atStart => exact ⟨0, Nat.zero_le _, rfl, by simp, World.grownBy.refl _ _, hx0⟩
  case round =>
    obtain ⟨k, hk, rfl, rfl, hg, hok⟩ := hrel
    by_cases hlt : k < xs.length
    · have HG := Lib.hid hg
      have HOK0 := Lib.hid hok
      clear hg hok
      go_wp2_with fail
      refine (markText_c (q + k) _ (by omega)).mono ?_
      rintro e w1 ⟨rfl, hb1⟩
      have hok := HOK0.out.below hb1
      have HG1 := Lib.hid (grown_then HG.out hb1)
      obtain ⟨e0, e1, e2, e3, e4, hfz, hcs⟩ := hok.open encS_len
      obtain ⟨z, hz⟩ : ∃ z, (markedBy (marksS q xs.length) xs k)[k]? = some z := ⟨_, List.getElem?_eq_getElem (by omega)⟩
      have d0 := hcs k z 0 _ hz rfl
      have f0 := hfz k
      simp only [Nat.add_zero, Nat.mul_one] at d0
      have HOK := Lib.hid hok
      have HE0 := Lib.hid e0
      unfold maxLen at e4
      clear hz hcs hfz hok e0 HOK0 HG hb1
      go_wp2
      have hok2 := HOK.out.stored1 encS_len k (mtext (q + k)) _ (by have := HE0.out; omega) rfl
      rw [markedBy_step _ _ _ _ HML.out (marksS_get q _ k hlt)] at hok2
      go_roundw
      case rel => exact ⟨k + 1, by omega, by go_num, by go_num, grown_set HG1.out _ _, hok2⟩
      case measure => simp [intOf]; omega
    · go_wp2
      go_ret
      have h3 : k = xs.length := by omega
      refine ⟨ret_int (by omega), ?_, ?_, ?_⟩
      · have hl := HML.out
        rw [h3, markedBy_all _ _ hl] at hok
        unfold OwS OwT at hok ⊢
        rw [hl] at hok ⊢
        exact hok
      · intro g' hg'
        simp [Value.ownBlock] at hg'
        subst hg'
        exact hg
      · simp [Value.ownBlock]

set_option maxHeartbeats 1000000 in
theorem idxStr_c (g : Nat) (lb : Array Value) (ps : List Bool) (xs : List Txt) (v : Value) (w : World) (hl : ps.length = xs.length) (hx : RdT encS 1 w v xs)
    (hg : ∀ (args : Array Value) (w : World), (callFunc g args).run Tryz.prog w = .ok (.enter g args) w)
    (hp : ∀ (k : Nat) (m : Txt) (p : Bool) W, xs[k]? = some m → ps[k]? = some p → Below w.heap.size w W → Calls Tryz.prog g (#[tv m] ++ lb) W fun e W' => e = .returned (.bool p) ∧ Below W.heap.size W W') :
    Calls Tryz.prog 161 #[v, .func (.func g) #[] lb] w fun e w' =>
    e = .returned (.int .i64 (idxOf id ps)) ∧ Below w.heap.size w w' := by
  obtain ⟨a, c, rfl, h1, h2, -, h3⟩ := hx
  have H3 := Lib.hid h3
  have HP := Lib.hid hp
  have HL := Lib.hid hl
  clear h3 hp hl
  unfold maxLen at h2
  go_enter Tryz.func161, Tryz.ntmps161
  go_wp2
  go_loopw [8] (fun i wr => ∃ k : Nat, k ≤ xs.length ∧ i = .int .i64 k ∧ Below w.heap.size w wr ∧ Hid ((ps.take k).any id = false)) (fun i _ => xs.length - (intOf i).toNat)
  case atStart => exact ⟨0, Nat.zero_le _, rfl, Below.refl _ _, by simp [Hid]⟩
  case round =>
    obtain ⟨k, hk, rfl, hb, heq⟩ := hrel
    by_cases hlt : k < xs.length
    · obtain ⟨m, hm⟩ : ∃ m, xs[k]? = some m := ⟨_, List.getElem?_eq_getElem hlt⟩
      obtain ⟨p, hpk⟩ : ∃ p, ps[k]? = some p := ⟨_, List.getElem?_eq_getElem (by rw [HL.out]; exact hlt)⟩
      obtain ⟨b, o, rfl, hbl, hc⟩ := H3.out k m hm
      have c0 := (hb.cell (p := ⟨b, o + k * 1 + 0, none⟩) hbl).trans (hc 0 _ rfl)
      simp only [Nat.add_zero, Nat.mul_one] at c0
      have HM := Lib.hid hm
      have HQ := Lib.hid hpk
      clear hc hm hpk
      cases p
      all_goals
        go_wp2_with fail
        refine (HP.out k m _ _ HM.out HQ.out hb).mono ?_
        rintro e w' ⟨rfl, hb2⟩
        have hb3 := hb.trans (hb2.mono hb.size)
        go_wp2
      · go_roundw
        case rel => exact ⟨k + 1, by omega, by go_num, hb3, any_take_succ HQ.out heq rfl⟩
        case measure => simp [intOf]; omega
      · go_ret
        exact ⟨ret_int (idxOf_at HQ.out heq rfl).symm, hb3⟩
    · go_wp2
      go_ret
      exact ⟨ret_int (idxOf_none (k := k) (by rw [HL.out]; omega) heq.out).symm, hb⟩

theorem hasStr_c (g : Nat) (lb : Array Value) (ps : List Bool) (xs : List Txt) (v : Value) (w : World) (hl : ps.length = xs.length) (hx : RdT encS 1 w v xs)
    (hg : ∀ (args : Array Value) (w : World), (callFunc g args).run Tryz.prog w = .ok (.enter g args) w)
    (hp : ∀ (k : Nat) (m : Txt) (p : Bool) W, xs[k]? = some m → ps[k]? = some p → Below w.heap.size w W → Calls Tryz.prog g (#[tv m] ++ lb) W fun e W' => e = .returned (.bool p) ∧ Below W.heap.size W W') :
    Calls Tryz.prog 144 #[v, .func (.func g) #[] lb] w fun e w' =>
    e = .returned (.bool (ps.any id)) ∧ Below w.heap.size w w' := by
  have HL := Lib.hid hl
  have HG := Lib.hid hg
  have HP := Lib.hid hp
  clear hg hp hl
  have hid : decide (0 ≤ idxOf id ps) = ps.any id := by unfold idxOf; cases ps.any id <;> simp
  have HD := Lib.hid hid
  clear hid
  go_enter Tryz.func144, Tryz.ntmps144
  go_wp2_with (go_at_call 161; refine (idxStr_c g lb ps xs v _ HL.out hx HG.out HP.out).mono ?_; rintro e w' ⟨rfl, hb⟩)
  go_ret
  exact ⟨ret_bool HD.out, hb⟩

theorem cloneStr_c (xs : List Txt) (v : Value) (w : World) (hx : RdT encS 1 w v xs) (hl : xs.length ≤ 2000000) :
    Calls Tryz.prog 71 #[v] w fun e w' => ∃ u, e = .returned u ∧ OwT encS 1 9 w.heap.size w' u xs ∧ Below w.heap.size w w' := by
  have hx' := Lib.hid hx
  obtain ⟨a, c, rfl, h1, h2, h0, h3⟩ := hx
  cases a with
  | none =>
    have hc := h0 rfl
    subst hc
    have hy : xs = [] := List.eq_nil_of_length_eq_zero (by omega)
    subst hy
    have he := fun w => Lib.run_eql_slice_nil (P := Tryz.prog) w 53
    go_enter Tryz.func71, Tryz.ntmps71
    go_wp2
    go_ret
    exact ⟨_, rfl, World.ownsRow_nil _ _ _ _, Below.refl _ _⟩
  | some ad =>
    have he := fun w => Lib.run_eql_slice_nil (P := Tryz.prog) w 53
    clear h3 h0
    go_enter Tryz.func71, Tryz.ntmps71
    go_wp2_with (at_builtin; refine append_T eltStr rfl _ _ rfl w.heap.size (.slice (some ⟨w.heap.size, 0, none⟩) 0 0) (.slice (some ad) xs.length c) [] xs rfl rfl (OwT.lit eltStr _ #[] [] rfl (by simp)) (hx'.out.below ((Below.refl _ _).alloc (Nat.le_refl _) _)) (by simp; omega) (by simp) ?_; intro v' w' ho hg hat hnil)
    go_ret
    exact ⟨_, rfl, ho, ((Below.refl _ _).alloc (Nat.le_refl _) _).grown hg (by simp) (by simp [Value.ownBlock])⟩

end Go.Proofs.YtojknkpjnchchaaGreatDoor
namespace Go.Proofs.YtojknkpjnchchaaGreatDoor
open Go.ChangeShapes Go.WideShapes Go.RowKit
set_option linter.all false
set_option maxRecDepth 100000
attribute [local go_sem ↓] Go.wp_at_zero Go.wp_at_succ

def encI (x : Int) : List Value := [.int .i64 x]
abbrev RdI := RdT encI 1
abbrev OwI := OwT encI 1 3
theorem encI_len (x : Int) : (encI x).length = 1 := rfl
theorem infoInt : (Tryz.prog.info? 3).map (fun i => (i.zero, i.size, i.bytes)) = some (some (.int .i64 0), 1, 8) := by kernel_rfl
theorem eltInt : Elt Tryz.prog encI 1 3 41 (0 : Int) := by
  obtain ⟨i0, hi, hz0, hz1, hz2⟩ := info_parts infoInt
  refine ⟨encI_len, by decide, ?_, Tryz.underlying41, i0, _, hi, hz0, hz1, by omega, rfl⟩
  intro x u hu
  simp [encI] at hu
  subst hu; rfl

set_option maxHeartbeats 1000000 in
theorem eqIntS_c (xs ys : List Int) (v u : Value) (w : World) (hx : RdT encI 1 w v xs) (hy : RdT encI 1 w u ys) : Calls Tryz.prog 16 #[v, u] w fun e w' =>
    e = .returned (.bool (decide (xs = ys))) ∧ Below w.heap.size w w' := by
  obtain ⟨a, c, rfl, h1, h2, -, h3⟩ := hx
  obtain ⟨a', c', rfl, h1', h2', -, h3'⟩ := hy
  unfold maxLen at h2 h2'
  by_cases hn : xs.length = ys.length
  · have HN := Lib.hid hn
    obtain ⟨n, hn1⟩ : ∃ n, n = xs.length := ⟨_, rfl⟩
    have hn2 : ys.length = n := by omega
    rw [← hn1, hn2]
    have HN1 := Lib.hid hn1
    have HN2 := Lib.hid hn2
    have hnc : n ≤ c := by omega
    have hnc' : n ≤ c' := by omega
    clear hn hn1 hn2 h1 h1'
    have H3 := Lib.hid h3
    have H3' := Lib.hid h3'
    clear h3 h3'
    go_enter Tryz.func16, Tryz.ntmps16
    go_wp2
    go_loopw [5] (fun i wr => ∃ k : Nat, k ≤ n ∧ i = .int .i64 k ∧ Below w.heap.size w wr ∧ Hid (xs.take k = ys.take k)) (fun i _ => n - (intOf i).toNat)
    case atStart => exact ⟨0, Nat.zero_le _, rfl, Below.refl _ _, rfl⟩
    case round =>
      obtain ⟨k, hk, rfl, hb, heq⟩ := hrel
      by_cases hlt : k < n
      · obtain ⟨m, hm⟩ : ∃ m, xs[k]? = some m := ⟨_, List.getElem?_eq_getElem (by have := HN1.out; omega)⟩
        obtain ⟨p, hp⟩ : ∃ m, ys[k]? = some m := ⟨_, List.getElem?_eq_getElem (by have := HN2.out; omega)⟩
        obtain ⟨b, o, rfl, hbl, hc⟩ := H3.out k m hm
        obtain ⟨b', o', rfl, hbl', hc'⟩ := H3'.out k p hp
        have hk0 : (0 : Int) ≤ (k : Int) := by omega
        have hkn : (k : Int) < (n : Int) := by omega
        have c0 := (hb.cell (p := ⟨b, o + k * 1 + 0, none⟩) hbl).trans (hc 0 _ rfl)
        have d0 := (hb.cell (p := ⟨b', o' + k * 1 + 0, none⟩) hbl').trans (hc' 0 _ rfl)
        simp only [Nat.add_zero, Nat.mul_one] at c0 d0
        have HM := Lib.hid hm
        have HP := Lib.hid hp
        clear hc hc' hm hp
        by_cases hmp : m = p
        all_goals
          have HE := Lib.hid hmp
          first | have he := Lib.hid (decide_eq_false hmp) | have he := Lib.hid (decide_eq_true hmp)
          first | have hne : (m != p) = true := bne_iff_ne.2 hmp | have hne : (m != p) = false := by simp [hmp]
          clear hmp
          go_wp2
          go_still_tail 8, (by kernel_rfl)
          change wpList _ _ _ _ _ wr.drew
          have hb3 := hb.drew
          go_wp2
        · go_roundw
          case rel => exact ⟨k + 1, by omega, by go_num, hb3, take_eq_succ HM.out HP.out heq HE.out⟩
          case measure => simp [intOf]; omega
        · go_ret
          exact ⟨ret_bool (by rw [eq_comm, decide_eq_false_iff_not]; exact ne_of_get HM.out HP.out HE.out), hb3⟩
      · go_wp2
        go_ret
        refine ⟨ret_bool ?_, hb⟩
        have h1 := HN1.out
        have h2 := HN2.out
        have h3 : k = n := by omega
        have h4 := heq.out
        rw [List.take_of_length_le (by omega), List.take_of_length_le (by omega)] at h4
        simp [h4]
  · go_enter Tryz.func16, Tryz.ntmps16
    go_wp2
    go_ret
    exact ⟨ret_bool (by rw [eq_comm, decide_eq_false_iff_not]; rintro rfl; exact hn rfl), Below.refl _ _⟩


/-- The marks that a loop lays over integers: from q on. -/
def marksI (q : Int) (n : Nat) : List Int := (List.range n).map fun i => q + (i : Nat)
theorem marksI_len (q : Int) (n : Nat) : (marksI q n).length = n := by simp [marksI]
theorem marksI_get (q : Int) (n k : Nat) (h : k < n) : (marksI q n)[k]? = some (q + k) := by simp [marksI, h]
theorem markIntS_c (xs : List Int) (v : Value) (q : Int) (base : Nat) (w : World) (hx : OwI base w v xs) (hq : 0 ≤ q ∧ q ≤ 100000000) (hl : xs.length ≤ 2000000) : Calls Tryz.prog 18 #[v, .int .i64 q] w fun e w' =>
    e = .returned (.int .i64 (q + xs.length)) ∧ OwI base w' v (marksI q xs.length) ∧ (∀ g, v.ownBlock = some g → w.grownBy w' (some g)) ∧ (v.ownBlock = none → w = w') := by
  rcases hx.2 with ⟨rfl, hn⟩ | ⟨g, c, cur, rfl, -⟩
  · have : xs = [] := List.eq_nil_of_length_eq_zero hn
    subst this
    go_enter Tryz.func18, Tryz.ntmps18
    go_wp2
    refine wp_loop_rounds 1 ?_
    rw [rounds_succ]
    go_wp2
    go_ret
    exact ⟨by simp, World.ownsRow_nil _ _ _ _, by simp [Value.ownBlock], fun _ => rfl⟩
  have hml := marksI_len q xs.length
  have HML := Lib.hid hml
  have hx0 : OwI base w (.slice (some ⟨g, 0, none⟩) xs.length c) (markedBy (marksI q xs.length) xs 0) := by rw [markedBy_zero]; exact hx
  clear hx hml
  go_enter Tryz.func18, Tryz.ntmps18
  go_wp2
  go_loopw [1, 5] (fun t i wr => ∃ k : Nat, k ≤ xs.length ∧ i = .int .i64 k ∧ t = .int .i64 (q + k) ∧ w.grownBy wr (some g) ∧ OwI base wr (.slice (some ⟨g, 0, none⟩) xs.length c) (markedBy (marksI q xs.length) xs k)) (fun _ i _ => xs.length - (intOf i).toNat)
  case atStart => exact ⟨0, Nat.zero_le _, rfl, by simp, World.grownBy.refl _ _, hx0⟩
  case round =>
    obtain ⟨k, hk, rfl, rfl, hg, hok⟩ := hrel
    obtain ⟨e0, e1, e2, e3, e4, hfz, hcs⟩ := hok.open encI_len
    by_cases hlt : k < xs.length
    · obtain ⟨z, hz⟩ : ∃ z, (markedBy (marksI q xs.length) xs k)[k]? = some z := ⟨_, List.getElem?_eq_getElem (by omega)⟩
      have d0 := hcs k z 0 _ hz rfl
      have f0 := hfz k
      simp only [Nat.add_zero, Nat.mul_one] at d0
      have HOK := Lib.hid hok
      have HE0 := Lib.hid e0
      clear hz hcs hfz hok e0
      go_wp2
      have hok2 := HOK.out.stored1 encI_len k (q + k) _ (by have := HE0.out; omega) rfl
      rw [markedBy_step _ _ _ _ HML.out (marksI_get q _ k hlt)] at hok2
      go_roundw
      case rel => exact ⟨k + 1, by omega, by go_num, by go_num, grown_set hg _ _, hok2⟩
      case measure => simp [intOf]; omega
    · clear hcs hfz e0
      go_wp2
      go_ret
      have h3 : k = xs.length := by omega
      refine ⟨ret_int (by omega), ?_, ?_, ?_⟩
      · have hl := HML.out
        rw [h3, markedBy_all _ _ hl] at hok
        unfold OwI OwT at hok ⊢
        rw [hl] at hok ⊢
        exact hok
      · intro g' hg'
        simp [Value.ownBlock] at hg'
        subst hg'
        exact hg
      · simp [Value.ownBlock]

theorem heldIntS_c (n : Nat) (v : Value) (q : Int) (w : World) (hx : RdI w v (marksI q n)) (hq : 0 ≤ q ∧ q ≤ 100000000) (hl : n ≤ 2000000) : Calls Tryz.prog 19 #[v, .int .i64 q] w fun e w' =>
    e = .returned (.int .i64 (q + n)) ∧ w = w' := by
  obtain ⟨a, c, rfl, h1, h2, -, h3⟩ := hx
  rw [marksI_len] at h1 ⊢
  have H3 := Lib.hid h3
  clear h3
  unfold maxLen at h2
  go_enter Tryz.func19, Tryz.ntmps19
  go_wp2
  go_loop [1, 5] (fun t i => ∃ k : Nat, k ≤ n ∧ i = .int .i64 k ∧ t = .int .i64 (q + k)) (fun _ i => n - (intOf i).toNat)
  case atStart => exact ⟨0, Nat.zero_le _, rfl, by simp⟩
  case round =>
    obtain ⟨k, hk, rfl, rfl⟩ := hrel
    by_cases hlt : k < n
    · obtain ⟨b, o, rfl, hbl, hc⟩ := H3.out k _ (marksI_get q n k hlt)
      have c0 : w.cell? ⟨b, o + k, none⟩ = some (.int .i64 (q + k)) := by have := hc 0 _ rfl; simpa using this
      clear hc
      go_wp2
      go_round
      case rel => exact ⟨k + 1, by omega, by go_num, by go_num⟩
      case measure => simp [intOf]; omega
    · go_wp2
      go_ret
      exact ⟨ret_int (by omega), rfl⟩
end Go.Proofs.YtojknkpjnchchaaGreatDoor
namespace Go.Proofs.YtojknkpjnchchaaGreatDoor
open Go.ChangeShapes Go.WideShapes Go.RowKit
set_option linter.all false
set_option maxRecDepth 100000
attribute [local go_sem ↓] Go.wp_at_zero Go.wp_at_succ

theorem within_c (n a b : Int) (w : World) : Calls Tryz.prog 105 #[.int .i64 n, .int .i64 a, .int .i64 b] w fun e w' => e = .returned (.bool (btw a n b)) ∧ w = w' := by
  go_enter Tryz.func105, Tryz.ntmps105
  go_wp2
  all_goals go_ret
  all_goals exact ⟨ret_bool (by simp [btw]; try omega), rfl⟩

theorem l6In_c (n a b : Int) (w : World) : Calls Tryz.prog 86 #[.int .i64 n, .int .i64 a, .int .i64 b] w fun e w' => e = .returned (.bool (btw a n b)) ∧ w = w' := by
  go_enter Tryz.func86, Tryz.ntmps86
  go_wp2
  all_goals go_ret
  all_goals exact ⟨ret_bool (by simp [btw]; try omega), rfl⟩

end Go.Proofs.YtojknkpjnchchaaGreatDoor
namespace Go.Proofs.YtojknkpjnchchaaGreatDoor
open Go.ChangeShapes Go.WideShapes Go.RowKit
set_option linter.all false
set_option maxRecDepth 100000
attribute [local go_sem ↓] Go.wp_at_zero Go.wp_at_succ

theorem isWord_c (n : Int) (w : World) : Calls Tryz.prog 137 #[.int .i64 n] w fun e w' => e = .returned (.bool (btw 0 n 9999)) ∧ w = w' := by
  go_enter Tryz.func137, Tryz.ntmps137
  go_wp2_with (go_at_call 105; refine (within_c _ _ _ _).mono ?_; rintro e w' ⟨rfl, rfl⟩)
  go_ret
  exact ⟨rfl, rfl⟩

set_option maxHeartbeats 1000000 in
theorem idxInt_c (g : Nat) (lb : Array Value) (ps : List Bool) (xs : List Int) (v : Value) (w : World) (hl : ps.length = xs.length) (hx : RdT encI 1 w v xs)
    (hg : ∀ (args : Array Value) (w : World), (callFunc g args).run Tryz.prog w = .ok (.enter g args) w)
    (hp : ∀ (k : Nat) (m : Int) (p : Bool) W, xs[k]? = some m → ps[k]? = some p → Below w.heap.size w W → Calls Tryz.prog g (#[.int .i64 m] ++ lb) W fun e W' => e = .returned (.bool p) ∧ Below W.heap.size W W') :
    Calls Tryz.prog 143 #[v, .func (.func g) #[] lb] w fun e w' =>
    e = .returned (.int .i64 (idxOf id ps)) ∧ Below w.heap.size w w' := by
  obtain ⟨a, c, rfl, h1, h2, -, h3⟩ := hx
  have H3 := Lib.hid h3
  have HP := Lib.hid hp
  have HL := Lib.hid hl
  clear h3 hp hl
  unfold maxLen at h2
  go_enter Tryz.func143, Tryz.ntmps143
  go_wp2
  go_loopw [8] (fun i wr => ∃ k : Nat, k ≤ xs.length ∧ i = .int .i64 k ∧ Below w.heap.size w wr ∧ Hid ((ps.take k).any id = false)) (fun i _ => xs.length - (intOf i).toNat)
  case atStart => exact ⟨0, Nat.zero_le _, rfl, Below.refl _ _, by simp [Hid]⟩
  case round =>
    obtain ⟨k, hk, rfl, hb, heq⟩ := hrel
    by_cases hlt : k < xs.length
    · obtain ⟨m, hm⟩ : ∃ m, xs[k]? = some m := ⟨_, List.getElem?_eq_getElem hlt⟩
      obtain ⟨p, hpk⟩ : ∃ p, ps[k]? = some p := ⟨_, List.getElem?_eq_getElem (by rw [HL.out]; exact hlt)⟩
      obtain ⟨b, o, rfl, hbl, hc⟩ := H3.out k m hm
      have c0 := (hb.cell (p := ⟨b, o + k * 1 + 0, none⟩) hbl).trans (hc 0 _ rfl)
      simp only [Nat.add_zero, Nat.mul_one] at c0
      have HM := Lib.hid hm
      have HQ := Lib.hid hpk
      clear hc hm hpk
      cases p
      all_goals
        go_wp2_with fail
        refine (HP.out k m _ _ HM.out HQ.out hb).mono ?_
        rintro e w' ⟨rfl, hb2⟩
        have hb3 := hb.trans (hb2.mono hb.size)
        go_wp2
      · go_roundw
        case rel => exact ⟨k + 1, by omega, by go_num, hb3, any_take_succ HQ.out heq rfl⟩
        case measure => simp [intOf]; omega
      · go_ret
        exact ⟨ret_int (idxOf_at HQ.out heq rfl).symm, hb3⟩
    · go_wp2
      go_ret
      exact ⟨ret_int (idxOf_none (k := k) (by rw [HL.out]; omega) heq.out).symm, hb⟩

theorem hasInt_c (g : Nat) (lb : Array Value) (ps : List Bool) (xs : List Int) (v : Value) (w : World) (hl : ps.length = xs.length) (hx : RdT encI 1 w v xs)
    (hg : ∀ (args : Array Value) (w : World), (callFunc g args).run Tryz.prog w = .ok (.enter g args) w)
    (hp : ∀ (k : Nat) (m : Int) (p : Bool) W, xs[k]? = some m → ps[k]? = some p → Below w.heap.size w W → Calls Tryz.prog g (#[.int .i64 m] ++ lb) W fun e W' => e = .returned (.bool p) ∧ Below W.heap.size W W') :
    Calls Tryz.prog 106 #[v, .func (.func g) #[] lb] w fun e w' =>
    e = .returned (.bool (ps.any id)) ∧ Below w.heap.size w w' := by
  have HL := Lib.hid hl
  have HG := Lib.hid hg
  have HP := Lib.hid hp
  clear hg hp hl
  have hid : decide (0 ≤ idxOf id ps) = ps.any id := by unfold idxOf; cases ps.any id <;> simp
  have HD := Lib.hid hid
  clear hid
  go_enter Tryz.func106, Tryz.ntmps106
  go_wp2_with (go_at_call 143; refine (idxInt_c g lb ps xs v _ HL.out hx HG.out HP.out).mono ?_; rintro e w' ⟨rfl, hb⟩)
  go_ret
  exact ⟨ret_bool HD.out, hb⟩

/-- The words of a frame. -/
def wordsOk (xs : List Int) : Bool := decide (xs.length = 4) && !(xs.any fun x => !btw 0 x 9999)
theorem wordsOk_len {xs : List Int} (h : wordsOk xs = true) : xs.length = 4 := by simp [wordsOk] at h; exact h.1

theorem isWords1_c (n : Int) (w : World) : Calls Tryz.prog 136 #[.int .i64 n] w fun e w' => e = .returned (.bool (!btw 0 n 9999)) ∧ Below w.heap.size w w' := by
  go_enter Tryz.func136, Tryz.ntmps136
  go_wp2_with (go_at_call 137; refine (isWord_c _ _).mono ?_; rintro e w' ⟨rfl, rfl⟩)
  go_ret
  exact ⟨rfl, bref _⟩

theorem isWords_c (xs : List Int) (v : Value) (w : World) (hx : RdI w v xs) :
    Calls Tryz.prog 97 #[v] w fun e w' => e = .returned (.bool (wordsOk xs)) ∧ Below w.heap.size w w' := by
  have hx' := hx
  obtain ⟨a, c, rfl, h1, h2, -, h3⟩ := hx
  unfold maxLen at h2
  have HX := Lib.hid hx'
  unfold wordsOk
  generalize hq : (xs.any fun x => !btw 0 x 9999) = q
  have HQ := Lib.hid hq
  clear hx' h3 hq
  by_cases h8 : xs.length = 4
  · have h8g : ((xs.length : Int) == 4) = true := by rw [beq_iff_eq]; omega
    have hp : ∀ (k : Nat) (m : Int) (p : Bool) W, xs[k]? = some m → (xs.map fun x => !btw 0 x 9999)[k]? = some p → Below w.heap.size w W → Calls Tryz.prog 136 (#[.int .i64 m] ++ #[]) W fun e W' => e = .returned (.bool p) ∧ Below W.heap.size W W' := by
      intro k m p W hm hp _
      have := get_map hm hp
      subst this
      exact isWords1_c m W
    have HPP := Lib.hid hp
    have HLL := Lib.hid (show (xs.map fun x => !btw 0 x 9999).length = xs.length by simp)
    clear hp
    have HE := enters_of (P := Tryz.prog) (f := 136) Tryz.func136 (by kernel_rfl) rfl
    have HC := Lib.hid (hasInt_c 136 #[] (xs.map fun x => !btw 0 x 9999) xs (.slice a xs.length c) w HLL.out HX.out HE HPP.out)
    have H8 := Lib.hid h8
    clear HE h8
    go_enter Tryz.func97, Tryz.ntmps97
    go_wp2_with fail
    refine HC.out.mono ?_
    rintro e w' ⟨rfl, hb⟩
    rw [any_map_id, HQ.out]
    go_wp2
    go_ret
    exact ⟨ret_bool (by simp [H8.out]), hb⟩
  · have h8g : ((xs.length : Int) == 4) = false := by rw [beq_eq_false_iff_ne]; omega
    go_enter Tryz.func97, Tryz.ntmps97
    go_wp2
    go_ret
    exact ⟨ret_bool (by simp [h8]), Below.refl _ _⟩

theorem l2Words_c (xs : List Int) (v : Value) (w : World) (hx : RdI w v xs) :
    Calls Tryz.prog 82 #[v] w fun e w' => e = .returned (.bool (wordsOk xs)) ∧ Below w.heap.size w w' := by
  obtain ⟨a, c, rfl, h1, h2, -, h3⟩ := hx
  have H3 := Lib.hid h3
  clear h3
  unfold maxLen at h2
  go_enter Tryz.func82, Tryz.ntmps82
  go_wp2
  go_loopw [3] (fun i wr => ∃ k : Nat, k ≤ xs.length ∧ i = .int .i64 k ∧ Below w.heap.size w wr ∧ Hid ((xs.take k).any (fun x => !btw 0 x 9999) = false)) (fun i _ => xs.length - (intOf i).toNat)
  case atStart => exact ⟨0, Nat.zero_le _, rfl, Below.refl _ _, by simp [Hid]⟩
  case round =>
    obtain ⟨k, hk, rfl, hb, heq⟩ := hrel
    by_cases hlt : k < xs.length
    · obtain ⟨m, hm⟩ : ∃ m, xs[k]? = some m := ⟨_, List.getElem?_eq_getElem hlt⟩
      obtain ⟨b, o, rfl, hbl, hc⟩ := H3.out k m hm
      have c0 := (hb.cell (p := ⟨b, o + k * 1 + 0, none⟩) hbl).trans (hc 0 _ rfl)
      simp only [Nat.add_zero, Nat.mul_one] at c0
      have HM := Lib.hid hm
      clear hc hm
      cases hpm : btw 0 m 9999
      all_goals
        have HE := Lib.hid hpm
        clear hpm
        go_wp2_with (go_at_call 86; refine (l6In_c _ _ _ _).mono ?_; rintro e w' ⟨rfl, rfl⟩; rw [HE.out])
      · go_ret
        refine ⟨ret_bool ?_, hb⟩
        have : (xs.any fun x => !btw 0 x 9999) = true := List.any_eq_true.2 ⟨m, List.mem_of_getElem? HM.out, by simp [HE.out]⟩
        simp [wordsOk, this]
      · go_roundw
        case rel => exact ⟨k + 1, by omega, by go_num, hb, any_take_succ HM.out heq (by simp [HE.out])⟩
        case measure => simp [intOf]; omega
    · have hn : (xs.any fun x => !btw 0 x 9999) = false := by have := heq.out; rwa [List.take_of_length_le (by omega)] at this
      have HN := Lib.hid hn
      clear hn
      go_wp2
      go_ret
      exact ⟨ret_bool (by simp only [wordsOk, HN.out]; by_cases h4 : xs.length = 4 <;> simp [h4] <;> omega), hb⟩
end Go.Proofs.YtojknkpjnchchaaGreatDoor
