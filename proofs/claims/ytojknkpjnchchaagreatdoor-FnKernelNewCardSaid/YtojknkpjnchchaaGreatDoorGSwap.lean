/- Contracts of the helpers' loops over slices of integer slices. No conditions but the readings of the arguments. Contracts of the helpers' loops over slices of integer slices, part two. No conditions but the readings of the arguments. Contracts of the marks over slices of integer slices. No conditions but the readings of the arguments. Contracts of the checks of a swap. No conditions but the readings of the arguments. Contracts of the copies of slices of integer slices. No conditions but the readings of the arguments. -/
import Derived.Test.YtojknkpjnchchaaGreatDoorGStr
namespace Go.Proofs.YtojknkpjnchchaaGreatDoor
open Go.ChangeShapes Go.WideShapes Go.RowKit
set_option linter.all false
set_option maxRecDepth 100000
attribute [local go_sem ↓] Go.wp_at_zero Go.wp_at_succ

abbrev RdII := RdN encI 1
abbrev OwII := OwN encI 1 3 41
theorem infoSl : (Tryz.prog.info? 41).map (fun i => (i.zero, i.size, i.bytes)) = some (some (.slice none 0 0), 1, 24) := by kernel_rfl
theorem eltSl : Elt Tryz.prog encL 1 41 22 slN := by
  obtain ⟨i0, hi, hz0, hz1, hz2⟩ := info_parts infoSl
  refine ⟨encL_len, by decide, ?_, Tryz.underlying22, i0, _, hi, hz0, hz1, by omega, rfl⟩
  intro x u hu
  simp [encL] at hu
  subst hu; rfl
theorem neSl : 3 ≠ 41 := by decide

/-- How many integers there are. -/
def sumLen (xss : List (List Int)) : Nat := (xss.map List.length).sum
/-- What is left of a bound after slices of integers, or -1. -/
def szs : Int → List (List Int) → Int
  | left, [] => left
  | left, xs :: t => if szv left xs.length < 0 then -1 else szs (szv left xs.length) t

theorem szIntS_c (xs : List Int) (v : Value) (left : Int) (w : World) (h : RdI w v xs) (hl : 0 ≤ left ∧ left ≤ 1048576) : Calls Tryz.prog 79 #[v, .int .i64 left] w fun e w' =>
    e = .returned (.int .i64 (szv left xs.length)) ∧ w = w' := by
  obtain ⟨a, c, rfl, h1, h2, -⟩ := h
  generalize xs.length = n at *
  unfold maxLen at h2
  go_enter Tryz.func79, Tryz.ntmps79
  go_wp2
  all_goals go_ret
  all_goals exact ⟨ret_int (by unfold szv; split <;> first | rfl | omega), rfl⟩

theorem sum_take {xss : List (List Int)} {k : Nat} {xs : List Int} (h : xss[k]? = some xs) : sumLen (xss.take (k + 1)) = sumLen (xss.take k) + xs.length := by
  unfold sumLen
  rw [List.take_add_one, h]
  simp
theorem sum_take_le (xss : List (List Int)) (k : Nat) : sumLen (xss.take k) ≤ sumLen xss := by
  have h := congrArg sumLen (List.take_append_drop k xss)
  unfold sumLen at h ⊢
  rw [List.map_append, List.sum_append] at h
  omega
theorem sum_all {xss : List (List Int)} {k : Nat} (h : xss.length ≤ k) : sumLen (xss.take k) = sumLen xss := by rw [List.take_of_length_le h]

theorem toIntS_c (xs : List Int) (v : Value) (w : World) (hx : RdI w v xs) (hl : xs.length ≤ 1048576) : Calls Tryz.prog 91 #[v] w fun e w' =>
    ∃ u, e = .returned u ∧ OwI w.heap.size w' u xs ∧ Below w.heap.size w w' := by
  obtain ⟨a, c, rfl, h1, h2, -, h3⟩ := hx
  unfold maxLen at h2
  obtain ⟨n, hn1⟩ : ∃ n, n = xs.length := ⟨_, rfl⟩
  rw [← hn1] at h1 hl ⊢
  have HN := Lib.hid hn1
  have H3 := Lib.hid h3
  clear h3 hn1
  go_enter Tryz.func91, Tryz.ntmps91
  go_wp2_with (refine make_T eltInt rfl _ _ rfl n rfl rfl (by omega) ?_; intro w1 ho hb1)
  have hs1 := hb1.size
  have ho : OwI w.heap.size w1 (.slice (some ⟨w.heap.size, 0, none⟩) n n) (filled 0 xs 0) := by rw [filled_zero, ← HN.out]; exact ho
  go_wp2
  go_loopw [4] (fun i wr => ∃ k : Nat, k ≤ n ∧ i = .int .i64 k ∧ Below w.heap.size w wr ∧ OwI w.heap.size wr (.slice (some ⟨w.heap.size, 0, none⟩) n n) (filled 0 xs k)) (fun i _ => n - (intOf i).toNat)
  case atStart => exact ⟨0, Nat.zero_le _, rfl, hb1, ho⟩
  case round =>
    obtain ⟨k, hk, rfl, hb, hok⟩ := hrel
    obtain ⟨e0, e1, e2, e3, e4, hfz, hcs⟩ := hok.open encI_len
    by_cases hlt : k < n
    · obtain ⟨m, hm⟩ : ∃ m, xs[k]? = some m := ⟨_, List.getElem?_eq_getElem (by have := HN.out; omega)⟩
      obtain ⟨z, hz⟩ : ∃ z, (filled 0 xs k)[k]? = some z := ⟨_, List.getElem?_eq_getElem (by omega)⟩
      obtain ⟨b, o, rfl, hbl, hc⟩ := H3.out k m hm
      have c0 := (hb.cell (p := ⟨b, o + k * 1 + 0, none⟩) hbl).trans (hc 0 _ rfl)
      have d0 := hcs k z 0 _ hz rfl
      have f0 := hfz k
      simp only [Nat.add_zero, Nat.mul_one] at c0 d0
      have HM := Lib.hid hm
      have HOK := Lib.hid hok
      have HE0 := Lib.hid e0
      clear hc hm hz hcs hfz hok e0
      go_wp2
      have hok2 := HOK.out.stored1 encI_len k m _ (by have := HE0.out; omega) rfl
      rw [filled_step _ _ _ _ HM.out] at hok2
      go_roundw
      case rel => exact ⟨k + 1, by omega, by go_num, hb.setCell (Nat.le_refl _) _, hok2⟩
      case measure => simp [intOf]; omega
    · clear hcs hfz e0
      go_wp2
      go_ret
      refine ⟨_, rfl, ?_, hb⟩
      have h1 := HN.out
      have h3 : k = xs.length := by omega
      rw [h3, filled_all] at hok
      exact hok

theorem szIntSS_c (xss : List (List Int)) (v : Value) (left : Int) (w : World) (h : RdII w v xss) (hl : 0 ≤ left ∧ left ≤ 1048576) : Calls Tryz.prog 26 #[v, .int .i64 left] w fun e w' =>
    e = .returned (.int .i64 (szv left ((xss.length : Int) + sumLen xss))) ∧ w = w' := by
  obtain ⟨rows, ⟨a, c, rfl, h1, h2, -, h3⟩, hin⟩ := h
  have H3 := Lib.hid h3
  have HIN := Lib.hid hin
  obtain ⟨n, hn⟩ : ∃ n, n = rows.length := ⟨_, rfl⟩
  have hn2 : n = xss.length := hn.trans hin.1
  rw [← hn] at h1 ⊢
  have HN := Lib.hid hn
  have HN2 := Lib.hid hn2
  unfold maxLen at h2
  clear h3 hin hn hn2
  by_cases hlt : left < n
  · go_enter Tryz.func26, Tryz.ntmps26
    go_wp2
    go_ret
    exact ⟨ret_int (szv_neg (by have := HN2.out; omega)).symm, rfl⟩
  · go_enter Tryz.func26, Tryz.ntmps26
    go_wp2
    go_loop [1, 5] (fun t i => ∃ k : Nat, k ≤ n ∧ i = .int .i64 k ∧ t = .int .i64 (left - n - sumLen (xss.take k)) ∧ (sumLen (xss.take k) : Int) ≤ left - n) (fun _ i => n - (intOf i).toNat)
    case atStart => exact ⟨0, Nat.zero_le _, rfl, by simp [sumLen], by simp [sumLen]; omega⟩
    case round =>
      obtain ⟨k, hk, rfl, rfl, hs⟩ := hrel
      by_cases hlt2 : k < n
      · obtain ⟨xs, hxs⟩ : ∃ xs, xss[k]? = some xs := ⟨_, List.getElem?_eq_getElem (by have := HN2.out; omega)⟩
        obtain ⟨s, hrow, hrd⟩ := HIN.out.get hxs
        obtain ⟨b, o, rfl, hbl, hc⟩ := H3.out k s hrow
        have c0 := hc 0 _ rfl
        simp only [Nat.add_zero, Nat.mul_one] at c0
        have HS1 := Lib.hid (sum_take hxs)
        have HRD := Lib.hid hrd
        clear hc hxs hrow hrd
        by_cases hfit : (xs.length : Int) ≤ left - n - sumLen (xss.take k)
        · have hz := szv_pos hfit
          have HZ := Lib.hid hz
          clear hz
          go_wp2_with fail
          refine (szIntS_c xs _ _ _ HRD.out (by omega)).mono ?_
          rintro e w' ⟨rfl, rfl⟩
          rw [HZ.out]
          go_wp2
          go_round
          case rel => exact ⟨k + 1, by omega, by go_num, by have := HS1.out; first | (congr 1; omega) | (simp; omega), by have := HS1.out; omega⟩
          case measure => simp [intOf]; omega
        · have hz : szv (left - n - sumLen (xss.take k)) xs.length = -1 := szv_neg (by omega)
          have HZ := Lib.hid hz
          clear hz
          go_wp2_with fail
          refine (szIntS_c xs _ _ _ HRD.out (by omega)).mono ?_
          rintro e w' ⟨rfl, rfl⟩
          rw [HZ.out]
          go_wp2
          go_ret
          exact ⟨ret_int (szv_neg (by have := HS1.out; have := HN2.out; have := sum_take_le xss (k + 1); omega)).symm, rfl⟩
      · go_wp2
        go_ret
        have hall : sumLen (xss.take k) = sumLen xss := sum_all (by have := HN2.out; omega)
        rw [hall] at hs ⊢
        exact ⟨ret_int (by rw [szv_pos (by have := HN2.out; omega)]; have := HN2.out; omega), rfl⟩
end Go.Proofs.YtojknkpjnchchaaGreatDoor
namespace Go.Proofs.YtojknkpjnchchaaGreatDoor
open Go.ChangeShapes Go.WideShapes Go.RowKit
set_option linter.all false
set_option maxRecDepth 100000
attribute [local go_sem ↓] Go.wp_at_zero Go.wp_at_succ

theorem len_le_sum {xss : List (List Int)} {k : Nat} {xs : List Int} (h : xss[k]? = some xs) : xs.length ≤ sumLen xss := by
  have h1 := sum_take h
  have h2 := sum_take_le xss (k + 1)
  omega

theorem toIntSS_c (xss : List (List Int)) (v : Value) (w : World) (hx : RdII w v xss) (hl : (xss.length : Int) + sumLen xss ≤ 1048576) : Calls Tryz.prog 37 #[v] w fun e w' =>
    ∃ u, e = .returned u ∧ OwII w.heap.size w'.heap.size w' u xss ∧ Below w.heap.size w w' := by
  obtain ⟨rows, ⟨a, c, rfl, h1, h2, -, h3⟩, hin⟩ := hx
  unfold maxLen at h2
  have HIN := Lib.hid hin
  have H3 := Lib.hid h3
  obtain ⟨n, hn⟩ : ∃ n, n = rows.length := ⟨_, rfl⟩
  have hn2 : n = xss.length := hn.trans hin.1
  rw [← hn] at h1 ⊢
  have HN := Lib.hid hn
  have HN2 := Lib.hid hn2
  have hl1 : n ≤ 1048576 := by omega
  have HL := Lib.hid hl
  clear h3 hin hn hn2 hl
  go_enter Tryz.func37, Tryz.ntmps37
  go_wp2_with (refine make_T eltSl rfl _ _ rfl n rfl rfl (by omega) ?_; intro w1 ho hb1)
  have hs1 := hb1.size
  have ho : OwII w.heap.size w1.heap.size w1 (.slice (some ⟨w.heap.size, 0, none⟩) n n) (filled [] xss 0) := by
    rw [filled_zero, ← HN2.out]
    exact ⟨_, OwF.of ho (Nat.le_refl _), InO.nils _ _ _ _⟩
  go_wp2
  go_loopw [4] (fun i wr => ∃ k : Nat, k ≤ n ∧ i = .int .i64 k ∧ Below w.heap.size w wr ∧ OwII w.heap.size wr.heap.size wr (.slice (some ⟨w.heap.size, 0, none⟩) n n) (filled [] xss k)) (fun i _ => n - (intOf i).toNat)
  case atStart => exact ⟨0, Nat.zero_le _, rfl, hb1, ho⟩
  case round =>
    obtain ⟨k, hk, rfl, hb, hok⟩ := hrel
    by_cases hlt : k < n
    · obtain ⟨xs, hxs⟩ : ∃ xs, xss[k]? = some xs := ⟨_, List.getElem?_eq_getElem (by have := HN2.out; omega)⟩
      obtain ⟨s, hrow, hrd⟩ := HIN.out.get hxs
      obtain ⟨b, o, rfl, hbl, hc⟩ := H3.out k s hrow
      have c0 := (hb.cell (p := ⟨b, o + k * 1 + 0, none⟩) hbl).trans (hc 0 _ rfl)
      simp only [Nat.add_zero, Nat.mul_one] at c0
      have HRD := Lib.hid (hrd.below hb)
      have HXS := Lib.hid hxs
      have hll := len_le_sum hxs
      have HLL := Lib.hid (show xs.length ≤ 1048576 by have := HL.out; omega)
      have HOK := Lib.hid hok
      clear hc hxs hrow hrd hll hok
      go_wp2_with fail
      refine (toIntS_c xs _ _ HRD.out HLL.out).mono ?_
      rintro e w2 ⟨u, rfl, ho2, hb2⟩
      obtain ⟨⟨sa, sn, sc⟩, rfl⟩ := (ho2.rd encI_len).sl
      have hok2 := HOK.out.below hb2
      have hof := OwF.of ho2 (Nat.le_refl _)
      have hfin := hok2.stored neSl hof (.inl (Nat.le_refl _)) hb.size hb2.size k (by rw [filled_len _ _ _ (by have := HN2.out; omega)]; have := HN2.out; omega)
      rw [filled_step _ _ _ _ HXS.out] at hfin
      obtain ⟨rows2, hr2, hi2⟩ := hok2
      obtain ⟨e0, e1, e2, e3, e4, hfz, hcs⟩ := hr2.1.open encL_len
      obtain ⟨z, hz⟩ : ∃ z, rows2[k]? = some z := ⟨_, List.getElem?_eq_getElem (by omega)⟩
      have d0 := hcs k z 0 _ hz rfl
      have f0 := hfz k
      simp only [Nat.add_zero, Nat.mul_one] at d0
      have HFIN := Lib.hid hfin
      have hb3 : Below w.heap.size w w2 := bnext hb hb2
      clear hcs hfz hz hr2 hi2 e0 hfin hof ho2 rows2
      simp only [slv]
      simp only [slv] at HFIN d0
      go_wp2
      go_roundw
      case rel => exact ⟨k + 1, by omega, by go_num, hb3.setCell (Nat.le_refl _) _, by have := HFIN.out; simpa using this⟩
      case measure => simp [intOf]; omega
    · go_wp2
      go_ret
      refine ⟨_, rfl, ?_, hb⟩
      have h1 := HN2.out
      have h3 : k = xss.length := by omega
      rw [h3, filled_all] at hok
      exact hok

set_option maxHeartbeats 1000000 in
theorem eqIntSS_c (xs ys : List (List Int)) (v u : Value) (w : World) (hx : RdII w v xs) (hy : RdII w u ys) : Calls Tryz.prog 52 #[v, u] w fun e w' =>
    e = .returned (.bool (decide (xs = ys))) ∧ Below w.heap.size w w' := by
  obtain ⟨rx, ⟨a, c, rfl, h1, h2, -, h3⟩, hin⟩ := hx
  obtain ⟨ry, ⟨a', c', rfl, h1', h2', -, h3'⟩, hin'⟩ := hy
  unfold maxLen at h2 h2'
  rw [hin.1] at h1 ⊢
  rw [hin'.1] at h1' ⊢
  have HIN := Lib.hid hin
  have HIN' := Lib.hid hin'
  have H3 := Lib.hid h3
  have H3' := Lib.hid h3'
  clear h3 h3' hin hin'
  by_cases hn : xs.length = ys.length
  · obtain ⟨n, hn1⟩ : ∃ n, n = xs.length := ⟨_, rfl⟩
    have hn2 : ys.length = n := by omega
    rw [← hn1, hn2]
    have HN1 := Lib.hid hn1
    have HN2 := Lib.hid hn2
    have hnc : n ≤ c := by omega
    have hnc' : n ≤ c' := by omega
    clear hn hn1 hn2 h1 h1'
    go_enter Tryz.func52, Tryz.ntmps52
    go_wp2
    go_loopw [5] (fun i wr => ∃ k : Nat, k ≤ n ∧ i = .int .i64 k ∧ Below w.heap.size w wr ∧ Hid (xs.take k = ys.take k)) (fun i _ => n - (intOf i).toNat)
    case atStart => exact ⟨0, Nat.zero_le _, rfl, Below.refl _ _, rfl⟩
    case round =>
      obtain ⟨k, hk, rfl, hb, heq⟩ := hrel
      by_cases hlt : k < n
      · obtain ⟨m, hm⟩ : ∃ m, xs[k]? = some m := ⟨_, List.getElem?_eq_getElem (by have := HN1.out; omega)⟩
        obtain ⟨p, hp⟩ : ∃ m, ys[k]? = some m := ⟨_, List.getElem?_eq_getElem (by have := HN2.out; omega)⟩
        obtain ⟨s, hrow, hrd⟩ := HIN.out.get hm
        obtain ⟨t, hrow', hrd'⟩ := HIN'.out.get hp
        obtain ⟨b, o, rfl, hbl, hc⟩ := H3.out k s hrow
        obtain ⟨b', o', rfl, hbl', hc'⟩ := H3'.out k t hrow'
        have hk0 : (0 : Int) ≤ (k : Int) := by omega
        have hkn : (k : Int) < (n : Int) := by omega
        have c0 := (hb.cell (p := ⟨b, o + k * 1 + 0, none⟩) hbl).trans (hc 0 _ rfl)
        have d0 := (hb.cell (p := ⟨b', o' + k * 1 + 0, none⟩) hbl').trans (hc' 0 _ rfl)
        simp only [Nat.add_zero, Nat.mul_one] at c0 d0
        have HM := Lib.hid hm
        have HP := Lib.hid hp
        have HRD := Lib.hid ((hrd.below hb).below (bref wr).drew)
        have HRD' := Lib.hid ((hrd'.below hb).below (bref wr).drew)
        clear hc hc' hm hp hrow hrow' hrd hrd'
        by_cases hmp : m = p
        all_goals
          have HE := Lib.hid hmp
          first | have he := Lib.hid (decide_eq_false hmp) | have he := Lib.hid (decide_eq_true hmp)
          clear hmp
          go_wp2
          go_still_tail 8, (by kernel_rfl)
          change wpList _ _ _ _ _ wr.drew
          go_wp2_with (go_at_call 16; refine (eqIntS_c m p (slv s) (slv t) _ HRD.out HRD'.out).mono ?_; rintro e w' ⟨rfl, hb2⟩; rw [he.out]; have hb3 := hb.drew.trans (hb2.mono hb.size))
        · go_roundw
          case rel => exact ⟨k + 1, by omega, by go_num, hb3, take_eq_succ HM.out HP.out heq HE.out⟩
          case measure => simp [intOf]; omega
        · go_ret
          exact ⟨ret_bool (by rw [eq_comm, decide_eq_false_iff_not]; exact ne_of_get HM.out HP.out HE.out), hb3⟩
      · go_wp2
        go_ret
        refine ⟨ret_bool ?_, hb⟩
        have h1 := HN1.out
        have h2 := HN2.out
        have h3 : k = n := by omega
        have h4 := heq.out
        rw [List.take_of_length_le (by omega), List.take_of_length_le (by omega)] at h4
        simp [h4]
  · go_enter Tryz.func52, Tryz.ntmps52
    go_wp2
    go_ret
    exact ⟨ret_bool (by rw [eq_comm, decide_eq_false_iff_not]; rintro rfl; exact hn rfl), Below.refl _ _⟩
end Go.Proofs.YtojknkpjnchchaaGreatDoor
namespace Go.Proofs.YtojknkpjnchchaaGreatDoor
open Go.ChangeShapes Go.WideShapes Go.RowKit
set_option linter.all false
set_option maxRecDepth 100000
attribute [local go_sem ↓] Go.wp_at_zero Go.wp_at_succ

/-- The marks that a loop lays over slices of integers: from q on. -/
def marksII : Int → List (List Int) → List (List Int)
  | _, [] => []
  | q, xs :: t => marksI q xs.length :: marksII (q + xs.length) t
theorem marksII_len : ∀ (xss : List (List Int)) (q : Int), (marksII q xss).length = xss.length := by
  intro xss
  induction xss with
  | nil => intro q; rfl
  | cons x t ih => intro q; simp [marksII, ih]
theorem marksII_get : ∀ (xss : List (List Int)) (q : Int) (k : Nat) (xs : List Int), xss[k]? = some xs → (marksII q xss)[k]? = some (marksI (q + sumLen (xss.take k)) xs.length) := by
  intro xss
  induction xss with
  | nil => intro q k xs h; simp at h
  | cons x t ih =>
    intro q k xs h
    cases k with
    | zero => simp at h; subst h; simp [marksII, sumLen]
    | succ k =>
      simp at h
      have := ih (q + x.length) k xs h
      simp only [marksII, List.getElem?_cons_succ, this, List.take_succ_cons, sumLen, List.map_cons, List.sum_cons]
      congr 2
      push_cast
      omega
theorem marksII_sum (xss : List (List Int)) (q : Int) : sumLen (marksII q xss) = sumLen xss := by
  induction xss generalizing q with
  | nil => rfl
  | cons x t ih =>
    have := ih (q + x.length)
    simp [sumLen, marksII, marksI_len] at this ⊢
    exact this

theorem markIntSS_c (xss : List (List Int)) (v : Value) (q : Int) (lo hi : Nat) (w : World) (hx : OwII lo hi w v xss) (hq : 0 ≤ q ∧ q ≤ 50000000) (hl : (xss.length : Int) + sumLen xss ≤ 2000000) : Calls Tryz.prog 62 #[v, .int .i64 q] w fun e w' =>
    e = .returned (.int .i64 (q + sumLen xss)) ∧ OwII lo hi w' v (marksII q xss) ∧ Chg lo hi w w' := by
  obtain ⟨rows, h0, hin⟩ := hx
  have hml := marksII_len xss q
  obtain ⟨s0, rfl⟩ := (h0.rd encL_len).sl
  obtain ⟨a, n0, c⟩ := s0
  obtain ⟨a', c', hv, h1, h2, -, -⟩ := h0.rd encL_len
  simp only [slv, Value.slice.injEq] at hv
  obtain ⟨rfl, rfl, rfl⟩ := hv
  unfold maxLen at h2
  simp only [slv] at h0 ⊢
  have hrl := hin.len
  have HML := Lib.hid hml
  have HRL := Lib.hid hrl
  obtain ⟨n, hn⟩ : ∃ n, n = rows.length := ⟨_, rfl⟩
  rw [← hn] at h0 h1 ⊢
  have HN := Lib.hid hn
  have HL := Lib.hid hl
  have hin0 : InO encI 1 3 lo hi w rows (markedBy (marksII q xss) xss 0) := by rw [markedBy_zero]; exact hin
  clear hn hml hrl hl hin
  go_enter Tryz.func62, Tryz.ntmps62
  go_wp2
  go_loopw [1, 5] (fun t i wr => ∃ k : Nat, k ≤ n ∧ i = .int .i64 k ∧ t = .int .i64 (q + sumLen (xss.take k)) ∧ OwF encL 1 41 lo hi wr (.slice a n c) rows ∧ InO encI 1 3 lo hi wr rows (markedBy (marksII q xss) xss k) ∧ Chg lo hi w wr) (fun _ i _ => n - (intOf i).toNat)
  case atStart => exact ⟨0, Nat.zero_le _, rfl, by simp [sumLen], h0, hin0, Chg.refl _ _ _⟩
  case round =>
    obtain ⟨k, hk, rfl, rfl, ho, hi, hc⟩ := hrel
    by_cases hlt : k < n
    · obtain ⟨xs, hxs⟩ : ∃ xs, xss[k]? = some xs := ⟨_, List.getElem?_eq_getElem (by have := HN.out; have := HRL.out; omega)⟩
      have hold : (markedBy (marksII q xss) xss k)[k]? = some xs := by
        unfold markedBy
        have hlen : ((marksII q xss).take k).length = k := by
          have h1 := HML.out
          have h2 := HN.out
          have h3 := HRL.out
          simp; omega
        rw [List.getElem?_append_right (by omega), hlen, Nat.sub_self, List.getElem?_drop]
        simpa using hxs
      obtain ⟨s, hrow, hos⟩ := hi.get hold
      obtain ⟨a2, c2, hv2, h12, h22, -, h3⟩ := ho.rd encL_len
      simp only [Value.slice.injEq] at hv2
      obtain ⟨rfl, -, rfl⟩ := hv2
      obtain ⟨b, o, rfl, hbl, hcc⟩ := h3 k s hrow
      have c0 := hcc 0 _ rfl
      simp only [Nat.add_zero, Nat.mul_one] at c0
      have hsl := sum_take_le xss k
      have hll := len_le_sum hxs
      have HST := Lib.hid (sum_take hxs)
      have HG := Lib.hid (marksII_get xss q k xs hxs)
      have HB := Lib.hid (show (0 ≤ q + (sumLen (xss.take k) : Int) ∧ q + (sumLen (xss.take k) : Int) ≤ 100000000) ∧ xs.length ≤ 2000000 by have := HL.out; omega)
      have HOS := Lib.hid hos
      have HROW := Lib.hid hrow
      have HI := Lib.hid hi
      clear hcc h3 hxs hold hrow hos hi hsl hll
      go_wp2_with fail
      refine (markIntS_c xs (slv s) _ lo _ HOS.out.1 HB.out.1 HB.out.2).mono ?_
      rintro e w2 ⟨rfl, ho1, hg1, hn1⟩
      obtain ⟨m1, m2, m3⟩ := OwN.mod neSl ho HI.out HROW.out ho1 hg1 hn1
      rw [markedBy_step _ _ _ _ HML.out HG.out] at m2
      have M1 := Lib.hid m1
      have M2 := Lib.hid m2
      have M3 := Lib.hid (hc.trans m3)
      clear m1 m2 m3 ho1 hg1 hn1 ho hc
      go_wp2
      go_roundw
      case rel => exact ⟨k + 1, by omega, by go_num, by have := HST.out; first | (congr 1; omega) | (simp; omega), M1.out, M2.out, M3.out⟩
      case measure => simp [intOf]; omega
    · go_wp2
      go_ret
      have h3 : k = xss.length := by have := HN.out; have := HRL.out; omega
      subst h3
      rw [sum_all (Nat.le_refl _)]
      rw [markedBy_all _ _ HML.out] at hi
      exact ⟨rfl, ⟨rows, ho, hi⟩, hc⟩

end Go.Proofs.YtojknkpjnchchaaGreatDoor
namespace Go.Proofs.YtojknkpjnchchaaGreatDoor
open Go.ChangeShapes Go.WideShapes Go.RowKit
set_option linter.all false
set_option maxRecDepth 100000
attribute [local go_sem ↓] Go.wp_at_zero Go.wp_at_succ

set_option maxHeartbeats 1000000 in
theorem idxRow_c (g : Nat) (lb : Array Value) (ps : List Bool) (xs : List Sl) (v : Value) (w : World) (hl : ps.length = xs.length) (hx : RdT encL 1 w v xs)
    (hg : ∀ (args : Array Value) (w : World), (callFunc g args).run Tryz.prog w = .ok (.enter g args) w)
    (hp : ∀ (k : Nat) (m : Sl) (p : Bool) W, xs[k]? = some m → ps[k]? = some p → Below w.heap.size w W → Calls Tryz.prog g (#[slv m] ++ lb) W fun e W' => e = .returned (.bool p) ∧ Below W.heap.size W W') :
    Calls Tryz.prog 135 #[v, .func (.func g) #[] lb] w fun e w' =>
    e = .returned (.int .i64 (idxOf id ps)) ∧ Below w.heap.size w w' := by
  obtain ⟨a, c, rfl, h1, h2, -, h3⟩ := hx
  have H3 := Lib.hid h3
  have HP := Lib.hid hp
  have HL := Lib.hid hl
  clear h3 hp hl
  unfold maxLen at h2
  go_enter Tryz.func135, Tryz.ntmps135
  go_wp2
  go_loopw [8] (fun i wr => ∃ k : Nat, k ≤ xs.length ∧ i = .int .i64 k ∧ Below w.heap.size w wr ∧ Hid ((ps.take k).any id = false)) (fun i _ => xs.length - (intOf i).toNat)
  case atStart => exact ⟨0, Nat.zero_le _, rfl, Below.refl _ _, by simp [Hid]⟩
  case round =>
    obtain ⟨k, hk, rfl, hb, heq⟩ := hrel
    by_cases hlt : k < xs.length
    · obtain ⟨m, hm⟩ : ∃ m, xs[k]? = some m := ⟨_, List.getElem?_eq_getElem hlt⟩
      obtain ⟨p, hpk⟩ : ∃ p, ps[k]? = some p := ⟨_, List.getElem?_eq_getElem (by rw [HL.out]; exact hlt)⟩
      obtain ⟨b, o, rfl, hbl, hc⟩ := H3.out k m hm
      have c0 := (hb.cell (p := ⟨b, o + k * 1 + 0, none⟩) hbl).trans (hc 0 _ rfl)
      simp only [Nat.add_zero, Nat.mul_one] at c0
      have HM := Lib.hid hm
      have HQ := Lib.hid hpk
      clear hc hm hpk
      cases p
      all_goals
        go_wp2_with fail
        refine (HP.out k m _ _ HM.out HQ.out hb).mono ?_
        rintro e w' ⟨rfl, hb2⟩
        have hb3 := hb.trans (hb2.mono hb.size)
        go_wp2
      · go_roundw
        case rel => exact ⟨k + 1, by omega, by go_num, hb3, any_take_succ HQ.out heq rfl⟩
        case measure => simp [intOf]; omega
      · go_ret
        exact ⟨ret_int (idxOf_at HQ.out heq rfl).symm, hb3⟩
    · go_wp2
      go_ret
      exact ⟨ret_int (idxOf_none (k := k) (by rw [HL.out]; omega) heq.out).symm, hb⟩

theorem hasRow_c (g : Nat) (lb : Array Value) (ps : List Bool) (xs : List Sl) (v : Value) (w : World) (hl : ps.length = xs.length) (hx : RdT encL 1 w v xs)
    (hg : ∀ (args : Array Value) (w : World), (callFunc g args).run Tryz.prog w = .ok (.enter g args) w)
    (hp : ∀ (k : Nat) (m : Sl) (p : Bool) W, xs[k]? = some m → ps[k]? = some p → Below w.heap.size w W → Calls Tryz.prog g (#[slv m] ++ lb) W fun e W' => e = .returned (.bool p) ∧ Below W.heap.size W W') :
    Calls Tryz.prog 95 #[v, .func (.func g) #[] lb] w fun e w' =>
    e = .returned (.bool (ps.any id)) ∧ Below w.heap.size w w' := by
  have HL := Lib.hid hl
  have HG := Lib.hid hg
  have HP := Lib.hid hp
  clear hg hp hl
  have hid : decide (0 ≤ idxOf id ps) = ps.any id := by unfold idxOf; cases ps.any id <;> simp
  have HD := Lib.hid hid
  clear hid
  go_enter Tryz.func95, Tryz.ntmps95
  go_wp2_with (go_at_call 135; refine (idxRow_c g lb ps xs v _ HL.out hx HG.out HP.out).mono ?_; rintro e w' ⟨rfl, hb⟩)
  go_ret
  exact ⟨ret_bool HD.out, hb⟩

/-- A place of a swap is neither free nor good. -/
def badRow (xs : List Int) : Bool := decide (0 < xs.length) && !wordsOk xs
/-- A swap is valid. -/
def swapOk (xss : List (List Int)) : Bool := decide (xss.length = 16) && !(xss.any badRow)
theorem swapOk_len {xss : List (List Int)} (h : swapOk xss = true) : xss.length = 16 := by simp [swapOk] at h; exact h.1
theorem swapOk_row {xss : List (List Int)} (h : swapOk xss = true) {k : Nat} {xs : List Int} (hx : xss[k]? = some xs) : xs.length ≤ 4 := by
  simp only [swapOk, Bool.and_eq_true, decide_eq_true_eq, Bool.not_eq_true', List.any_eq_false] at h
  have := h.2 xs (List.mem_of_getElem? hx)
  by_cases h0 : 0 < xs.length
  · cases hw : wordsOk xs
    · exact absurd (by simp [badRow, h0, hw]) this
    · rw [wordsOk_len hw]; exact Nat.le_refl _
  · omega

end Go.Proofs.YtojknkpjnchchaaGreatDoor
namespace Go.Proofs.YtojknkpjnchchaaGreatDoor
open Go.ChangeShapes Go.WideShapes Go.RowKit
set_option linter.all false
set_option maxRecDepth 100000
attribute [local go_sem ↓] Go.wp_at_zero Go.wp_at_succ

theorem OwF.grow {α : Type} {enc : α → List Value} {K : Nat} {e : TypeId} {lo hi : Nat} {w w' : World} {v : Value} {xs : List α} {row : Option Nat} (h : OwF enc K e lo hi w v xs) (hg : w.grownBy w' row) (hne : ∀ g, v.ownBlock = some g → row ≠ some g) : OwF enc K e lo hi w' v xs :=
  h.stay fun g hgv => hg.block g (h.lt g hgv).2.2 (fun he => hne g hgv he.symm)

end Go.Proofs.YtojknkpjnchchaaGreatDoor
