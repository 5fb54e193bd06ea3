/- FnTableCount returns true for all arguments. No conditions. -/
import Derived.Test.YtklphfmjdgnpnaaDoorTabS
import Derived.Test.YtklphfmjdgnpnaaDoorTabH
import Derived.Test.YtklphfmjdgnpnaaDoorTie
import Derived.Test.YtklphfmjdgnpnaaDoorCards
import Derived.Lay
import Derived.LaidOnce
import Derived.SevenTiedAt
namespace Go.Proofs.YtklphfmjdgnpnaaDoor
open Go.ChangeShapes Go.WideShapes Go.ChangeAt Go.RowKit
set_option linter.all false
set_option maxRecDepth 100000
attribute [local go_sem ↓] Go.wp_at_zero Go.wp_at_succ

set_option maxHeartbeats 1000000 in
theorem sameInts_c (xs ys : List Int) (v u : Value) (w : World) (hx : RdT encI 1 w v xs) (hy : RdT encI 1 w u ys) : Calls Tryd.prog 17 #[v, u] w fun e w' =>
    e = .returned (.bool (decide (xs = ys))) ∧ Below w.heap.size w w' := by
  obtain ⟨a, c, rfl, h1, h2, -, h3⟩ := hx
  obtain ⟨a', c', rfl, h1', h2', -, h3'⟩ := hy
  unfold maxLen at h2 h2'
  by_cases hn : xs.length = ys.length
  · have HN := Lib.hid hn
    obtain ⟨n, hn1⟩ : ∃ n, n = xs.length := ⟨_, rfl⟩
    have hn2 : ys.length = n := by omega
    rw [← hn1, hn2]
    have HN1 := Lib.hid hn1
    have HN2 := Lib.hid hn2
    have hnc : n ≤ c := by omega
    have hnc' : n ≤ c' := by omega
    clear hn hn1 hn2 h1 h1'
    have H3 := Lib.hid h3
    have H3' := Lib.hid h3'
    clear h3 h3'
    go_enter Tryd.func17, Tryd.ntmps17
    go_wp2
    go_loopw [5] (fun i wr => ∃ k : Nat, k ≤ n ∧ i = .int .i64 k ∧ Below w.heap.size w wr ∧ Hid (xs.take k = ys.take k)) (fun i _ => n - (intOf i).toNat)
    case atStart => exact ⟨0, Nat.zero_le _, rfl, Below.refl _ _, rfl⟩
    case round =>
      obtain ⟨k, hk, rfl, hb, heq⟩ := hrel
      by_cases hlt : k < n
      · obtain ⟨m, hm⟩ : ∃ m, xs[k]? = some m := ⟨_, List.getElem?_eq_getElem (by have := HN1.out; omega)⟩
        obtain ⟨p, hp⟩ : ∃ m, ys[k]? = some m := ⟨_, List.getElem?_eq_getElem (by have := HN2.out; omega)⟩
        obtain ⟨b, o, rfl, hbl, hc⟩ := H3.out k m hm
        obtain ⟨b', o', rfl, hbl', hc'⟩ := H3'.out k p hp
        have hk0 : (0 : Int) ≤ (k : Int) := by omega
        have hkn : (k : Int) < (n : Int) := by omega
        have c0 := (hb.cell (p := ⟨b, o + k * 1 + 0, none⟩) hbl).trans (hc 0 _ rfl)
        have d0 := (hb.cell (p := ⟨b', o' + k * 1 + 0, none⟩) hbl').trans (hc' 0 _ rfl)
        simp only [Nat.add_zero, Nat.mul_one] at c0 d0
        have HM := Lib.hid hm
        have HP := Lib.hid hp
        clear hc hc' hm hp
        by_cases hmp : m = p
        all_goals
          have HE := Lib.hid hmp
          first | have he := Lib.hid (decide_eq_false hmp) | have he := Lib.hid (decide_eq_true hmp)
          first | have hne : (m != p) = true := bne_iff_ne.2 hmp | have hne : (m != p) = false := by simp [hmp]
          clear hmp
          go_wp2
          go_still_tail 8, (by kernel_rfl)
          change wpList _ _ _ _ _ wr.drew
          have hb3 := hb.drew
          go_wp2
        · go_roundw
          case rel => exact ⟨k + 1, by omega, by go_num, hb3, take_eq_succ HM.out HP.out heq HE.out⟩
          case measure => simp [intOf]; omega
        · go_ret
          exact ⟨ret_bool (by rw [eq_comm, decide_eq_false_iff_not]; exact ne_of_get HM.out HP.out HE.out), hb3⟩
      · go_wp2
        go_ret
        refine ⟨ret_bool ?_, hb⟩
        have h1 := HN1.out
        have h2 := HN2.out
        have h3 : k = n := by omega
        have h4 := heq.out
        rw [List.take_of_length_le (by omega), List.take_of_length_le (by omega)] at h4
        simp [h4]
  · go_enter Tryd.func17, Tryd.ntmps17
    go_wp2
    go_ret
    exact ⟨ret_bool (by rw [eq_comm, decide_eq_false_iff_not]; rintro rfl; exact hn rfl), Below.refl _ _⟩

set_option maxRecDepth 100000 in
set_option maxHeartbeats 8000000 in
theorem fnTableCount_w (bs : List Int) (v : Value) (w : World) (hx : RdB w v bs) (hbs : ∀ b ∈ bs, 0 ≤ b ∧ b ≤ 255) :
    Calls Tryd.prog 3 #[v] w fun e w' => e = .returned (.bool true) ∧ Below w.heap.size w w' := by
  have hx' := Lib.hid hx
  have HBS := Lib.hid hbs
  clear hbs
  obtain ⟨a, c, rfl, h1, h2, -, -⟩ := hx
  unfold maxLen at h2
  by_cases hlbs : bs.length ≤ 1048576
  rotate_left
  · go_enter Tryd.func3, Tryd.ntmps3
    go_wp2
    go_ret
    exact ⟨rfl, bref _⟩
  go_enter Tryd.func3, Tryd.ntmps3
  go_wp2_with fail
  refine (drawTableCount_b hx'.out HBS.out).mono ?_
  rintro e W1 ⟨q1, ss, m, q2, xs, rfl, hdm, hl12, hshf, hB⟩
  have H1 := Lib.hid hB
  have HSF := Lib.hid hshf
  clear hB hshf hdm
  go_wp2_with fail
  refine (implTableCount_c m xs q1 q2 _ (H1.out.rdN 1 2 rfl rfl encI_len) (H1.out.rd 0 rfl Info.enc_len) HSF.out.fit).mono ?_
  rintro e WH2 ⟨pa, rfl, ho, hb⟩
  have H2 := Lib.hid (H1.out.addT ho hb)
  clear ho hb H1
  go_wp2_with fail
  refine (specTableCount_c m xs q1 q2 _ (H2.out.rdN 2 3 rfl rfl encI_len) (H2.out.rd 1 rfl Info.enc_len) HSF.out.fit).mono ?_
  rintro e WH3 ⟨pb, rfl, ho, hb⟩
  have H3 := Lib.hid (H2.out.addT ho hb)
  clear ho hb H2
  go_wp2_with fail
  refine (sameInts_c (cntL m xs) (cntL m xs) pa pb _ (H3.out.rd 1 rfl encI_len) (H3.out.rd 0 rfl encI_len)).mono ?_
  rintro e WH4 ⟨rfl, hb⟩
  rw [decide_eq_true (rfl : (cntL m xs) = (cntL m xs))]
  have H4 := Lib.hid (H3.out.call hb)
  clear hb H3
  cases hmo : memOk m
  · have HMO := Lib.hid hmo
    clear hmo
    go_wp2_with fail
    refine (specMemoryValid_c m q1 _ (H4.out.rdN 3 4 rfl rfl encI_len)).mono ?_
    rintro e WH5 ⟨rfl, hb⟩
    rw [HMO.out]
    have H5 := Lib.hid (H4.out.call hb)
    clear hb H4
    go_wp2_with fail
    refine (sameInts_c (cntL m xs) (cntL m xs) pa pb _ (H5.out.rd 1 rfl encI_len) (H5.out.rd 0 rfl encI_len)).mono ?_
    rintro e WH6 ⟨rfl, hb⟩
    rw [decide_eq_true (rfl : (cntL m xs) = (cntL m xs))]
    have H6 := Lib.hid (H5.out.call hb)
    clear hb H5
    go_wp2
    go_ret
    exact ⟨rfl, H6.out.below⟩
  cases hxo : infosOk xs
  · have HMO := Lib.hid hmo
    have HXO := Lib.hid hxo
    clear hmo hxo
    go_wp2_with fail
    refine (specMemoryValid_c m q1 _ (H4.out.rdN 3 4 rfl rfl encI_len)).mono ?_
    rintro e WH5 ⟨rfl, hb⟩
    rw [HMO.out]
    have H5 := Lib.hid (H4.out.call hb)
    clear hb H4
    go_wp2_with fail
    refine (specInfosValid_c xs q2 _ (H5.out.rd 2 rfl Info.enc_len) HSF.out.fit).mono ?_
    rintro e WH6 ⟨rfl, hb⟩
    rw [HXO.out]
    have H6 := Lib.hid (H5.out.call hb)
    clear hb H5
    go_wp2_with fail
    refine (sameInts_c (cntL m xs) (cntL m xs) pa pb _ (H6.out.rd 1 rfl encI_len) (H6.out.rd 0 rfl encI_len)).mono ?_
    rintro e WH7 ⟨rfl, hb⟩
    rw [decide_eq_true (rfl : (cntL m xs) = (cntL m xs))]
    have H7 := Lib.hid (H6.out.call hb)
    clear hb H6
    go_wp2
    go_ret
    exact ⟨rfl, H7.out.below⟩
  have HMO := Lib.hid hmo
  have HXO := Lib.hid hxo
  have HCL := Lib.hid (show cntL m xs = cnt m xs by simp [cntL, hmo, hxo])
  have HMR := Lib.hid (fun ws (hw : ws ∈ m) => (show ws.length ≤ 4 by rw [wordsOk_len (memOk_all hmo hw)]; exact Nat.le_refl _))
  clear hmo hxo
  go_wp2_with fail
  refine (specMemoryValid_c m q1 _ (H4.out.rdN 3 4 rfl rfl encI_len)).mono ?_
  rintro e WH5 ⟨rfl, hb⟩
  rw [HMO.out]
  have H5 := Lib.hid (H4.out.call hb)
  clear hb H4
  go_wp2_with fail
  refine (specInfosValid_c xs q2 _ (H5.out.rd 2 rfl Info.enc_len) HSF.out.fit).mono ?_
  rintro e WH6 ⟨rfl, hb⟩
  rw [HXO.out]
  have H6 := Lib.hid (H5.out.call hb)
  clear hb H5
  have H7 := Lib.hid (H6.out.drop)
  rw [HCL.out] at H7
  clear H6
  have HSL := Lib.hid ((show InO encI 1 3 0 _ _ ss m from H7.out.get 3 rfl).len.trans (memOk_len HMO.out))
  have HL := Lib.hid (infosOk_len HXO.out)
  have HML := Lib.hid (memOk_len HMO.out)
  obtain ⟨s0, hs0⟩ : ∃ s, ss[0]? = some s := ⟨_, List.getElem?_eq_getElem (by have := HSL.out; omega)⟩
  obtain ⟨y0, hy0⟩ : ∃ y, xs[0]? = some y := ⟨_, List.getElem?_eq_getElem (by have := HL.out; omega)⟩
  obtain ⟨G, C, rfl, -, g2, g3, -, -, -⟩ := H7.out.at 2 rfl encL_len hs0
  obtain ⟨gq, cq, rfl, -, s3, s4, -, -, -⟩ := H7.out.at 1 rfl Info.enc_len hy0
  obtain ⟨ga, ca, rfl, -, r3, r4, -, -, -⟩ := H7.out.at 0 rfl encI_len (tab_get (cntTo m xs 12) (f := 0) (by omega))
  rw [HSL.out] at g2 H7 ⊢
  rw [HL.out] at s3 H7 ⊢
  rw [show (cnt m xs).length = 12 from tab_len _] at r3 H7 ⊢
  unfold maxLen at g3 s4 r4
  clear hs0 hy0
  go_wp2
  go_loopw [7] (fun i wr => ∃ (p : Nat), p ≤ 12 ∧ i = .int .i64 p ∧ Bun w none wr [rowI (.slice (some ⟨ga, 0, none⟩) 12 ca) (cnt m xs), rowF (.slice (some ⟨gq, 0, none⟩) 12 cq) xs, rowS (.slice (some ⟨G, 0, none⟩) 12 C) ss, rowsI ss m]) (fun i _ => 12 - (intOf i).toNat)
  case atStart => exact ⟨0, Nat.zero_le _, rfl, H7.out⟩
  case round =>
    obtain ⟨p, hp, rfl, hB⟩ := hrel
    have HB := Lib.hid hB
    clear hB H7
    by_cases hlt : p < 12
    rotate_left
    · go_wp2
      go_ret
      exact ⟨rfl, HB.out.below⟩
    have hp0 : (0 : Int) ≤ (p : Int) := by omega
    have hp1 : (p : Int) < 12 := by omega
    go_wp2
    go_loopw [8, 9] (fun n i wr => ∃ (t : Nat), t ≤ 12 ∧ i = .int .i64 t ∧ n = .int .i64 (cntTo m xs t p) ∧ Bun w none wr [rowI (.slice (some ⟨ga, 0, none⟩) 12 ca) (cnt m xs), rowF (.slice (some ⟨gq, 0, none⟩) 12 cq) xs, rowS (.slice (some ⟨G, 0, none⟩) 12 C) ss, rowsI ss m]) (fun _ i _ => 12 - (intOf i).toNat)
    case atStart => exact ⟨0, Nat.zero_le _, rfl, rfl, HB.out⟩
    case round =>
      obtain ⟨t, ht, rfl, rfl, hB2⟩ := hrel
      have HB2 := Lib.hid hB2
      clear hB2 HB
      have hc0 := (cntTo_in m xs HMR.out p t).1
      have hc1 := (cntTo_in m xs HMR.out p t).2
      by_cases hlt2 : t < 12
      rotate_left
      · obtain rfl : t = 12 := by omega
        obtain ⟨gb, cb, egb, -, -, -, -, -, tgb⟩ := HB2.out.at 0 rfl encI_len (tab_get (cntTo m xs 12) hlt)
        have b0 := tgb 0 _ rfl
        simp only [Value.slice.injEq, Option.some.injEq, Addr.mk.injEq, and_true] at egb
        obtain ⟨rfl, -, rfl⟩ := egb
        (try simp only [Nat.add_zero, Nat.zero_add, Nat.mul_one] at b0)
        clear tgb
        have hee : (cntTo m xs 12 p != cntTo m xs 12 p) = false := by simp
        go_wp2
        go_roundw
        case rel => exact ⟨p + 1, by omega, by go_num, HB2.out⟩
        case measure => simp [intOf]; omega
      have ht0 : (0 : Int) ≤ (t : Int) := by omega
      have ht1 : (t : Int) < 12 := by omega
      obtain ⟨ws, hws⟩ : ∃ ws, m[t]? = some ws := ⟨_, List.getElem?_eq_getElem (by have := HML.out; omega)⟩
      obtain ⟨y, hy⟩ : ∃ y, xs[t]? = some y := ⟨_, List.getElem?_eq_getElem (by have := HL.out; omega)⟩
      have hwo := memOk_all HMO.out (List.mem_of_getElem? hws)
      have HWL := Lib.hid (wordsOk_len hwo)
      have HWI := Lib.hid (fun x hx => words_in hwo (x := x) hx)
      have HWS := Lib.hid hws
      have HY := Lib.hid hy
      have HNX := Lib.hid (cntTo_next (f := p) hy hws)
      have HNK := Lib.hid (needK_ne y.kd)
      obtain ⟨s, hs⟩ : ∃ s, ss[t]? = some s := ⟨_, List.getElem?_eq_getElem (by have := HSL.out; omega)⟩
      obtain ⟨g, c, rfl, -, i2, -, -, -⟩ := HB2.out.inner (i := 3) rfl hs hws (by intro h; have := HWL.out; rw [h] at this; simp at this)
      rw [HWL.out] at hs
      have HSS := Lib.hid hs
      unfold maxLen at i2
      obtain ⟨a0, ha0⟩ : ∃ a0, a0 = cntTo m xs t p := ⟨_, rfl⟩
      have HA0 := Lib.hid ha0
      rw [← ha0] at hc0 hc1 ⊢
      clear hwo hws hy hs ha0
      go_wp2
      go_loopw [8, 10] (fun n i wr => ∃ (j : Nat), j ≤ 4 ∧ i = .int .i64 j ∧ n = .int .i64 (a0 + cntW (tabK y.kd) (ws.take j) p) ∧ Bun w none wr [rowI (.slice (some ⟨ga, 0, none⟩) 12 ca) (cnt m xs), rowF (.slice (some ⟨gq, 0, none⟩) 12 cq) xs, rowS (.slice (some ⟨G, 0, none⟩) 12 C) ss, rowsI ss m]) (fun _ i _ => 4 - (intOf i).toNat)
      case atStart => exact ⟨0, Nat.zero_le _, rfl, by rw [List.take_zero, cntW_nil]; congr 1; omega, HB2.out⟩
      case round =>
        obtain ⟨j, hj, rfl, rfl, hB3⟩ := hrel
        have HB3 := Lib.hid hB3
        clear hB3 HB2
        have hw0 := (cntW_in (tabK y.kd) (ws.take j) p).1
        have hw1 : cntW (tabK y.kd) (ws.take j) p ≤ 4 := by have h1 := (cntW_in (tabK y.kd) (ws.take j) p).2; have h2 : (ws.take j).length ≤ 4 := (by rw [List.length_take]; omega); omega
        by_cases hlt3 : j < 4
        rotate_left
        · obtain rfl : j = 4 := by omega
          have HE := Lib.hid (show a0 + cntW (tabK y.kd) (ws.take 4) p = cntTo m xs (t + 1) p by rw [List.take_of_length_le (by have := HWL.out; omega), HA0.out, HNX.out])
          rw [HE.out]
          go_wp2
          go_roundw
          case rel => exact ⟨t + 1, by omega, by go_num, rfl, HB3.out⟩
          case measure => simp [intOf]; omega
        have hj0 : (0 : Int) ≤ (j : Int) := by omega
        have hj1 : (j : Int) < 4 := by omega
        obtain ⟨x, hx⟩ : ∃ x, ws[j]? = some x := ⟨_, List.getElem?_eq_getElem (by have := HWL.out; omega)⟩
        have hx0 := HWI.out x (List.mem_of_getElem? hx)
        obtain ⟨G1, C1, eG1, -, -, -, -, -, tG1⟩ := HB3.out.at 2 rfl encL_len HSS.out
        have d0 := tG1 0 _ rfl
        simp only [Value.slice.injEq, Option.some.injEq, Addr.mk.injEq, and_true] at eG1
        obtain ⟨rfl, -, rfl⟩ := eG1
        (try simp only [Nat.add_zero, Nat.zero_add, Nat.mul_one] at d0)
        clear tG1
        obtain ⟨g1, c1, es, -, -, -, -, j5⟩ := HB3.out.inner (i := 3) rfl HSS.out HWS.out (by intro h; have := HWL.out; rw [h] at this; simp at this)
        simp only [Prod.mk.injEq, Option.some.injEq, Addr.mk.injEq, and_true] at es
        obtain ⟨rfl, -, rfl⟩ := es
        have e0 := j5 j x hx
        simp only [slv] at d0
        obtain ⟨gz, cz, egz, -, -, -, -, -, tgz⟩ := HB3.out.at 1 rfl Info.enc_len HY.out
        have z0 := tgz 0 _ rfl
        simp only [Value.slice.injEq, Option.some.injEq, Addr.mk.injEq, and_true] at egz
        obtain ⟨rfl, -, rfl⟩ := egz
        (try simp only [Nat.add_zero, Nat.zero_add, Nat.mul_one] at z0)
        clear tgz
        clear j5
        obtain ⟨b0, hb0⟩ : ∃ b0, b0 = cntW (tabK y.kd) (ws.take j) p := ⟨_, rfl⟩
        have HB0 := Lib.hid hb0
        rw [← hb0] at hw0 hw1 ⊢
        cases he : entB x
        · have HS := Lib.hid (cntW_skip (tb := tabK y.kd) (f := p) hx (.inl he))
          have HE := Lib.hid he
          clear he hx hb0
          go_wp2_with fail
          refine (implEntryGet_c x _ hx0).mono ?_
          rintro e Wa ⟨rfl, rfl⟩
          rw [HE.out]
          go_wp2
          go_roundw
          case rel => exact ⟨j + 1, by omega, by go_num, by rw [HS.out, ← HB0.out], HB3.out⟩
          case measure => simp [intOf]; omega
        have hlt4 := ent_lt he
        obtain ⟨n, hn⟩ := Int.eq_ofNat_of_zero_le hlt4.1
        have HI := Lib.hid (show entI x = (n : Int) by simp [entI, he]; exact hn)
        by_cases hnp : n = p
        rotate_left
        · have HS := Lib.hid (cntW_skip (tb := tabK y.kd) (f := p) hx (.inr (.inl (by omega))))
          have HE := Lib.hid he
          have hne : ((n : Int) == (p : Int)) = false := by rw [beq_eq_false_iff_ne]; omega
          clear he hx hb0 hnp hn hlt4
          go_wp2_with fail
          refine (implEntryGet_c x _ hx0).mono ?_
          rintro e Wa ⟨rfl, rfl⟩
          rw [HE.out, HI.out]
          go_wp2
          go_roundw
          case rel => exact ⟨j + 1, by omega, by go_num, by rw [HS.out, ← HB0.out], HB3.out⟩
          case measure => simp [intOf]; omega
        cases htb : tabK y.kd
        · have HS := Lib.hid (show cntW false (ws.take (j + 1)) p = b0 by rw [hb0, htb]; exact cntW_skip hx (.inr (.inr rfl)))
          have HE := Lib.hid he
          have hnk : (needK y.kd != 0) = false := HNK.out.trans htb
          have hee : ((n : Int) == (p : Int)) = true := by rw [beq_iff_eq]; omega
          clear he hx hb0 hnp hn hlt4 htb
          go_wp2_with fail
          refine (implEntryGet_c x _ hx0).mono ?_
          rintro e Wa ⟨rfl, rfl⟩
          rw [HE.out, HI.out]
          go_wp2_with fail
          refine (implTableNeeds_c y.kd _).mono ?_
          rintro e Wb ⟨rfl, rfl⟩
          go_wp2
          go_roundw
          case rel => exact ⟨j + 1, by omega, by go_num, by rw [HS.out], HB3.out⟩
          case measure => simp [intOf]; omega
        · have HS := Lib.hid (show cntW true (ws.take (j + 1)) p = b0 + 1 by rw [hb0, htb]; exact cntW_next hx he (by omega))
          have HE := Lib.hid he
          have hnk : (needK y.kd != 0) = true := HNK.out.trans htb
          have hee : ((n : Int) == (p : Int)) = true := by rw [beq_iff_eq]; omega
          clear he hx hb0 hnp hn hlt4 htb
          go_wp2_with fail
          refine (implEntryGet_c x _ hx0).mono ?_
          rintro e Wa ⟨rfl, rfl⟩
          rw [HE.out, HI.out]
          go_wp2_with fail
          refine (implTableNeeds_c y.kd _).mono ?_
          rintro e Wb ⟨rfl, rfl⟩
          go_wp2
          go_roundw
          case rel => exact ⟨j + 1, by omega, by go_num, by rw [HS.out]; congr 1; omega, HB3.out⟩
          case measure => simp [intOf]; omega

set_option maxRecDepth 100000 in
theorem fnTableCount_l (os : Os) (started : os.Started) (H : Type) (enc : TypeId × Value → H) :
    ReturnsInHanded {} Tryd.checked os 3 .any (fun w args => (Rows.fnTableCountSpec.pre enc Tryd.prog Tryd.f3 [] false w args ∧ laidMetH Tryd.prog Rows.fnTableCountRow.laid w) ∧ sizedMet enc Tryd.prog Tryd.f3 (OpenSpec.ofChange Rows.fnTableCountSpec) false w args)
      (Rows.fnTableCountSpec.post enc Tryd.prog Tryd.f3 false true false false) := by
  refine returnsInHanded_of_change_and (C := Tryd.checked) (X := fun w _ => laidMetH Tryd.prog Rows.fnTableCountRow.laid w) (fun _ _ _ hh h => h.of_heap hh) own started (by kernel_rfl) Tryd.func3
    (ChangeSpec.witness_shaped (enc := enc) (C := Tryd.checked) (os := os) (X := fun w _ => laidMetH Tryd.prog Rows.fnTableCountRow.laid w) false (World.laidAll Tryd.prog os Rows.fnTableCountRow.laid) #[.slice none 0 0] 8 (World.laidAll_os _ _ _)
      (World.shaped_of_ZipB (by kernel_rfl) (by kernel_rfl)) (by kernel_rfl) (by kernel_rfl) (by kernel_rfl)
      (by rw [MakeChecks.laidMetH_plain _ _ _ (by kernel_rfl)]; exact laidMet_laidAll _ (by kernel_rfl) (by kernel_rfl))) ?_
  intro W base args ds gs before hval0 hW _ _ _ _
  have hval : ∀ (j : Nat) t v, Tryd.f3.params[j]? = some t → args[j]? = some v → Value.okWide Tryd.prog W .any base t v := hval0
  have hW' := hW
  obtain ⟨p, q, hA0, hV, rfl, _, _⟩ := hW
  have hA : DataW.TrodAll enc Tryd.prog W 0 (fun _ => true) true Tryd.f3.params.toList args.toList ds p := hA0
  rw [Tryd.params3] at hA hval
  obtain ⟨v0, vs0, d0, ds0, p0, q0, hargs, rfl, rfl, h0, r0⟩ := trodAll_cons hA
  obtain ⟨rfl, rfl, rfl⟩ := trodAll_nil r0
  obtain rfl : args = #[v0] := by cases args; simp_all
  obtain ⟨rfl, rfl⟩ := trodVars_none hV
  clear hA0 hval0
  simp only [List.append_nil] at hW'
  have hl0 : ∀ x ∈ p0, x.block < W.heap.size := fun x hx => by simpa using hW'.lt x (by simp [hx])
  obtain ⟨x0, hx0, hg0⟩ := openBytes (hval 0 22 v0 rfl rfl) h0
  refine (fnTableCount_w x0 v0 W hx0 hg0).mono fun e W' ⟨he, hb⟩ => ?_
  subst he
  refine ⟨_, rfl, _, _, _, [], p0, [], hW', trodAll_cons_mk (shut_bool Tryd.underlying4 _) trodAll_mk0, ?_, rfl, hb.frame _, fun h => by cases h⟩
  have hk := trodAll_cons_mk (Below.trod laidOut (by kernel_rfl) (of_decide_eq_true (by kernel_rfl)) h0 hb hl0) (trodAll_mk0)
  simp only [List.append_nil] at hk
  exact hk

theorem fnTableCount_row : Rows.FnTableCountSaid :=
  OpenClaim.holds_of_wide 3 Tryd.f3 rfl rfl rfl rfl rfl rfl rfl ⟨rfl, rfl, rfl, rfl, rfl⟩ rfl rfl rfl rfl rfl (by kernel_rfl) Tryd.func3 (by kernel_rfl)
    (of_decide_eq_true (by kernel_rfl)) (by unfold Func.isWrapper; first | (rw [if_pos (by decide +kernel)]; kernel_rfl) | (rw [if_neg (by decide +kernel)]; exact ⟨rfl, rfl⟩))
    (fun os started H enc _ => fnTableCount_l os started H enc)

theorem fnTableCount_holds : Rows.FnTableCountCardSaid :=
  Claim7.holds_tied_plain_at .later [] [.data, .pinned] true Rows.fnTableCountCard.stood.harness false fnTableCount_row (fun _ h => by cases h) (by kernel_rfl) (fun _ h => by cases h) fnTableCount_row_tie rfl ⟨rfl, rfl⟩ (by kernel_rfl) rfl
    (fun f fn hf hfn => by
      obtain rfl : f = 3 := Option.some.inj ((show Tryd.prog.funcNamed "loop.example/exopager/laws.FnTableCount" = some 3 by kernel_rfl).symm.trans hf) |>.symm
      obtain rfl : fn = Tryd.f3 := (Option.some.inj (Tryd.func3.symm.trans hfn)).symm
      exact ⟨by kernel_rfl, fun j t ht => by
        rw [Tryd.params3] at ht
        have hm : t ∈ [22] := by simpa using Array.mem_of_getElem? ht
        have hall : ([22].all fun u => !Tryd.prog.wantsStandIn u) = true := by kernel_rfl
        exact (show Tryd.prog.wantsStandIn t = false by simpa using List.all_eq_true.1 hall t hm)⟩)
    (by kernel_rfl)

end Go.Proofs.YtklphfmjdgnpnaaDoor
