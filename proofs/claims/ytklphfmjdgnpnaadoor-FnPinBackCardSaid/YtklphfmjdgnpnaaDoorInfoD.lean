/- Contracts of the marks over what is known of frames, of its sizes, and of the library's loops over it. No conditions but the readings of the arguments. -/
import Derived.Test.YtklphfmjdgnpnaaDoorInfoB
namespace Go.Proofs.YtklphfmjdgnpnaaDoor
open Go.ChangeShapes Go.WideShapes Go.RowKit
set_option linter.all false
set_option maxRecDepth 100000
attribute [local go_sem ↓] Go.wp_at_zero Go.wp_at_succ

def infSum (xs : List Info) : Nat := strSum (xs.map Info.gd)
theorem infSum_take {xs : List Info} {k : Nat} {x : Info} (h : xs[k]? = some x) : infSum (xs.take (k + 1)) = infSum (xs.take k) + x.gd.length := by
  unfold infSum
  rw [List.map_take, List.map_take]
  exact strSum_take (by rw [List.getElem?_map, h]; rfl)
theorem infSum_take_le (xs : List Info) (k : Nat) : infSum (xs.take k) ≤ infSum xs := by
  unfold infSum
  rw [List.map_take]
  exact strSum_take_le _ _
theorem infSum_all {xs : List Info} {k : Nat} (h : xs.length ≤ k) : infSum (xs.take k) = infSum xs := by rw [List.take_of_length_le h]
/-- Texts of a size that a machine can bear. -/
def fitF (xs : List Info) : Prop := ∀ x ∈ xs, x.gd.length ≤ 9223372036854775807
def RdFF (w : World) (v : Value) (xs : List Info) : Prop := RdF w v xs ∧ fitF xs
theorem RdFF.below {w w' : World} {v : Value} {xs : List Info} (h : RdFF w v xs) (hb : Below w.heap.size w w') : RdFF w' v xs := ⟨h.1.below hb, h.2⟩

set_option maxHeartbeats 1000000 in
theorem szInfoS_c (xs : List Info) (v : Value) (left : Int) (w : World) (h : RdF w v xs) (hf : fitF xs) (hl : 0 ≤ left ∧ left ≤ 1048576) : Calls Tryd.prog 39 #[v, .int .i64 left] w fun e w' =>
    e = .returned (.int .i64 (szv left ((xs.length : Int) + infSum xs))) ∧ Below w.heap.size w w' := by
  obtain ⟨a, c, rfl, h1, h2, -, h3⟩ := h
  have H3 := Lib.hid h3
  have HF := Lib.hid hf
  obtain ⟨n, hn⟩ : ∃ n, n = xs.length := ⟨_, rfl⟩
  rw [← hn] at h1 ⊢
  have HN := Lib.hid hn
  unfold maxLen at h2
  clear h3 hn hf
  by_cases hlt : left < n
  · go_enter Tryd.func39, Tryd.ntmps39
    go_wp2
    go_ret
    exact ⟨ret_int (szv_neg (by omega)).symm, bref _⟩
  · go_enter Tryd.func39, Tryd.ntmps39
    go_wp2
    go_loopw [1, 5] (fun t i wr => ∃ k : Nat, k ≤ n ∧ i = .int .i64 k ∧ t = .int .i64 (left - n - infSum (xs.take k)) ∧ (infSum (xs.take k) : Int) ≤ left - n ∧ Below w.heap.size w wr) (fun _ i _ => n - (intOf i).toNat)
    case atStart => exact ⟨0, Nat.zero_le _, rfl, by simp [infSum, strSum], by simp [infSum, strSum]; omega, bref _⟩
    case round =>
      obtain ⟨k, hk, rfl, rfl, hs, hb⟩ := hrel
      by_cases hlt2 : k < n
      · obtain ⟨x, hx⟩ : ∃ x, xs[k]? = some x := ⟨_, List.getElem?_eq_getElem (by have := HN.out; omega)⟩
        obtain ⟨b, o, rfl, hbl, hc⟩ := H3.out k x hx
        have c0 := (hb.cell (p := ⟨b, o + k * 3 + 0, none⟩) hbl).trans (hc 0 _ rfl)
        have c1 := (hb.cell (p := ⟨b, o + k * 3 + 1, none⟩) hbl).trans (hc 1 _ rfl)
        have c2 := (hb.cell (p := ⟨b, o + k * 3 + 2, none⟩) hbl).trans (hc 2 _ rfl)
        simp only [Nat.add_zero] at c0
        have HS1 := Lib.hid (infSum_take hx)
        have hxl := HF.out x (List.mem_of_getElem? hx)
        clear hc hx
        by_cases hfit : (x.gd.length : Int) ≤ left - n - infSum (xs.take k)
        · have HZ := Lib.hid (szv_pos hfit)
          go_wp2_with fail
          refine (szInfo_c x _ _ hxl (by omega)).mono ?_
          rintro e w' ⟨rfl, hb1⟩
          rw [HZ.out]
          have hb2 := bnext hb hb1
          go_wp2
          go_roundw
          case rel => exact ⟨k + 1, by omega, by go_num, by have := HS1.out; first | (congr 1; omega) | (simp; omega), by have := HS1.out; omega, hb2⟩
          case measure => simp [intOf]; omega
        · have HZ := Lib.hid (show szv (left - n - infSum (xs.take k)) x.gd.length = -1 from szv_neg (by omega))
          go_wp2_with fail
          refine (szInfo_c x _ _ hxl (by omega)).mono ?_
          rintro e w' ⟨rfl, hb1⟩
          rw [HZ.out]
          have hb2 := bnext hb hb1
          go_wp2
          go_ret
          exact ⟨ret_int (szv_neg (by have := HS1.out; have := HN.out; have := infSum_take_le xs (k + 1); omega)).symm, hb2⟩
      · go_wp2
        go_ret
        have hall : infSum (xs.take k) = infSum xs := infSum_all (by have := HN.out; omega)
        rw [hall] at hs ⊢
        exact ⟨ret_int (by rw [szv_pos (by omega)]; omega), hb⟩

set_option maxHeartbeats 2000000 in
theorem markInfoS_c (xs : List Info) (v : Value) (q : Int) (base : Nat) (w : World) (hx : OwFr base w v xs) (hq : 1 ≤ q ∧ q ≤ 50000000) (hl : xs.length ≤ 2000000) : Calls Tryd.prog 48 #[v, .int .i64 q] w fun e w' =>
    e = .returned (.int .i64 (q + 3 * xs.length)) ∧ OwFr base w' v (marksF q xs.length) ∧ (∀ g, v.ownBlock = some g → w.grownBy w' (some g)) ∧ (v.ownBlock = none → w = w') := by
  rcases hx.2 with ⟨rfl, hn⟩ | ⟨g, c, cur, rfl, -⟩
  · have : xs = [] := List.eq_nil_of_length_eq_zero hn
    subst this
    go_enter Tryd.func48, Tryd.ntmps48
    go_wp2
    refine wp_loop_rounds 1 ?_
    rw [rounds_succ]
    go_wp2
    go_ret
    exact ⟨by simp, World.ownsRow_nil _ _ _ _, by simp [Value.ownBlock], fun _ => rfl⟩
  have hml := marksF_len q xs.length
  have HML := Lib.hid hml
  have hx0 : OwFr base w (.slice (some ⟨g, 0, none⟩) xs.length c) (markedBy (marksF q xs.length) xs 0) := by rw [markedBy_zero]; exact hx
  clear hx hml
  go_enter Tryd.func48, Tryd.ntmps48
  go_wp2
  go_loopw [1, 5] (fun t i wr => ∃ k : Nat, k ≤ xs.length ∧ i = .int .i64 k ∧ t = .int .i64 (q + 3 * k) ∧ w.grownBy wr (some g) ∧ OwFr base wr (.slice (some ⟨g, 0, none⟩) xs.length c) (markedBy (marksF q xs.length) xs k)) (fun _ i _ => xs.length - (intOf i).toNat)
  case atStart => exact ⟨0, Nat.zero_le _, rfl, by simp, World.grownBy.refl _ _, hx0⟩
  case round =>
    obtain ⟨k, hk, rfl, rfl, hg, hok⟩ := hrel
    by_cases hlt : k < xs.length
    · have HG := Lib.hid hg
      obtain ⟨e0, e1, e2, e3, e4, hfz, hcs⟩ := hok.open Info.enc_len
      obtain ⟨z, hz⟩ : ∃ z, (markedBy (marksF q xs.length) xs k)[k]? = some z := ⟨_, List.getElem?_eq_getElem (by omega)⟩
      have d0 := hcs k z 0 _ hz rfl
      have f0 := hfz (k * 3)
      have hok1 := hok.storeF (j := 0) (x' := ⟨q + 3 * k, z.gd, z.rf⟩) (u := .int .i64 (q + 3 * k)) Info.enc_len hz (by omega) rfl
      simp only [Nat.add_zero] at d0 hok1
      have HOK1 := Lib.hid hok1
      have HE0 := Lib.hid e0
      have HE := Lib.hid (show k < (markedBy (marksF q xs.length) xs k).length from (List.getElem?_eq_some_iff.1 hz).1)
      unfold maxLen at e4
      clear hz hcs hfz hok hg hok1 e0
      go_wp2_with fail
      refine (markText_c (q + 3 * k + 1) _ (by omega)).mono ?_
      rintro e w1 ⟨rfl, hb1⟩
      have hok2 := HOK1.out.below hb1
      have HG1 := Lib.hid (grown_then (grown_set HG.out (k * 3) (.int .i64 (q + 3 * k))) hb1)
      obtain ⟨-, -, i2, -, -, hfz, hcs⟩ := hok2.open Info.enc_len
      have hz2 : ((markedBy (marksF q xs.length) xs k).set k ⟨q + 3 * k, z.gd, z.rf⟩)[k]? = some ⟨q + 3 * k, z.gd, z.rf⟩ := by simp [HE.out]
      have d1 := hcs k _ 1 _ hz2 rfl
      have d2 := hcs k _ 2 _ hz2 rfl
      have f1 := hfz (k * 3 + 1)
      have f2 := hfz (k * 3 + 2)
      have hok3 := hok2.storeF (j := 1) (x' := ⟨q + 3 * k, mtext (q + 3 * k + 1), z.rf⟩) (u := tv (mtext (q + 3 * k + 1))) Info.enc_len hz2 (by omega) rfl
      have hok4 := hok3.storeF (j := 2) (x' := markF q k) (u := .int .i64 (q + 3 * k + 1 + 1)) Info.enc_len (x := ⟨q + 3 * k, mtext (q + 3 * k + 1), z.rf⟩) (k := k) (by simp [HE.out]) (by omega) rfl
      rw [List.set_set, List.set_set, markedBy_step _ _ _ _ HML.out (marksF_get q _ k hlt)] at hok4
      have HOK4 := Lib.hid hok4
      clear hz2 hcs hfz hok2 hok3 hok4 HOK1 HG hb1 d0 f0
      go_wp2
      go_roundw
      case rel => exact ⟨k + 1, by omega, by go_num, by go_num, grown_set (grown_set HG1.out _ _) _ _, HOK4.out⟩
      case measure => simp [intOf]; omega
    · go_wp2
      go_ret
      have h3 : k = xs.length := by omega
      refine ⟨ret_int (by omega), ?_, ?_, ?_⟩
      · have hl := HML.out
        rw [h3, markedBy_all _ _ hl] at hok
        unfold OwFr OwT at hok ⊢
        rw [hl] at hok ⊢
        exact hok
      · intro g' hg'
        simp [Value.ownBlock] at hg'
        subst hg'
        exact hg
      · simp [Value.ownBlock]

set_option maxHeartbeats 2000000 in
theorem heldInfoS_c (n : Nat) (v : Value) (q : Int) (w : World) (hx : RdF w v (marksF q n)) (hq : 1 ≤ q ∧ q ≤ 50000000) (hl : n ≤ 2000000) : Calls Tryd.prog 50 #[v, .int .i64 q] w fun e w' =>
    e = .returned (.int .i64 (q + 3 * n)) ∧ Below w.heap.size w w' := by
  obtain ⟨a, c, rfl, h1, h2, -, h3⟩ := hx
  rw [marksF_len] at h1 ⊢
  have H3 := Lib.hid h3
  clear h3
  unfold maxLen at h2
  go_enter Tryd.func50, Tryd.ntmps50
  go_wp2
  go_loopw [1, 5] (fun t i wr => ∃ k : Nat, k ≤ n ∧ i = .int .i64 k ∧ t = .int .i64 (q + 3 * k) ∧ Below w.heap.size w wr) (fun _ i _ => n - (intOf i).toNat)
  case atStart => exact ⟨0, Nat.zero_le _, rfl, by simp, bref _⟩
  case round =>
    obtain ⟨k, hk, rfl, rfl, hb⟩ := hrel
    by_cases hlt : k < n
    · obtain ⟨b, o, rfl, hbl, hc⟩ := H3.out k _ (marksF_get q n k hlt)
      have c0 : wr.cell? ⟨b, o + k * 3, none⟩ = some (.int .i64 (q + 3 * k)) := (hb.cell (p := ⟨b, o + k * 3 + 0, none⟩) hbl).trans (hc 0 _ rfl)
      have c1 : wr.cell? ⟨b, o + k * 3 + 1, none⟩ = some (tv (mtext (q + 3 * k + 1))) := (hb.cell (p := ⟨b, o + k * 3 + 1, none⟩) hbl).trans (hc 1 _ rfl)
      have c2 : wr.cell? ⟨b, o + k * 3 + 2, none⟩ = some (.int .i64 (q + 3 * k + 1 + 1)) := (hb.cell (p := ⟨b, o + k * 3 + 2, none⟩) hbl).trans (hc 2 _ rfl)
      have hk0 : (0 : Int) ≤ (k : Int) := by omega
      have hkn : (k : Int) < (n : Int) := by omega
      clear hc
      go_wp2
      have hbl1 : b < wr.heap.size := Nat.lt_of_lt_of_le hbl hb.size
      go_region_held3 (fun w' => w'.cell? ⟨b, o + k * 3 + 1, none⟩ = some (tv (mtext (q + 3 * k + 1))) ∧ w'.cell? ⟨b, o + k * 3 + 2, none⟩ = some (.int .i64 (q + 3 * k + 1 + 1))) (first | go_keep | exact ⟨e0, e1⟩ | fail)
        ((go_at_call 87; refine (markText_c (q + 3 * k + 1) _ (by omega)).mono ?_; rintro e w1 ⟨rfl, hb1⟩; have e0 := (hb1.cell (p := ⟨b, o + k * 3 + 1, none⟩) hbl1).trans c1; have e1 := (hb1.cell (p := ⟨b, o + k * 3 + 2, none⟩) hbl1).trans c2))
      have hb3 := bdrew hb hb1
      go_wp2
      go_roundw
      case rel => exact ⟨k + 1, by omega, by go_num, by go_num, hb3⟩
      case measure => simp [intOf]; omega
    · go_wp2
      go_ret
      exact ⟨ret_int (by omega), hb⟩

set_option maxHeartbeats 1000000 in
theorem sameInfos_c (xs ys : List Info) (v u : Value) (w : World) (hx : RdT Info.enc 3 w v xs) (hy : RdT Info.enc 3 w u ys) : Calls Tryd.prog 31 #[v, u] w fun e w' =>
    e = .returned (.bool (decide (xs = ys))) ∧ Below w.heap.size w w' := by
  obtain ⟨a, c, rfl, h1, h2, -, h3⟩ := hx
  obtain ⟨a', c', rfl, h1', h2', -, h3'⟩ := hy
  unfold maxLen at h2 h2'
  by_cases hn : xs.length = ys.length
  · have HN := Lib.hid hn
    obtain ⟨n, hn1⟩ : ∃ n, n = xs.length := ⟨_, rfl⟩
    have hn2 : ys.length = n := by omega
    rw [← hn1, hn2]
    have HN1 := Lib.hid hn1
    have HN2 := Lib.hid hn2
    have hnc : n ≤ c := by omega
    have hnc' : n ≤ c' := by omega
    clear hn hn1 hn2 h1 h1'
    have H3 := Lib.hid h3
    have H3' := Lib.hid h3'
    clear h3 h3'
    go_enter Tryd.func31, Tryd.ntmps31
    go_wp2
    go_loopw [5] (fun i wr => ∃ k : Nat, k ≤ n ∧ i = .int .i64 k ∧ Below w.heap.size w wr ∧ Hid (xs.take k = ys.take k)) (fun i _ => n - (intOf i).toNat)
    case atStart => exact ⟨0, Nat.zero_le _, rfl, Below.refl _ _, rfl⟩
    case round =>
      obtain ⟨k, hk, rfl, hb, heq⟩ := hrel
      by_cases hlt : k < n
      · obtain ⟨m, hm⟩ : ∃ m, xs[k]? = some m := ⟨_, List.getElem?_eq_getElem (by have := HN1.out; omega)⟩
        obtain ⟨p, hp⟩ : ∃ m, ys[k]? = some m := ⟨_, List.getElem?_eq_getElem (by have := HN2.out; omega)⟩
        obtain ⟨b, o, rfl, hbl, hc⟩ := H3.out k m hm
        obtain ⟨b', o', rfl, hbl', hc'⟩ := H3'.out k p hp
        have hk0 : (0 : Int) ≤ (k : Int) := by omega
        have hkn : (k : Int) < (n : Int) := by omega
        have c0 := (hb.cell (p := ⟨b, o + k * 3 + 0, none⟩) hbl).trans (hc 0 _ rfl)
        have d0 := (hb.cell (p := ⟨b', o' + k * 3 + 0, none⟩) hbl').trans (hc' 0 _ rfl)
        have c1 := (hb.cell (p := ⟨b, o + k * 3 + 1, none⟩) hbl).trans (hc 1 _ rfl)
        have d1 := (hb.cell (p := ⟨b', o' + k * 3 + 1, none⟩) hbl').trans (hc' 1 _ rfl)
        have c2 := (hb.cell (p := ⟨b, o + k * 3 + 2, none⟩) hbl).trans (hc 2 _ rfl)
        have d2 := (hb.cell (p := ⟨b', o' + k * 3 + 2, none⟩) hbl').trans (hc' 2 _ rfl)
        simp only [Nat.add_zero, Nat.mul_one] at c0 d0 c1 d1 c2 d2
        have HM := Lib.hid hm
        have HP := Lib.hid hp
        clear hc hc' hm hp
        by_cases hmp : m = p
        all_goals
          have HE := Lib.hid hmp
          first | have he := Lib.hid (decide_eq_false hmp) | have he := Lib.hid (decide_eq_true hmp)
          have hne := neqInfo m p; have hgd := guardInfo; first | rw [decide_eq_false hmp] at hne | rw [decide_eq_true hmp] at hne
          clear hmp
          go_wp2
          go_still_tail 8, (by kernel_rfl)
          change wpList _ _ _ _ _ wr.drew
          have hb3 := hb.drew
          go_wp2
        · go_roundw
          case rel => exact ⟨k + 1, by omega, by go_num, hb3, take_eq_succ HM.out HP.out heq HE.out⟩
          case measure => simp [intOf]; omega
        · go_ret
          exact ⟨ret_bool (by rw [eq_comm, decide_eq_false_iff_not]; exact ne_of_get HM.out HP.out HE.out), hb3⟩
      · go_wp2
        go_ret
        refine ⟨ret_bool ?_, hb⟩
        have h1 := HN1.out
        have h2 := HN2.out
        have h3 : k = n := by omega
        have h4 := heq.out
        rw [List.take_of_length_le (by omega), List.take_of_length_le (by omega)] at h4
        simp [h4]
  · go_enter Tryd.func31, Tryd.ntmps31
    go_wp2
    go_ret
    exact ⟨ret_bool (by rw [eq_comm, decide_eq_false_iff_not]; rintro rfl; exact hn rfl), Below.refl _ _⟩

set_option maxHeartbeats 1000000 in
theorem idxInfo_c (g : Nat) (lb : Array Value) (ps : List Bool) (xs : List Info) (v : Value) (w : World) (hl : ps.length = xs.length) (hx : RdT Info.enc 3 w v xs)
    (hg : ∀ (args : Array Value) (w : World), (callFunc g args).run Tryd.prog w = .ok (.enter g args) w)
    (hp : ∀ (k : Nat) (m : Info) (p : Bool) W, xs[k]? = some m → ps[k]? = some p → Below w.heap.size w W → Calls Tryd.prog g (#[m.val] ++ lb) W fun e W' => e = .returned (.bool p) ∧ Below W.heap.size W W') :
    Calls Tryd.prog 110 #[v, .func (.func g) #[] lb] w fun e w' =>
    e = .returned (.int .i64 (idxOf id ps)) ∧ Below w.heap.size w w' := by
  obtain ⟨a, c, rfl, h1, h2, -, h3⟩ := hx
  have H3 := Lib.hid h3
  have HP := Lib.hid hp
  have HL := Lib.hid hl
  clear h3 hp hl
  unfold maxLen at h2
  go_enter Tryd.func110, Tryd.ntmps110
  go_wp2
  go_loopw [8] (fun i wr => ∃ k : Nat, k ≤ xs.length ∧ i = .int .i64 k ∧ Below w.heap.size w wr ∧ Hid ((ps.take k).any id = false)) (fun i _ => xs.length - (intOf i).toNat)
  case atStart => exact ⟨0, Nat.zero_le _, rfl, Below.refl _ _, by simp [Hid]⟩
  case round =>
    obtain ⟨k, hk, rfl, hb, heq⟩ := hrel
    by_cases hlt : k < xs.length
    · obtain ⟨m, hm⟩ : ∃ m, xs[k]? = some m := ⟨_, List.getElem?_eq_getElem hlt⟩
      obtain ⟨p, hpk⟩ : ∃ p, ps[k]? = some p := ⟨_, List.getElem?_eq_getElem (by rw [HL.out]; exact hlt)⟩
      obtain ⟨b, o, rfl, hbl, hc⟩ := H3.out k m hm
      have c0 := (hb.cell (p := ⟨b, o + k * 3 + 0, none⟩) hbl).trans (hc 0 _ rfl)
      have c1 := (hb.cell (p := ⟨b, o + k * 3 + 1, none⟩) hbl).trans (hc 1 _ rfl)
      have c2 := (hb.cell (p := ⟨b, o + k * 3 + 2, none⟩) hbl).trans (hc 2 _ rfl)
      simp only [Nat.add_zero] at c0
      have HM := Lib.hid hm
      have HQ := Lib.hid hpk
      clear hc hm hpk
      cases p
      all_goals
        go_wp2_with fail
        refine (HP.out k m _ _ HM.out HQ.out hb).mono ?_
        rintro e w' ⟨rfl, hb2⟩
        have hb3 := hb.trans (hb2.mono hb.size)
        go_wp2
      · go_roundw
        case rel => exact ⟨k + 1, by omega, by go_num, hb3, any_take_succ HQ.out heq rfl⟩
        case measure => simp [intOf]; omega
      · go_ret
        exact ⟨ret_int (idxOf_at HQ.out heq rfl).symm, hb3⟩
    · go_wp2
      go_ret
      exact ⟨ret_int (idxOf_none (k := k) (by rw [HL.out]; omega) heq.out).symm, hb⟩

theorem hasInfo_c (g : Nat) (lb : Array Value) (ps : List Bool) (xs : List Info) (v : Value) (w : World) (hl : ps.length = xs.length) (hx : RdT Info.enc 3 w v xs)
    (hg : ∀ (args : Array Value) (w : World), (callFunc g args).run Tryd.prog w = .ok (.enter g args) w)
    (hp : ∀ (k : Nat) (m : Info) (p : Bool) W, xs[k]? = some m → ps[k]? = some p → Below w.heap.size w W → Calls Tryd.prog g (#[m.val] ++ lb) W fun e W' => e = .returned (.bool p) ∧ Below W.heap.size W W') :
    Calls Tryd.prog 77 #[v, .func (.func g) #[] lb] w fun e w' =>
    e = .returned (.bool (ps.any id)) ∧ Below w.heap.size w w' := by
  have HL := Lib.hid hl
  have HG := Lib.hid hg
  have HP := Lib.hid hp
  clear hg hp hl
  have hid : decide (0 ≤ idxOf id ps) = ps.any id := by unfold idxOf; cases ps.any id <;> simp
  have HD := Lib.hid hid
  clear hid
  go_enter Tryd.func77, Tryd.ntmps77
  go_wp2_with (go_at_call 110; refine (idxInfo_c g lb ps xs v _ HL.out hx HG.out HP.out).mono ?_; rintro e w' ⟨rfl, hb⟩)
  go_ret
  exact ⟨ret_bool HD.out, hb⟩

theorem cloneInfo_c (xs : List Info) (v : Value) (w : World) (hx : RdT Info.enc 3 w v xs) (hl : xs.length ≤ 2000000) :
    Calls Tryd.prog 72 #[v] w fun e w' => ∃ u, e = .returned u ∧ OwT Info.enc 3 36 w.heap.size w' u xs ∧ Below w.heap.size w w' := by
  have hx' := Lib.hid hx
  obtain ⟨a, c, rfl, h1, h2, h0, h3⟩ := hx
  cases a with
  | none =>
    have hc := h0 rfl
    subst hc
    have hy : xs = [] := List.eq_nil_of_length_eq_zero (by omega)
    subst hy
    have he := fun w => Lib.run_eql_slice_nil (P := Tryd.prog) w 24
    go_enter Tryd.func72, Tryd.ntmps72
    go_wp2
    go_ret
    exact ⟨_, rfl, World.ownsRow_nil _ _ _ _, Below.refl _ _⟩
  | some ad =>
    have he := fun w => Lib.run_eql_slice_nil (P := Tryd.prog) w 24
    clear h3 h0
    go_enter Tryd.func72, Tryd.ntmps72
    go_wp2_with (at_builtin; refine append_T eltInfo rfl _ _ rfl w.heap.size (.slice (some ⟨w.heap.size, 0, none⟩) 0 0) (.slice (some ad) xs.length c) [] xs rfl rfl (OwT.lit eltInfo _ #[] [] rfl (by simp)) (hx'.out.below ((Below.refl _ _).alloc (Nat.le_refl _) _)) (by simp; omega) (by simp) ?_; intro v' w' ho hg hat hnil)
    go_ret
    exact ⟨_, rfl, ho, ((Below.refl _ _).alloc (Nat.le_refl _) _).grown hg (by simp) (by simp [Value.ownBlock])⟩

end Go.Proofs.YtklphfmjdgnpnaaDoor
