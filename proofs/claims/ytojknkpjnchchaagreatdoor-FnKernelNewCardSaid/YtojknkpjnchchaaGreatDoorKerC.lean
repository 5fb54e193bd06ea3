/- Translations that are remembered: readable and owned slices of them, and the helpers' loops. No conditions but the readings of the arguments. -/
import Derived.Test.YtojknkpjnchchaaGreatDoorKerB
namespace Go.Proofs.YtojknkpjnchchaaGreatDoor
open Go.ChangeShapes Go.WideShapes Go.RowKit
set_option linter.all false
set_option maxRecDepth 100000
attribute [local go_sem ↓] Go.wp_at_zero Go.wp_at_succ

structure Cac where
  en : Int
  pg : Int
  fr : Int
  wr : Bool
deriving DecidableEq
def Cac.enc (m : Cac) : List Value := [.int .i64 m.en, .int .i64 m.pg, .int .i64 m.fr, .bool m.wr]
def Cac.val (m : Cac) : Value := .agg #[.int .i64 m.en, .int .i64 m.pg, .int .i64 m.fr, .bool m.wr]
theorem Cac.enc_len (m : Cac) : m.enc.length = 4 := rfl
abbrev RdC := RdT Cac.enc 4
abbrev OwC := OwT Cac.enc 4 78
theorem infoCac : (Tryz.prog.info? 78).map (fun i => (i.zero, i.size, i.bytes)) = some (some (.agg #[.int .i64 0, .int .i64 0, .int .i64 0, .bool false]), 4, 32) := by kernel_rfl
def Cac.zero : Cac := ⟨0, 0, 0, false⟩

theorem store4 {base g n c k : Nat} {w : World} {xs : List Cac} {m : Cac} (h : OwC base w (.slice (some ⟨g, 0, none⟩) n c) xs) (hk : k < xs.length) :
    OwC base ((((w.setCell ⟨g, k * 4, none⟩ (.int .i64 m.en)).setCell ⟨g, k * 4 + 1, none⟩ (.int .i64 m.pg)).setCell ⟨g, k * 4 + 2, none⟩ (.int .i64 m.fr)).setCell ⟨g, k * 4 + 3, none⟩ (.bool m.wr)) (.slice (some ⟨g, 0, none⟩) n c) (xs.set k m) := by
  obtain ⟨z, hz⟩ : ∃ z, xs[k]? = some z := ⟨_, List.getElem?_eq_getElem hk⟩
  have h1 := h.storeF (j := 0) (x' := ⟨m.en, z.pg, z.fr, z.wr⟩) (u := .int .i64 m.en) Cac.enc_len hz (by omega) rfl
  have h2 := h1.storeF (j := 1) (k := k) (x := ⟨m.en, z.pg, z.fr, z.wr⟩) (x' := ⟨m.en, m.pg, z.fr, z.wr⟩) (u := .int .i64 m.pg) Cac.enc_len (by simp [hk]) (by omega) rfl
  have h3 := h2.storeF (j := 2) (k := k) (x := ⟨m.en, m.pg, z.fr, z.wr⟩) (x' := ⟨m.en, m.pg, m.fr, z.wr⟩) (u := .int .i64 m.fr) Cac.enc_len (by simp [hk]) (by omega) rfl
  have h4 := h3.storeF (j := 3) (k := k) (x := ⟨m.en, m.pg, m.fr, z.wr⟩) (x' := m) (u := .bool m.wr) Cac.enc_len (by simp [hk]) (by omega) rfl
  simp only [List.set_set, Nat.add_zero] at h4
  exact h4

set_option maxHeartbeats 2000000 in
theorem eqCached_c (m n : Cac) (w : World) : Calls Tryz.prog 117 #[m.val, n.val] w fun e w' => e = .returned (.bool (decide (m = n))) ∧ Below w.heap.size w w' := by
  obtain ⟨a, b, c, d⟩ := m
  obtain ⟨a', b', c', d'⟩ := n
  unfold Cac.val
  dsimp only
  simp only [Cac.mk.injEq]
  by_cases h1 : a = a' <;> by_cases h2 : b = b' <;> by_cases h3 : c = c' <;> cases d <;> cases d'
  all_goals
    have H1 := Lib.hid h1
    have H2 := Lib.hid h2
    have H3 := Lib.hid h3
    first
    | have g1 : (a != a') = true := bne_iff_ne.2 h1
    | have g1 : (a != a') = false := by simp [h1]
    first
    | have g2 : (b != b') = true := bne_iff_ne.2 h2
    | have g2 : (b != b') = false := by simp [h2]
    first
    | have g3 : (c != c') = true := bne_iff_ne.2 h3
    | have g3 : (c != c') = false := by simp [h3]
    clear h1 h2 h3
    go_enter Tryz.func117, Tryz.ntmps117
    go_wp2
    go_ret
    exact ⟨ret_bool (by have h1 := H1.out; have h2 := H2.out; have h3 := H3.out; simp [h1, h2, h3]), by go_grown⟩

theorem toCached_c (m : Cac) (w : World) : Calls Tryz.prog 94 #[m.val] w fun e w' => e = .returned m.val ∧ Below w.heap.size w w' := by
  obtain ⟨a, b, c, d⟩ := m
  unfold Cac.val
  dsimp only
  go_enter Tryz.func94, Tryz.ntmps94
  go_wp2
  go_returns
  exact ⟨rfl, by go_grown⟩

theorem szCachedS_c (xs : List Cac) (v : Value) (left : Int) (w : World) (h : RdC w v xs) (hl : 0 ≤ left ∧ left ≤ 1048576) : Calls Tryz.prog 29 #[v, .int .i64 left] w fun e w' =>
    e = .returned (.int .i64 (szv left xs.length)) ∧ w = w' := by
  obtain ⟨a, c, rfl, h1, h2, -⟩ := h
  generalize xs.length = n at *
  unfold maxLen at h2
  go_enter Tryz.func29, Tryz.ntmps29
  go_wp2
  all_goals go_ret
  all_goals exact ⟨ret_int (by unfold szv; split <;> first | rfl | omega), rfl⟩

set_option maxHeartbeats 2000000 in
theorem eqCachedS_c (xs ys : List Cac) (v u : Value) (w : World) (hx : RdC w v xs) (hy : RdC w u ys) : Calls Tryz.prog 55 #[v, u] w fun e w' =>
    e = .returned (.bool (decide (xs = ys))) ∧ Below w.heap.size w w' := by
  obtain ⟨a, c, rfl, h1, h2, -, h3⟩ := hx
  obtain ⟨a', c', rfl, h1', h2', -, h3'⟩ := hy
  unfold maxLen at h2 h2'
  by_cases hn : xs.length = ys.length
  · have HN := Lib.hid hn
    obtain ⟨n, hn1⟩ : ∃ n, n = xs.length := ⟨_, rfl⟩
    have hn2 : ys.length = n := by omega
    rw [← hn1, hn2]
    have HN1 := Lib.hid hn1
    have HN2 := Lib.hid hn2
    have hnc : n ≤ c := by omega
    clear hn hn1 hn2 h1 h1'
    have H3 := Lib.hid h3
    have H3' := Lib.hid h3'
    clear h3 h3'
    go_enter Tryz.func55, Tryz.ntmps55
    go_wp2
    go_loopw [5] (fun i wr => ∃ k : Nat, k ≤ n ∧ i = .int .i64 k ∧ Below w.heap.size w wr ∧ Hid (xs.take k = ys.take k)) (fun i _ => n - (intOf i).toNat)
    case atStart => exact ⟨0, Nat.zero_le _, rfl, Below.refl _ _, rfl⟩
    case round =>
      obtain ⟨k, hk, rfl, hb, heq⟩ := hrel
      by_cases hlt : k < n
      · obtain ⟨m, hm⟩ : ∃ m, xs[k]? = some m := ⟨_, List.getElem?_eq_getElem (by have := HN1.out; omega)⟩
        obtain ⟨p, hp⟩ : ∃ m, ys[k]? = some m := ⟨_, List.getElem?_eq_getElem (by have := HN2.out; omega)⟩
        obtain ⟨b, o, rfl, hbl, hc⟩ := H3.out k m hm
        obtain ⟨b', o', rfl, hbl', hc'⟩ := H3'.out k p hp
        have c0 := (hb.cell (p := ⟨b, o + k * 4 + 0, none⟩) hbl).trans (hc 0 _ rfl)
        have c1 := (hb.cell (p := ⟨b, o + k * 4 + 1, none⟩) hbl).trans (hc 1 _ rfl)
        have c2 := (hb.cell (p := ⟨b, o + k * 4 + 2, none⟩) hbl).trans (hc 2 _ rfl)
        have c3 := (hb.cell (p := ⟨b, o + k * 4 + 3, none⟩) hbl).trans (hc 3 _ rfl)
        have c4 := (hb.cell (p := ⟨b', o' + k * 4 + 0, none⟩) hbl').trans (hc' 0 _ rfl)
        have c5 := (hb.cell (p := ⟨b', o' + k * 4 + 1, none⟩) hbl').trans (hc' 1 _ rfl)
        have c6 := (hb.cell (p := ⟨b', o' + k * 4 + 2, none⟩) hbl').trans (hc' 2 _ rfl)
        have c7 := (hb.cell (p := ⟨b', o' + k * 4 + 3, none⟩) hbl').trans (hc' 3 _ rfl)
        simp only [Nat.add_zero] at c0 c4
        have HM := Lib.hid hm
        have HP := Lib.hid hp
        clear hc hc' hm hp
        by_cases hmp : m = p
        all_goals
          have HE := Lib.hid hmp
          first | have he := Lib.hid (decide_eq_false hmp) | have he := Lib.hid (decide_eq_true hmp)
          clear hmp
          go_wp2
          go_still_tail 8, (by kernel_rfl)
          change wpList _ _ _ _ _ wr.drew
          go_wp2_with (go_at_call 117; refine (eqCached_c m p _).mono ?_; rintro e w' ⟨rfl, hb2⟩; rw [he.out]; have hb3 := hb.drew.trans (hb2.mono hb.size))
        · go_roundw
          case rel => exact ⟨k + 1, by omega, by go_num, hb3, take_eq_succ HM.out HP.out heq HE.out⟩
          case measure => simp [intOf]; omega
        · go_ret
          exact ⟨ret_bool (by rw [eq_comm, decide_eq_false_iff_not]; exact ne_of_get HM.out HP.out HE.out), hb3⟩
      · go_wp2
        go_ret
        refine ⟨ret_bool ?_, hb⟩
        have h1 := HN1.out
        have h2 := HN2.out
        have h3 : k = n := by omega
        have h4 := heq.out
        rw [List.take_of_length_le (by omega), List.take_of_length_le (by omega)] at h4
        simp [h4]
  · go_enter Tryz.func55, Tryz.ntmps55
    go_wp2
    go_ret
    exact ⟨ret_bool (by rw [eq_comm, decide_eq_false_iff_not]; rintro rfl; exact hn rfl), Below.refl _ _⟩

set_option maxHeartbeats 2000000 in
theorem toCachedS_c (xs : List Cac) (v : Value) (w : World) (hx : RdC w v xs) (hl : xs.length ≤ 1048576) : Calls Tryz.prog 40 #[v] w fun e w' =>
    ∃ u, e = .returned u ∧ OwC w.heap.size w' u xs ∧ Below w.heap.size w w' := by
  obtain ⟨a, c, rfl, h1, h2, -, h3⟩ := hx
  unfold maxLen at h2
  obtain ⟨n, hn1⟩ : ∃ n, n = xs.length := ⟨_, rfl⟩
  rw [← hn1] at h1 hl ⊢
  have HN := Lib.hid hn1
  have H3 := Lib.hid h3
  clear h3 hn1
  obtain ⟨i0, hi, hz0, hz1, hz2⟩ := info_parts infoCac
  go_enter Tryz.func40, Tryz.ntmps40
  go_wp2_with (refine wpList_make_full _ rfl _ _ 32 rfl w.heap.size 78 i0 (.agg #[.int .i64 0, .int .i64 0, .int .i64 0, .bool false]) 4 Tryz.underlying32 hi hz0 hz1 .i64 .i64 _ _ n rfl rfl rfl rfl ?c1 ?c2 ?c3 ?_)
  case c1 => rw [hz2]; omega
  case c2 => unfold maxLen; omega
  case c3 => exact Nat.le_refl _
  · intro w1 hown hg
    have hb1 := grown_below hg
    have hs1 := hg.size
    rw [made_flat Cac.enc 4 Cac.enc_len (by decide) Cac.zero #[.int .i64 0, .int .i64 0, .int .i64 0, .bool false] rfl n] at hown
    have ho : OwC w.heap.size w1 (.slice (some ⟨w.heap.size, 0, none⟩) n n) (filled Cac.zero xs 0) := by
      unfold OwC OwT; rw [filled_zero, ← HN.out]; simpa using hown
    clear hown hg
    go_wp2
    go_loopw [4] (fun i wr => ∃ k : Nat, k ≤ n ∧ i = .int .i64 k ∧ Below w.heap.size w wr ∧ OwC w.heap.size wr (.slice (some ⟨w.heap.size, 0, none⟩) n n) (filled Cac.zero xs k)) (fun i _ => n - (intOf i).toNat)
    case atStart => exact ⟨0, Nat.zero_le _, rfl, hb1, ho⟩
    case round =>
      obtain ⟨k, hk, rfl, hb, hok⟩ := hrel
      obtain ⟨e0, e1, e2, e3, e4, hfz, hcs⟩ := hok.open Cac.enc_len
      by_cases hlt : k < n
      · obtain ⟨m, hm⟩ : ∃ m, xs[k]? = some m := ⟨_, List.getElem?_eq_getElem (by have := HN.out; omega)⟩
        obtain ⟨z, hz⟩ : ∃ z, (filled Cac.zero xs k)[k]? = some z := ⟨_, List.getElem?_eq_getElem (by omega)⟩
        obtain ⟨b, o, rfl, hbl, hc⟩ := H3.out k m hm
        have c0 := (hb.cell (p := ⟨b, o + k * 4 + 0, none⟩) hbl).trans (hc 0 _ rfl)
        have c1 := (hb.cell (p := ⟨b, o + k * 4 + 1, none⟩) hbl).trans (hc 1 _ rfl)
        have c2 := (hb.cell (p := ⟨b, o + k * 4 + 2, none⟩) hbl).trans (hc 2 _ rfl)
        have c3 := (hb.cell (p := ⟨b, o + k * 4 + 3, none⟩) hbl).trans (hc 3 _ rfl)
        have d0 := hcs k z 0 _ hz rfl
        have d1 := hcs k z 1 _ hz rfl
        have d2 := hcs k z 2 _ hz rfl
        have d3 := hcs k z 3 _ hz rfl
        have f0 := hfz (k * 4)
        have f1 := hfz (k * 4 + 1)
        have f2 := hfz (k * 4 + 2)
        have f3 := hfz (k * 4 + 3)
        simp only [Nat.add_zero] at c0 d0
        have HM := Lib.hid hm
        have HOK := Lib.hid hok
        have HE0 := Lib.hid e0
        clear hc hm hz hcs hfz hok e0
        go_wp2_with (go_at_call 94; refine (toCached_c m _).mono ?_; rintro e w' ⟨rfl, hb2⟩; have c0' := (hb2.cell (p := ⟨w.heap.size, k * 4, none⟩) e2).trans d0; have c1' := (hb2.cell (p := ⟨w.heap.size, k * 4 + 1, none⟩) e2).trans d1; have c2' := (hb2.cell (p := ⟨w.heap.size, k * 4 + 2, none⟩) e2).trans d2; have f0' := (hb2.frozen (p := ⟨w.heap.size, k * 4, none⟩) e2).trans f0; have f1' := (hb2.frozen (p := ⟨w.heap.size, k * 4 + 1, none⟩) e2).trans f1; have f2' := (hb2.frozen (p := ⟨w.heap.size, k * 4 + 2, none⟩) e2).trans f2; have c3' := (hb2.cell (p := ⟨w.heap.size, k * 4 + 3, none⟩) e2).trans d3; have f3' := (hb2.frozen (p := ⟨w.heap.size, k * 4 + 3, none⟩) e2).trans f3; unfold Cac.val)
        have hok2 := store4 (k := k) (HOK.out.below hb2) (m := m) (by have := HE0.out; omega)
        rw [filled_step _ _ _ _ HM.out] at hok2
        have hb4 : Below w.heap.size w w' := hb.trans (hb2.mono hb.size)
        go_roundw
        case rel => exact ⟨k + 1, by omega, by go_num, (((hb4.setCell (Nat.le_refl _) _).setCell (Nat.le_refl _) _).setCell (Nat.le_refl _) _).setCell (Nat.le_refl _) _, hok2⟩
        case measure => simp [intOf]; omega
      · go_wp2
        go_ret
        refine ⟨_, rfl, ?_, hb⟩
        have h1 := HN.out
        have h3 : k = xs.length := by omega
        rw [h3, filled_all] at hok
        exact hok

/-- The marks that a loop lays: four an element, from q on. -/
def markC (q : Int) (k : Nat) : Cac := ⟨q + 4 * k, q + 4 * k + 1, q + 4 * k + 1 + 1, (q + 4 * k + 1 + 1 + 1) % 3 == 0⟩
def marksC (q : Int) (n : Nat) : List Cac := (List.range n).map (markC q)
theorem marksC_len (q : Int) (n : Nat) : (marksC q n).length = n := by simp [marksC]
theorem marksC_get (q : Int) (n k : Nat) (h : k < n) : (marksC q n)[k]? = some (markC q k) := by simp [marksC, h]

end Go.Proofs.YtojknkpjnchchaaGreatDoor
