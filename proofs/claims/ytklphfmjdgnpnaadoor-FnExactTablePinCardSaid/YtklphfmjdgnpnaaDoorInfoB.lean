/- Contracts of the helpers' loops over what is known of frames. No conditions but the readings of the arguments. -/
import Derived.Test.YtklphfmjdgnpnaaDoorInfoC
namespace Go.Proofs.YtklphfmjdgnpnaaDoor
open Go.ChangeShapes Go.WideShapes Go.RowKit
set_option linter.all false
set_option maxRecDepth 100000
attribute [local go_sem ↓] Go.wp_at_zero Go.wp_at_succ

set_option maxHeartbeats 1000000 in
theorem eqInfoS_c (xs ys : List Info) (v u : Value) (w : World) (hx : RdF w v xs) (hy : RdF w u ys) : Calls Tryd.prog 44 #[v, u] w fun e w' =>
    e = .returned (.bool (decide (xs = ys))) ∧ Below w.heap.size w w' := by
  obtain ⟨a, c, rfl, h1, h2, -, h3⟩ := hx
  obtain ⟨a', c', rfl, h1', h2', -, h3'⟩ := hy
  unfold maxLen at h2 h2'
  by_cases hn : xs.length = ys.length
  · have HN := Lib.hid hn
    obtain ⟨n, hn1⟩ : ∃ n, n = xs.length := ⟨_, rfl⟩
    have hn2 : ys.length = n := by omega
    rw [← hn1, hn2]
    have HN1 := Lib.hid hn1
    have HN2 := Lib.hid hn2
    have hnc : n ≤ c := by omega
    clear hn hn1 hn2 h1 h1'
    have H3 := Lib.hid h3
    have H3' := Lib.hid h3'
    clear h3 h3'
    go_enter Tryd.func44, Tryd.ntmps44
    go_wp2
    go_loopw [5] (fun i wr => ∃ k : Nat, k ≤ n ∧ i = .int .i64 k ∧ Below w.heap.size w wr ∧ Hid (xs.take k = ys.take k)) (fun i _ => n - (intOf i).toNat)
    case atStart => exact ⟨0, Nat.zero_le _, rfl, Below.refl _ _, rfl⟩
    case round =>
      obtain ⟨k, hk, rfl, hb, heq⟩ := hrel
      by_cases hlt : k < n
      · obtain ⟨m, hm⟩ : ∃ m, xs[k]? = some m := ⟨_, List.getElem?_eq_getElem (by have := HN1.out; omega)⟩
        obtain ⟨p, hp⟩ : ∃ m, ys[k]? = some m := ⟨_, List.getElem?_eq_getElem (by have := HN2.out; omega)⟩
        obtain ⟨b, o, rfl, hbl, hc⟩ := H3.out k m hm
        obtain ⟨b', o', rfl, hbl', hc'⟩ := H3'.out k p hp
        have c0 := (hb.cell (p := ⟨b, o + k * 3 + 0, none⟩) hbl).trans (hc 0 _ rfl)
        have c1 := (hb.cell (p := ⟨b, o + k * 3 + 1, none⟩) hbl).trans (hc 1 _ rfl)
        have c2 := (hb.cell (p := ⟨b, o + k * 3 + 2, none⟩) hbl).trans (hc 2 _ rfl)
        have c3 := (hb.cell (p := ⟨b', o' + k * 3 + 0, none⟩) hbl').trans (hc' 0 _ rfl)
        have c4 := (hb.cell (p := ⟨b', o' + k * 3 + 1, none⟩) hbl').trans (hc' 1 _ rfl)
        have c5 := (hb.cell (p := ⟨b', o' + k * 3 + 2, none⟩) hbl').trans (hc' 2 _ rfl)
        simp only [Nat.add_zero] at c0 c3
        have HM := Lib.hid hm
        have HP := Lib.hid hp
        clear hc hc' hm hp
        by_cases hmp : m = p
        all_goals
          have HE := Lib.hid hmp
          first | have he := Lib.hid (decide_eq_false hmp) | have he := Lib.hid (decide_eq_true hmp)
          clear hmp
          go_wp2
          go_still_tail 8, (by kernel_rfl)
          change wpList _ _ _ _ _ wr.drew
          go_wp2_with (go_at_call 84; refine (eqInfo_c m p _).mono ?_; rintro e w' ⟨rfl, hb2⟩; rw [he.out]; have hb3 := hb.drew.trans (hb2.mono hb.size))
        · go_roundw
          case rel => exact ⟨k + 1, by omega, by go_num, hb3, take_eq_succ HM.out HP.out heq HE.out⟩
          case measure => simp [intOf]; omega
        · go_ret
          exact ⟨ret_bool (by rw [eq_comm, decide_eq_false_iff_not]; exact ne_of_get HM.out HP.out HE.out), hb3⟩
      · go_wp2
        go_ret
        refine ⟨ret_bool ?_, hb⟩
        have h1 := HN1.out
        have h2 := HN2.out
        have h3 : k = n := by omega
        have h4 := heq.out
        rw [List.take_of_length_le (by omega), List.take_of_length_le (by omega)] at h4
        simp [h4]
  · go_enter Tryd.func44, Tryd.ntmps44
    go_wp2
    go_ret
    exact ⟨ret_bool (by rw [eq_comm, decide_eq_false_iff_not]; rintro rfl; exact hn rfl), Below.refl _ _⟩

theorem toInfoS_c (xs : List Info) (v : Value) (w : World) (hx : RdF w v xs) (hl : xs.length ≤ 1048576) : Calls Tryd.prog 42 #[v] w fun e w' =>
    ∃ u, e = .returned u ∧ OwFr w.heap.size w' u xs ∧ Below w.heap.size w w' := by
  obtain ⟨a, c, rfl, h1, h2, -, h3⟩ := hx
  unfold maxLen at h2
  obtain ⟨n, hn1⟩ : ∃ n, n = xs.length := ⟨_, rfl⟩
  rw [← hn1] at h1 hl ⊢
  have HN := Lib.hid hn1
  have H3 := Lib.hid h3
  clear h3 hn1
  obtain ⟨i0, hi, hz0, hz1, hz2⟩ := info_parts infoInfo
  go_enter Tryd.func42, Tryd.ntmps42
  go_wp2_with (refine wpList_make_full _ rfl _ _ 24 rfl w.heap.size 36 i0 (.agg #[.int .i64 0, .string ⟨#[]⟩, .int .i64 0]) 3 Tryd.underlying24 hi hz0 hz1 .i64 .i64 _ _ n rfl rfl rfl rfl ?c1 ?c2 ?c3 ?_)
  case c1 => rw [hz2]; omega
  case c2 => unfold maxLen; omega
  case c3 => exact Nat.le_refl _
  · intro w1 hown hg
    have hb1 := grown_below hg
    have hs1 := hg.size
    rw [made_flat Info.enc 3 Info.enc_len (by decide) Info.zero #[.int .i64 0, .string ⟨#[]⟩, .int .i64 0] rfl n] at hown
    have ho : OwFr w.heap.size w1 (.slice (some ⟨w.heap.size, 0, none⟩) n n) (filled Info.zero xs 0) := by
      unfold OwFr OwT; rw [filled_zero, ← HN.out]; simpa using hown
    clear hown hg
    go_wp2
    go_loopw [4] (fun i wr => ∃ k : Nat, k ≤ n ∧ i = .int .i64 k ∧ Below w.heap.size w wr ∧ OwFr w.heap.size wr (.slice (some ⟨w.heap.size, 0, none⟩) n n) (filled Info.zero xs k)) (fun i _ => n - (intOf i).toNat)
    case atStart => exact ⟨0, Nat.zero_le _, rfl, hb1, ho⟩
    case round =>
      obtain ⟨k, hk, rfl, hb, hok⟩ := hrel
      obtain ⟨e0, e1, e2, e3, e4, hfz, hcs⟩ := hok.open Info.enc_len
      by_cases hlt : k < n
      · obtain ⟨m, hm⟩ : ∃ m, xs[k]? = some m := ⟨_, List.getElem?_eq_getElem (by have := HN.out; omega)⟩
        obtain ⟨z, hz⟩ : ∃ z, (filled Info.zero xs k)[k]? = some z := ⟨_, List.getElem?_eq_getElem (by omega)⟩
        obtain ⟨b, o, rfl, hbl, hc⟩ := H3.out k m hm
        have c0 := (hb.cell (p := ⟨b, o + k * 3 + 0, none⟩) hbl).trans (hc 0 _ rfl)
        have c1 := (hb.cell (p := ⟨b, o + k * 3 + 1, none⟩) hbl).trans (hc 1 _ rfl)
        have c2 := (hb.cell (p := ⟨b, o + k * 3 + 2, none⟩) hbl).trans (hc 2 _ rfl)
        have d0 := hcs k z 0 _ hz rfl
        have d1 := hcs k z 1 _ hz rfl
        have d2 := hcs k z 2 _ hz rfl
        have f0 := hfz (k * 3)
        have f1 := hfz (k * 3 + 1)
        have f2 := hfz (k * 3 + 2)
        simp only [Nat.add_zero] at c0 d0
        have HM := Lib.hid hm
        have HOK := Lib.hid hok
        have HE0 := Lib.hid e0
        clear hc hm hz hcs hfz hok e0
        go_wp2_with (go_at_call 83; refine (toInfo_c m _).mono ?_; rintro e w' ⟨rfl, hb2⟩; have c0' := (hb2.cell (p := ⟨w.heap.size, k * 3, none⟩) e2).trans d0; have c1' := (hb2.cell (p := ⟨w.heap.size, k * 3 + 1, none⟩) e2).trans d1; have c2' := (hb2.cell (p := ⟨w.heap.size, k * 3 + 2, none⟩) e2).trans d2; have f0' := (hb2.frozen (p := ⟨w.heap.size, k * 3, none⟩) e2).trans f0; have f1' := (hb2.frozen (p := ⟨w.heap.size, k * 3 + 1, none⟩) e2).trans f1; have f2' := (hb2.frozen (p := ⟨w.heap.size, k * 3 + 2, none⟩) e2).trans f2; unfold Info.val)
        have hok2 := (HOK.out.below hb2).stored3 Info.enc_len k m _ _ _ (by have := HE0.out; omega) rfl
        rw [filled_step _ _ _ _ HM.out] at hok2
        have hb4 : Below w.heap.size w w' := hb.trans (hb2.mono hb.size)
        go_roundw
        case rel => exact ⟨k + 1, by omega, by go_num, ((hb4.setCell (Nat.le_refl _) _).setCell (Nat.le_refl _) _).setCell (Nat.le_refl _) _, hok2⟩
        case measure => simp [intOf]; omega
      · go_wp2
        go_ret
        refine ⟨_, rfl, ?_, hb⟩
        have h1 := HN.out
        have h3 : k = xs.length := by omega
        rw [h3, filled_all] at hok
        exact hok


/-- The marks that a loop lays: three an element, from q on. -/
def markF (q : Int) (k : Nat) : Info := ⟨q + 3 * k, mtext (q + 3 * k + 1), q + 3 * k + 1 + 1⟩
def marksF (q : Int) (n : Nat) : List Info := (List.range n).map (markF q)
theorem marksF_len (q : Int) (n : Nat) : (marksF q n).length = n := by simp [marksF]
theorem marksF_get (q : Int) (n k : Nat) (h : k < n) : (marksF q n)[k]? = some (markF q k) := by simp [marksF, h]

theorem OwT.storeF {α : Type} {enc : α → List Value} {K e base g n c k j : Nat} {w : World} {xs : List α} {x x' : α} {u : Value} (h : OwT enc K e base w (.slice (some ⟨g, 0, none⟩) n c) xs) (hK : ∀ x, (enc x).length = K) (hx : xs[k]? = some x) (hj : j < K) (he : enc x' = (enc x).set j u) :
    OwT enc K e base (w.setCell ⟨g, k * K + j, none⟩ u) (.slice (some ⟨g, 0, none⟩) n c) (xs.set k x') := by
  have hn := (OwT.open hK h).1
  subst hn
  have s1 := (World.ownsRow.stored h (k * K + j) u).1
  rw [flatMap_setF enc hK xs k x x' j u hx hj he] at s1
  unfold OwT; rw [List.length_set]; exact s1
end Go.Proofs.YtklphfmjdgnpnaaDoor
