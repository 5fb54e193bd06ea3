/- Contracts of the helpers' loops over what is known of frames. No conditions but the readings of the arguments. -/
import Derived.Test.YtojknkpjnchchaaDoorInfoC
namespace Go.Proofs.YtojknkpjnchchaaDoor
open Go.ChangeShapes Go.WideShapes Go.RowKit
set_option linter.all false
set_option maxRecDepth 100000
attribute [local go_sem ↓] Go.wp_at_zero Go.wp_at_succ

set_option maxHeartbeats 1000000 in
theorem eqInfoS_c (xs ys : List Info) (v u : Value) (w : World) (hx : RdF w v xs) (hy : RdF w u ys) : Calls Tryd.prog 22 #[v, u] w fun e w' =>
    e = .returned (.bool (decide (xs = ys))) ∧ Below w.heap.size w w' := by
  obtain ⟨a, c, rfl, h1, h2, -, h3⟩ := hx
  obtain ⟨a', c', rfl, h1', h2', -, h3'⟩ := hy
  unfold maxLen at h2 h2'
  by_cases hn : xs.length = ys.length
  · have HN := Lib.hid hn
    obtain ⟨n, hn1⟩ : ∃ n, n = xs.length := ⟨_, rfl⟩
    have hn2 : ys.length = n := by omega
    rw [← hn1, hn2]
    have HN1 := Lib.hid hn1
    have HN2 := Lib.hid hn2
    have hnc : n ≤ c := by omega
    clear hn hn1 hn2 h1 h1'
    have H3 := Lib.hid h3
    have H3' := Lib.hid h3'
    clear h3 h3'
    go_enter Tryd.func22, Tryd.ntmps22
    go_wp2
    go_loopw [5] (fun i wr => ∃ k : Nat, k ≤ n ∧ i = .int .i64 k ∧ Below w.heap.size w wr ∧ Hid (xs.take k = ys.take k)) (fun i _ => n - (intOf i).toNat)
    case atStart => exact ⟨0, Nat.zero_le _, rfl, Below.refl _ _, rfl⟩
    case round =>
      obtain ⟨k, hk, rfl, hb, heq⟩ := hrel
      by_cases hlt : k < n
      · obtain ⟨m, hm⟩ : ∃ m, xs[k]? = some m := ⟨_, List.getElem?_eq_getElem (by have := HN1.out; omega)⟩
        obtain ⟨p, hp⟩ : ∃ m, ys[k]? = some m := ⟨_, List.getElem?_eq_getElem (by have := HN2.out; omega)⟩
        obtain ⟨b, o, rfl, hbl, hc⟩ := H3.out k m hm
        obtain ⟨b', o', rfl, hbl', hc'⟩ := H3'.out k p hp
        have c0 := (hb.cell (p := ⟨b, o + k * 3 + 0, none⟩) hbl).trans (hc 0 _ rfl)
        have c1 := (hb.cell (p := ⟨b, o + k * 3 + 1, none⟩) hbl).trans (hc 1 _ rfl)
        have c2 := (hb.cell (p := ⟨b, o + k * 3 + 2, none⟩) hbl).trans (hc 2 _ rfl)
        have c3 := (hb.cell (p := ⟨b', o' + k * 3 + 0, none⟩) hbl').trans (hc' 0 _ rfl)
        have c4 := (hb.cell (p := ⟨b', o' + k * 3 + 1, none⟩) hbl').trans (hc' 1 _ rfl)
        have c5 := (hb.cell (p := ⟨b', o' + k * 3 + 2, none⟩) hbl').trans (hc' 2 _ rfl)
        simp only [Nat.add_zero] at c0 c3
        have HM := Lib.hid hm
        have HP := Lib.hid hp
        clear hc hc' hm hp
        by_cases hmp : m = p
        all_goals
          have HE := Lib.hid hmp
          first | have he := Lib.hid (decide_eq_false hmp) | have he := Lib.hid (decide_eq_true hmp)
          clear hmp
          go_wp2
          go_still_tail 8, (by kernel_rfl)
          change wpList _ _ _ _ _ wr.drew
          go_wp2_with (go_at_call 39; refine (eqInfo_c m p _).mono ?_; rintro e w' ⟨rfl, hb2⟩; rw [he.out]; have hb3 := hb.drew.trans (hb2.mono hb.size))
        · go_roundw
          case rel => exact ⟨k + 1, by omega, by go_num, hb3, take_eq_succ HM.out HP.out heq HE.out⟩
          case measure => simp [intOf]; omega
        · go_ret
          exact ⟨ret_bool (by rw [eq_comm, decide_eq_false_iff_not]; exact ne_of_get HM.out HP.out HE.out), hb3⟩
      · go_wp2
        go_ret
        refine ⟨ret_bool ?_, hb⟩
        have h1 := HN1.out
        have h2 := HN2.out
        have h3 : k = n := by omega
        have h4 := heq.out
        rw [List.take_of_length_le (by omega), List.take_of_length_le (by omega)] at h4
        simp [h4]
  · go_enter Tryd.func22, Tryd.ntmps22
    go_wp2
    go_ret
    exact ⟨ret_bool (by rw [eq_comm, decide_eq_false_iff_not]; rintro rfl; exact hn rfl), Below.refl _ _⟩

/-- The marks that a loop lays: three an element, from q on. -/
def markF (q : Int) (k : Nat) : Info := ⟨q + 3 * k, mtext (q + 3 * k + 1), q + 3 * k + 1 + 1⟩
def marksF (q : Int) (n : Nat) : List Info := (List.range n).map (markF q)
theorem marksF_len (q : Int) (n : Nat) : (marksF q n).length = n := by simp [marksF]
theorem marksF_get (q : Int) (n k : Nat) (h : k < n) : (marksF q n)[k]? = some (markF q k) := by simp [marksF, h]

theorem OwT.storeF {α : Type} {enc : α → List Value} {K e base g n c k j : Nat} {w : World} {xs : List α} {x x' : α} {u : Value} (h : OwT enc K e base w (.slice (some ⟨g, 0, none⟩) n c) xs) (hK : ∀ x, (enc x).length = K) (hx : xs[k]? = some x) (hj : j < K) (he : enc x' = (enc x).set j u) :
    OwT enc K e base (w.setCell ⟨g, k * K + j, none⟩ u) (.slice (some ⟨g, 0, none⟩) n c) (xs.set k x') := by
  have hn := (OwT.open hK h).1
  subst hn
  have s1 := (World.ownsRow.stored h (k * K + j) u).1
  rw [flatMap_setF enc hK xs k x x' j u hx hj he] at s1
  unfold OwT; rw [List.length_set]; exact s1
end Go.Proofs.YtojknkpjnchchaaDoor
