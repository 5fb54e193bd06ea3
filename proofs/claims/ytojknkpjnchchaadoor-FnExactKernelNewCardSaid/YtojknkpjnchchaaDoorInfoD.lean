/- Contracts of the marks over what is known of frames, of its sizes, and of the library's loops over it. No conditions but the readings of the arguments. -/
import Derived.Test.YtojknkpjnchchaaDoorInfoB
namespace Go.Proofs.YtojknkpjnchchaaDoor
open Go.ChangeShapes Go.WideShapes Go.RowKit
set_option linter.all false
set_option maxRecDepth 100000
attribute [local go_sem ↓] Go.wp_at_zero Go.wp_at_succ

def infSum (xs : List Info) : Nat := strSum (xs.map Info.gd)
theorem infSum_take {xs : List Info} {k : Nat} {x : Info} (h : xs[k]? = some x) : infSum (xs.take (k + 1)) = infSum (xs.take k) + x.gd.length := by
  unfold infSum
  rw [List.map_take, List.map_take]
  exact strSum_take (by rw [List.getElem?_map, h]; rfl)
theorem infSum_take_le (xs : List Info) (k : Nat) : infSum (xs.take k) ≤ infSum xs := by
  unfold infSum
  rw [List.map_take]
  exact strSum_take_le _ _
theorem infSum_all {xs : List Info} {k : Nat} (h : xs.length ≤ k) : infSum (xs.take k) = infSum xs := by rw [List.take_of_length_le h]
/-- Texts of a size that a machine can bear. -/
def fitF (xs : List Info) : Prop := ∀ x ∈ xs, x.gd.length ≤ 9223372036854775807
def RdFF (w : World) (v : Value) (xs : List Info) : Prop := RdF w v xs ∧ fitF xs
theorem RdFF.below {w w' : World} {v : Value} {xs : List Info} (h : RdFF w v xs) (hb : Below w.heap.size w w') : RdFF w' v xs := ⟨h.1.below hb, h.2⟩

set_option maxHeartbeats 2000000 in
theorem markInfoS_c (xs : List Info) (v : Value) (q : Int) (base : Nat) (w : World) (hx : OwFr base w v xs) (hq : 1 ≤ q ∧ q ≤ 50000000) (hl : xs.length ≤ 2000000) : Calls Tryd.prog 28 #[v, .int .i64 q] w fun e w' =>
    e = .returned (.int .i64 (q + 3 * xs.length)) ∧ OwFr base w' v (marksF q xs.length) ∧ (∀ g, v.ownBlock = some g → w.grownBy w' (some g)) ∧ (v.ownBlock = none → w = w') := by
  rcases hx.2 with ⟨rfl, hn⟩ | ⟨g, c, cur, rfl, -⟩
  · have : xs = [] := List.eq_nil_of_length_eq_zero hn
    subst this
    go_enter Tryd.func28, Tryd.ntmps28
    go_wp2
    refine wp_loop_rounds 1 ?_
    rw [rounds_succ]
    go_wp2
    go_ret
    exact ⟨by simp, World.ownsRow_nil _ _ _ _, by simp [Value.ownBlock], fun _ => rfl⟩
  have hml := marksF_len q xs.length
  have HML := Lib.hid hml
  have hx0 : OwFr base w (.slice (some ⟨g, 0, none⟩) xs.length c) (markedBy (marksF q xs.length) xs 0) := by rw [markedBy_zero]; exact hx
  clear hx hml
  go_enter Tryd.func28, Tryd.ntmps28
  go_wp2
  go_loopw [1, 5] (fun t i wr => ∃ k : Nat, k ≤ xs.length ∧ i = .int .i64 k ∧ t = .int .i64 (q + 3 * k) ∧ w.grownBy wr (some g) ∧ OwFr base wr (.slice (some ⟨g, 0, none⟩) xs.length c) (markedBy (marksF q xs.length) xs k)) (fun _ i _ => xs.length - (intOf i).toNat)
  case atStart => exact ⟨0, Nat.zero_le _, rfl, by simp, World.grownBy.refl _ _, hx0⟩
  case round =>
    obtain ⟨k, hk, rfl, rfl, hg, hok⟩ := hrel
    by_cases hlt : k < xs.length
    · have HG := Lib.hid hg
      obtain ⟨e0, e1, e2, e3, e4, hfz, hcs⟩ := hok.open Info.enc_len
      obtain ⟨z, hz⟩ : ∃ z, (markedBy (marksF q xs.length) xs k)[k]? = some z := ⟨_, List.getElem?_eq_getElem (by omega)⟩
      have d0 := hcs k z 0 _ hz rfl
      have f0 := hfz (k * 3)
      have hok1 := hok.storeF (j := 0) (x' := ⟨q + 3 * k, z.gd, z.rf⟩) (u := .int .i64 (q + 3 * k)) Info.enc_len hz (by omega) rfl
      simp only [Nat.add_zero] at d0 hok1
      have HOK1 := Lib.hid hok1
      have HE0 := Lib.hid e0
      have HE := Lib.hid (show k < (markedBy (marksF q xs.length) xs k).length from (List.getElem?_eq_some_iff.1 hz).1)
      unfold maxLen at e4
      clear hz hcs hfz hok hg hok1 e0
      go_wp2_with fail
      refine (markText_c (q + 3 * k + 1) _ (by omega)).mono ?_
      rintro e w1 ⟨rfl, hb1⟩
      have hok2 := HOK1.out.below hb1
      have HG1 := Lib.hid (grown_then (grown_set HG.out (k * 3) (.int .i64 (q + 3 * k))) hb1)
      obtain ⟨-, -, i2, -, -, hfz, hcs⟩ := hok2.open Info.enc_len
      have hz2 : ((markedBy (marksF q xs.length) xs k).set k ⟨q + 3 * k, z.gd, z.rf⟩)[k]? = some ⟨q + 3 * k, z.gd, z.rf⟩ := by simp [HE.out]
      have d1 := hcs k _ 1 _ hz2 rfl
      have d2 := hcs k _ 2 _ hz2 rfl
      have f1 := hfz (k * 3 + 1)
      have f2 := hfz (k * 3 + 2)
      have hok3 := hok2.storeF (j := 1) (x' := ⟨q + 3 * k, mtext (q + 3 * k + 1), z.rf⟩) (u := tv (mtext (q + 3 * k + 1))) Info.enc_len hz2 (by omega) rfl
      have hok4 := hok3.storeF (j := 2) (x' := markF q k) (u := .int .i64 (q + 3 * k + 1 + 1)) Info.enc_len (x := ⟨q + 3 * k, mtext (q + 3 * k + 1), z.rf⟩) (k := k) (by simp [HE.out]) (by omega) rfl
      rw [List.set_set, List.set_set, markedBy_step _ _ _ _ HML.out (marksF_get q _ k hlt)] at hok4
      have HOK4 := Lib.hid hok4
      clear hz2 hcs hfz hok2 hok3 hok4 HOK1 HG hb1 d0 f0
      go_wp2
      go_roundw
      case rel => exact ⟨k + 1, by omega, by go_num, by go_num, grown_set (grown_set HG1.out _ _) _ _, HOK4.out⟩
      case measure => simp [intOf]; omega
    · go_wp2
      go_ret
      have h3 : k = xs.length := by omega
      refine ⟨ret_int (by omega), ?_, ?_, ?_⟩
      · have hl := HML.out
        rw [h3, markedBy_all _ _ hl] at hok
        unfold OwFr OwT at hok ⊢
        rw [hl] at hok ⊢
        exact hok
      · intro g' hg'
        simp [Value.ownBlock] at hg'
        subst hg'
        exact hg
      · simp [Value.ownBlock]

set_option maxHeartbeats 2000000 in
theorem heldInfoS_c (n : Nat) (v : Value) (q : Int) (w : World) (hx : RdF w v (marksF q n)) (hq : 1 ≤ q ∧ q ≤ 50000000) (hl : n ≤ 2000000) : Calls Tryd.prog 32 #[v, .int .i64 q] w fun e w' =>
    e = .returned (.int .i64 (q + 3 * n)) ∧ Below w.heap.size w w' := by
  obtain ⟨a, c, rfl, h1, h2, -, h3⟩ := hx
  rw [marksF_len] at h1 ⊢
  have H3 := Lib.hid h3
  clear h3
  unfold maxLen at h2
  go_enter Tryd.func32, Tryd.ntmps32
  go_wp2
  go_loopw [1, 5] (fun t i wr => ∃ k : Nat, k ≤ n ∧ i = .int .i64 k ∧ t = .int .i64 (q + 3 * k) ∧ Below w.heap.size w wr) (fun _ i _ => n - (intOf i).toNat)
  case atStart => exact ⟨0, Nat.zero_le _, rfl, by simp, bref _⟩
  case round =>
    obtain ⟨k, hk, rfl, rfl, hb⟩ := hrel
    by_cases hlt : k < n
    · obtain ⟨b, o, rfl, hbl, hc⟩ := H3.out k _ (marksF_get q n k hlt)
      have c0 : wr.cell? ⟨b, o + k * 3, none⟩ = some (.int .i64 (q + 3 * k)) := (hb.cell (p := ⟨b, o + k * 3 + 0, none⟩) hbl).trans (hc 0 _ rfl)
      have c1 : wr.cell? ⟨b, o + k * 3 + 1, none⟩ = some (tv (mtext (q + 3 * k + 1))) := (hb.cell (p := ⟨b, o + k * 3 + 1, none⟩) hbl).trans (hc 1 _ rfl)
      have c2 : wr.cell? ⟨b, o + k * 3 + 2, none⟩ = some (.int .i64 (q + 3 * k + 1 + 1)) := (hb.cell (p := ⟨b, o + k * 3 + 2, none⟩) hbl).trans (hc 2 _ rfl)
      have hk0 : (0 : Int) ≤ (k : Int) := by omega
      have hkn : (k : Int) < (n : Int) := by omega
      clear hc
      go_wp2
      have hbl1 : b < wr.heap.size := Nat.lt_of_lt_of_le hbl hb.size
      go_region_held3 (fun w' => w'.cell? ⟨b, o + k * 3 + 1, none⟩ = some (tv (mtext (q + 3 * k + 1))) ∧ w'.cell? ⟨b, o + k * 3 + 2, none⟩ = some (.int .i64 (q + 3 * k + 1 + 1))) (first | go_keep | exact ⟨e0, e1⟩ | fail)
        ((go_at_call 42; refine (markText_c (q + 3 * k + 1) _ (by omega)).mono ?_; rintro e w1 ⟨rfl, hb1⟩; have e0 := (hb1.cell (p := ⟨b, o + k * 3 + 1, none⟩) hbl1).trans c1; have e1 := (hb1.cell (p := ⟨b, o + k * 3 + 2, none⟩) hbl1).trans c2))
      have hb3 := bdrew hb hb1
      go_wp2
      go_roundw
      case rel => exact ⟨k + 1, by omega, by go_num, by go_num, hb3⟩
      case measure => simp [intOf]; omega
    · go_wp2
      go_ret
      exact ⟨ret_int (by omega), hb⟩

end Go.Proofs.YtojknkpjnchchaaDoor
