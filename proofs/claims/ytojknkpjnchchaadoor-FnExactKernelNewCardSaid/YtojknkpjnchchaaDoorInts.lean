/- Contracts of the helpers' loops over integers. No conditions but the readings of the arguments. -/
import Derived.Test.YtojknkpjnchchaaDoorGen
namespace Go.Proofs.YtojknkpjnchchaaDoor
open Go.ChangeShapes Go.WideShapes Go.RowKit
set_option linter.all false
set_option maxRecDepth 100000
attribute [local go_sem ↓] Go.wp_at_zero Go.wp_at_succ

def encI (x : Int) : List Value := [.int .i64 x]
abbrev RdI := RdT encI 1
abbrev OwI := OwT encI 1 3
theorem encI_len (x : Int) : (encI x).length = 1 := rfl
theorem infoInt : (Tryd.prog.info? 3).map (fun i => (i.zero, i.size, i.bytes)) = some (some (.int .i64 0), 1, 8) := by kernel_rfl
theorem eltInt : Elt Tryd.prog encI 1 3 45 (0 : Int) := by
  obtain ⟨i0, hi, hz0, hz1, hz2⟩ := info_parts infoInt
  refine ⟨encI_len, by decide, ?_, Tryd.underlying45, i0, _, hi, hz0, hz1, by omega, rfl⟩
  intro x u hu
  simp [encI] at hu
  subst hu; rfl

set_option maxHeartbeats 1000000 in
theorem eqIntS_c (xs ys : List Int) (v u : Value) (w : World) (hx : RdT encI 1 w v xs) (hy : RdT encI 1 w u ys) : Calls Tryd.prog 38 #[v, u] w fun e w' =>
    e = .returned (.bool (decide (xs = ys))) ∧ Below w.heap.size w w' := by
  obtain ⟨a, c, rfl, h1, h2, -, h3⟩ := hx
  obtain ⟨a', c', rfl, h1', h2', -, h3'⟩ := hy
  unfold maxLen at h2 h2'
  by_cases hn : xs.length = ys.length
  · have HN := Lib.hid hn
    obtain ⟨n, hn1⟩ : ∃ n, n = xs.length := ⟨_, rfl⟩
    have hn2 : ys.length = n := by omega
    rw [← hn1, hn2]
    have HN1 := Lib.hid hn1
    have HN2 := Lib.hid hn2
    have hnc : n ≤ c := by omega
    have hnc' : n ≤ c' := by omega
    clear hn hn1 hn2 h1 h1'
    have H3 := Lib.hid h3
    have H3' := Lib.hid h3'
    clear h3 h3'
    go_enter Tryd.func38, Tryd.ntmps38
    go_wp2
    go_loopw [5] (fun i wr => ∃ k : Nat, k ≤ n ∧ i = .int .i64 k ∧ Below w.heap.size w wr ∧ Hid (xs.take k = ys.take k)) (fun i _ => n - (intOf i).toNat)
    case atStart => exact ⟨0, Nat.zero_le _, rfl, Below.refl _ _, rfl⟩
    case round =>
      obtain ⟨k, hk, rfl, hb, heq⟩ := hrel
      by_cases hlt : k < n
      · obtain ⟨m, hm⟩ : ∃ m, xs[k]? = some m := ⟨_, List.getElem?_eq_getElem (by have := HN1.out; omega)⟩
        obtain ⟨p, hp⟩ : ∃ m, ys[k]? = some m := ⟨_, List.getElem?_eq_getElem (by have := HN2.out; omega)⟩
        obtain ⟨b, o, rfl, hbl, hc⟩ := H3.out k m hm
        obtain ⟨b', o', rfl, hbl', hc'⟩ := H3'.out k p hp
        have hk0 : (0 : Int) ≤ (k : Int) := by omega
        have hkn : (k : Int) < (n : Int) := by omega
        have c0 := (hb.cell (p := ⟨b, o + k * 1 + 0, none⟩) hbl).trans (hc 0 _ rfl)
        have d0 := (hb.cell (p := ⟨b', o' + k * 1 + 0, none⟩) hbl').trans (hc' 0 _ rfl)
        simp only [Nat.add_zero, Nat.mul_one] at c0 d0
        have HM := Lib.hid hm
        have HP := Lib.hid hp
        clear hc hc' hm hp
        by_cases hmp : m = p
        all_goals
          have HE := Lib.hid hmp
          first | have he := Lib.hid (decide_eq_false hmp) | have he := Lib.hid (decide_eq_true hmp)
          first | have hne : (m != p) = true := bne_iff_ne.2 hmp | have hne : (m != p) = false := by simp [hmp]
          clear hmp
          go_wp2
          go_still_tail 8, (by kernel_rfl)
          change wpList _ _ _ _ _ wr.drew
          have hb3 := hb.drew
          go_wp2
        · go_roundw
          case rel => exact ⟨k + 1, by omega, by go_num, hb3, take_eq_succ HM.out HP.out heq HE.out⟩
          case measure => simp [intOf]; omega
        · go_ret
          exact ⟨ret_bool (by rw [eq_comm, decide_eq_false_iff_not]; exact ne_of_get HM.out HP.out HE.out), hb3⟩
      · go_wp2
        go_ret
        refine ⟨ret_bool ?_, hb⟩
        have h1 := HN1.out
        have h2 := HN2.out
        have h3 : k = n := by omega
        have h4 := heq.out
        rw [List.take_of_length_le (by omega), List.take_of_length_le (by omega)] at h4
        simp [h4]
  · go_enter Tryd.func38, Tryd.ntmps38
    go_wp2
    go_ret
    exact ⟨ret_bool (by rw [eq_comm, decide_eq_false_iff_not]; rintro rfl; exact hn rfl), Below.refl _ _⟩


/-- The marks that a loop lays over integers: from q on. -/
def marksI (q : Int) (n : Nat) : List Int := (List.range n).map fun i => q + (i : Nat)
theorem marksI_len (q : Int) (n : Nat) : (marksI q n).length = n := by simp [marksI]
theorem marksI_get (q : Int) (n k : Nat) (h : k < n) : (marksI q n)[k]? = some (q + k) := by simp [marksI, h]
theorem markIntS_c (xs : List Int) (v : Value) (q : Int) (base : Nat) (w : World) (hx : OwI base w v xs) (hq : 0 ≤ q ∧ q ≤ 100000000) (hl : xs.length ≤ 2000000) : Calls Tryd.prog 43 #[v, .int .i64 q] w fun e w' =>
    e = .returned (.int .i64 (q + xs.length)) ∧ OwI base w' v (marksI q xs.length) ∧ (∀ g, v.ownBlock = some g → w.grownBy w' (some g)) ∧ (v.ownBlock = none → w = w') := by
  rcases hx.2 with ⟨rfl, hn⟩ | ⟨g, c, cur, rfl, -⟩
  · have : xs = [] := List.eq_nil_of_length_eq_zero hn
    subst this
    go_enter Tryd.func43, Tryd.ntmps43
    go_wp2
    refine wp_loop_rounds 1 ?_
    rw [rounds_succ]
    go_wp2
    go_ret
    exact ⟨by simp, World.ownsRow_nil _ _ _ _, by simp [Value.ownBlock], fun _ => rfl⟩
  have hml := marksI_len q xs.length
  have HML := Lib.hid hml
  have hx0 : OwI base w (.slice (some ⟨g, 0, none⟩) xs.length c) (markedBy (marksI q xs.length) xs 0) := by rw [markedBy_zero]; exact hx
  clear hx hml
  go_enter Tryd.func43, Tryd.ntmps43
  go_wp2
  go_loopw [1, 5] (fun t i wr => ∃ k : Nat, k ≤ xs.length ∧ i = .int .i64 k ∧ t = .int .i64 (q + k) ∧ w.grownBy wr (some g) ∧ OwI base wr (.slice (some ⟨g, 0, none⟩) xs.length c) (markedBy (marksI q xs.length) xs k)) (fun _ i _ => xs.length - (intOf i).toNat)
  case atStart => exact ⟨0, Nat.zero_le _, rfl, by simp, World.grownBy.refl _ _, hx0⟩
  case round =>
    obtain ⟨k, hk, rfl, rfl, hg, hok⟩ := hrel
    obtain ⟨e0, e1, e2, e3, e4, hfz, hcs⟩ := hok.open encI_len
    by_cases hlt : k < xs.length
    · obtain ⟨z, hz⟩ : ∃ z, (markedBy (marksI q xs.length) xs k)[k]? = some z := ⟨_, List.getElem?_eq_getElem (by omega)⟩
      have d0 := hcs k z 0 _ hz rfl
      have f0 := hfz k
      simp only [Nat.add_zero, Nat.mul_one] at d0
      have HOK := Lib.hid hok
      have HE0 := Lib.hid e0
      clear hz hcs hfz hok e0
      go_wp2
      have hok2 := HOK.out.stored1 encI_len k (q + k) _ (by have := HE0.out; omega) rfl
      rw [markedBy_step _ _ _ _ HML.out (marksI_get q _ k hlt)] at hok2
      go_roundw
      case rel => exact ⟨k + 1, by omega, by go_num, by go_num, grown_set hg _ _, hok2⟩
      case measure => simp [intOf]; omega
    · clear hcs hfz e0
      go_wp2
      go_ret
      have h3 : k = xs.length := by omega
      refine ⟨ret_int (by omega), ?_, ?_, ?_⟩
      · have hl := HML.out
        rw [h3, markedBy_all _ _ hl] at hok
        unfold OwI OwT at hok ⊢
        rw [hl] at hok ⊢
        exact hok
      · intro g' hg'
        simp [Value.ownBlock] at hg'
        subst hg'
        exact hg
      · simp [Value.ownBlock]

theorem heldIntS_c (n : Nat) (v : Value) (q : Int) (w : World) (hx : RdI w v (marksI q n)) (hq : 0 ≤ q ∧ q ≤ 100000000) (hl : n ≤ 2000000) : Calls Tryd.prog 44 #[v, .int .i64 q] w fun e w' =>
    e = .returned (.int .i64 (q + n)) ∧ w = w' := by
  obtain ⟨a, c, rfl, h1, h2, -, h3⟩ := hx
  rw [marksI_len] at h1 ⊢
  have H3 := Lib.hid h3
  clear h3
  unfold maxLen at h2
  go_enter Tryd.func44, Tryd.ntmps44
  go_wp2
  go_loop [1, 5] (fun t i => ∃ k : Nat, k ≤ n ∧ i = .int .i64 k ∧ t = .int .i64 (q + k)) (fun _ i => n - (intOf i).toNat)
  case atStart => exact ⟨0, Nat.zero_le _, rfl, by simp⟩
  case round =>
    obtain ⟨k, hk, rfl, rfl⟩ := hrel
    by_cases hlt : k < n
    · obtain ⟨b, o, rfl, hbl, hc⟩ := H3.out k _ (marksI_get q n k hlt)
      have c0 : w.cell? ⟨b, o + k, none⟩ = some (.int .i64 (q + k)) := by have := hc 0 _ rfl; simpa using this
      clear hc
      go_wp2
      go_round
      case rel => exact ⟨k + 1, by omega, by go_num, by go_num⟩
      case measure => simp [intOf]; omega
    · go_wp2
      go_ret
      exact ⟨ret_int (by omega), rfl⟩
end Go.Proofs.YtojknkpjnchchaaDoor
