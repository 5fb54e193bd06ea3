/- Contracts of the loops over messages that the statements' helpers run. No conditions but the readings of the arguments. -/
import Derived.Test.YtkpdjnfgmgnjdaaMailA
import Derived.Test.YtkpdjnfgmgnjdaaInts
namespace Go.Proofs.Ytkpdjnfgmgnjdaa
open Go.ChangeShapes Go.WideShapes Go.RowKit
set_option linter.all false
attribute [local go_sem ↓] Go.wp_at_zero Go.wp_at_succ

theorem eqMailS_c (xs ys : List Mail) (v u : Value) (w : World) (hx : RdM w v xs) (hy : RdM w u ys) : Calls Try.prog 25 #[v, u] w fun e w' =>
    e = .returned (.bool (decide (xs = ys))) ∧ Below w.heap.size w w' := by
  obtain ⟨a, c, rfl, h1, h2, -, h3⟩ := hx
  obtain ⟨a', c', rfl, h1', h2', -, h3'⟩ := hy
  unfold maxLen at h2 h2'
  by_cases hn : xs.length = ys.length
  · have HN := Lib.hid hn
    obtain ⟨n, hn1⟩ : ∃ n, n = xs.length := ⟨_, rfl⟩
    have hn2 : ys.length = n := by omega
    rw [← hn1, hn2]
    have HN1 := Lib.hid hn1
    have HN2 := Lib.hid hn2
    have hnc : n ≤ c := by omega
    clear hn hn1 hn2 h1 h1'
    have H3 := Lib.hid h3
    have H3' := Lib.hid h3'
    clear h3 h3'
    go_enter Try.func25, Try.ntmps25
    go_wp2
    go_loopw [5] (fun i wr => ∃ k : Nat, k ≤ n ∧ i = .int .i64 k ∧ Below w.heap.size w wr ∧ Hid (xs.take k = ys.take k)) (fun i _ => n - (intOf i).toNat)
    case atStart => exact ⟨0, Nat.zero_le _, rfl, Below.refl _ _, rfl⟩
    case round =>
      obtain ⟨k, hk, rfl, hb, heq⟩ := hrel
      by_cases hlt : k < n
      · obtain ⟨m, hm⟩ : ∃ m, xs[k]? = some m := ⟨_, List.getElem?_eq_getElem (by have := HN1.out; omega)⟩
        obtain ⟨p, hp⟩ : ∃ m, ys[k]? = some m := ⟨_, List.getElem?_eq_getElem (by have := HN2.out; omega)⟩
        obtain ⟨b, o, rfl, hbl, hc⟩ := H3.out k m hm
        obtain ⟨b', o', rfl, hbl', hc'⟩ := H3'.out k p hp
        have c0 := (hb.cell (p := ⟨b, o + k * 3 + 0, none⟩) hbl).trans (hc 0 _ rfl)
        have c1 := (hb.cell (p := ⟨b, o + k * 3 + 1, none⟩) hbl).trans (hc 1 _ rfl)
        have c2 := (hb.cell (p := ⟨b, o + k * 3 + 2, none⟩) hbl).trans (hc 2 _ rfl)
        have c3 := (hb.cell (p := ⟨b', o' + k * 3 + 0, none⟩) hbl').trans (hc' 0 _ rfl)
        have c4 := (hb.cell (p := ⟨b', o' + k * 3 + 1, none⟩) hbl').trans (hc' 1 _ rfl)
        have c5 := (hb.cell (p := ⟨b', o' + k * 3 + 2, none⟩) hbl').trans (hc' 2 _ rfl)
        simp only [Nat.add_zero] at c0 c3
        have HM := Lib.hid hm
        have HP := Lib.hid hp
        clear hc hc' hm hp
        by_cases hmp : m = p
        all_goals
          have HE := Lib.hid hmp
          first | have he := Lib.hid (decide_eq_false hmp) | have he := Lib.hid (decide_eq_true hmp)
          clear hmp
          go_wp2
          go_still_tail 8, (by kernel_rfl)
          change wpList _ _ _ _ _ wr.drew
          go_wp2_with (go_at_call 43; refine (eqMail_c m p _).mono ?_; rintro e w' ⟨rfl, hb2⟩; rw [he.out]; have hb3 := hb.drew.trans (hb2.mono hb.size))
        · go_roundw
          case rel => exact ⟨k + 1, by omega, by go_num, hb3, take_eq_succ HM.out HP.out heq HE.out⟩
          case measure => simp [intOf]; omega
        · go_ret
          exact ⟨ret_bool (by rw [eq_comm, decide_eq_false_iff_not]; exact ne_of_get HM.out HP.out HE.out), hb3⟩
      · go_wp2
        go_ret
        refine ⟨ret_bool ?_, hb⟩
        have h1 := HN1.out
        have h2 := HN2.out
        have h3 : k = n := by omega
        have h4 := heq.out
        rw [List.take_of_length_le (by omega), List.take_of_length_le (by omega)] at h4
        simp [h4]
  · go_enter Try.func25, Try.ntmps25
    go_wp2
    go_ret
    exact ⟨ret_bool (by rw [eq_comm, decide_eq_false_iff_not]; rintro rfl; exact hn rfl), Below.refl _ _⟩

theorem infoMail : (Try.prog.info? 31).map (fun i => (i.zero, i.size, i.bytes)) = some (some (.agg #[.int .i64 0, .int .i64 0, .int .i64 0]), 3, 24) := by kernel_rfl

theorem toMailS_c (xs : List Mail) (v : Value) (w : World) (hx : RdM w v xs) (hl : xs.length ≤ 1048576) : Calls Try.prog 24 #[v] w fun e w' =>
    ∃ u, e = .returned u ∧ OwM w.heap.size w' u xs ∧ Below w.heap.size w w' := by
  obtain ⟨a, c, rfl, h1, h2, -, h3⟩ := hx
  unfold maxLen at h2
  obtain ⟨n, hn1⟩ : ∃ n, n = xs.length := ⟨_, rfl⟩
  rw [← hn1] at h1 hl ⊢
  have HN := Lib.hid hn1
  have H3 := Lib.hid h3
  clear h3 hn1
  obtain ⟨i0, hi, hz0, hz1, hz2⟩ := info_parts infoMail
  go_enter Try.func24, Try.ntmps24
  go_wp2_with (refine wpList_make_full _ rfl _ _ 27 rfl w.heap.size 31 i0 (.agg #[.int .i64 0, .int .i64 0, .int .i64 0]) 3 Try.underlying27 hi hz0 hz1 .i64 .i64 _ _ n rfl rfl rfl rfl ?c1 ?c2 ?c3 ?_)
  case c1 => rw [hz2]; omega
  case c2 => unfold maxLen; omega
  case c3 => exact Nat.le_refl _
  · intro w1 hown hg
    have hb1 := grown_below hg
    have hs1 := hg.size
    rw [made_flat Mail.enc 3 Mail.enc_len (by decide) (⟨0, 0, 0⟩ : Mail) #[.int .i64 0, .int .i64 0, .int .i64 0] rfl n] at hown
    have ho : OwM w.heap.size w1 (.slice (some ⟨w.heap.size, 0, none⟩) n n) (filled ⟨0, 0, 0⟩ xs 0) := by
      unfold OwM OwT; rw [filled_zero, ← HN.out]; simpa using hown
    clear hown hg
    go_wp2
    go_loopw [4] (fun i wr => ∃ k : Nat, k ≤ n ∧ i = .int .i64 k ∧ Below w.heap.size w wr ∧ OwM w.heap.size wr (.slice (some ⟨w.heap.size, 0, none⟩) n n) (filled ⟨0, 0, 0⟩ xs k)) (fun i _ => n - (intOf i).toNat)
    case atStart => exact ⟨0, Nat.zero_le _, rfl, hb1, ho⟩
    case round =>
      obtain ⟨k, hk, rfl, hb, hok⟩ := hrel
      obtain ⟨e0, e1, e2, e3, e4, hfz, hcs⟩ := hok.open Mail.enc_len
      by_cases hlt : k < n
      · obtain ⟨m, hm⟩ : ∃ m, xs[k]? = some m := ⟨_, List.getElem?_eq_getElem (by have := HN.out; omega)⟩
        obtain ⟨z, hz⟩ : ∃ z, (filled ⟨0, 0, 0⟩ xs k)[k]? = some z := ⟨_, List.getElem?_eq_getElem (by omega)⟩
        obtain ⟨b, o, rfl, hbl, hc⟩ := H3.out k m hm
        have c0 := (hb.cell (p := ⟨b, o + k * 3 + 0, none⟩) hbl).trans (hc 0 _ rfl)
        have c1 := (hb.cell (p := ⟨b, o + k * 3 + 1, none⟩) hbl).trans (hc 1 _ rfl)
        have c2 := (hb.cell (p := ⟨b, o + k * 3 + 2, none⟩) hbl).trans (hc 2 _ rfl)
        have d0 := hcs k z 0 _ hz rfl
        have d1 := hcs k z 1 _ hz rfl
        have d2 := hcs k z 2 _ hz rfl
        have f0 := hfz (k * 3)
        have f1 := hfz (k * 3 + 1)
        have f2 := hfz (k * 3 + 2)
        simp only [Nat.add_zero] at c0 d0
        have HM := Lib.hid hm
        have HOK := Lib.hid hok
        have HE0 := Lib.hid e0
        clear hc hm hz hcs hfz hok e0
        go_wp2_with (go_at_call 37; refine (toMail_c m _).mono ?_; rintro e w' ⟨rfl, hb2⟩; have c0' := (hb2.cell (p := ⟨w.heap.size, k * 3, none⟩) e2).trans d0; have c1' := (hb2.cell (p := ⟨w.heap.size, k * 3 + 1, none⟩) e2).trans d1; have c2' := (hb2.cell (p := ⟨w.heap.size, k * 3 + 2, none⟩) e2).trans d2; have f0' := (hb2.frozen (p := ⟨w.heap.size, k * 3, none⟩) e2).trans f0; have f1' := (hb2.frozen (p := ⟨w.heap.size, k * 3 + 1, none⟩) e2).trans f1; have f2' := (hb2.frozen (p := ⟨w.heap.size, k * 3 + 2, none⟩) e2).trans f2; unfold Mail.val)
        have hok2 := (HOK.out.below hb2).stored3 Mail.enc_len k m _ _ _ (by have := HE0.out; omega) rfl
        rw [filled_step _ _ _ _ HM.out] at hok2
        have hb4 : Below w.heap.size w w' := hb.trans (hb2.mono hb.size)
        go_roundw
        case rel => exact ⟨k + 1, by omega, by go_num, ((hb4.setCell (Nat.le_refl _) _).setCell (Nat.le_refl _) _).setCell (Nat.le_refl _) _, hok2⟩
        case measure => simp [intOf]; omega
      · go_wp2
        go_ret
        refine ⟨_, rfl, ?_, hb⟩
        have h1 := HN.out
        have h3 : k = xs.length := by omega
        rw [h3, filled_all] at hok
        exact hok

/-- The marks that a loop lays: three numbers a message, from q on. -/
def mark1 (q : Int) (k : Nat) : Mail := ⟨q + 3 * k, q + 3 * k + 1, q + 3 * k + 1 + 1⟩
def marks (q : Int) (n : Nat) : List Mail := (List.range n).map (mark1 q)
theorem marks_len (q : Int) (n : Nat) : (marks q n).length = n := by simp [marks]
theorem marks_get (q : Int) (n k : Nat) (h : k < n) : (marks q n)[k]? = some (mark1 q k) := by simp [marks, h]

/-- The first k messages are marked. -/
def marked (q : Int) (xs : List Mail) (k : Nat) : List Mail := (marks q xs.length).take k ++ xs.drop k
theorem marked_zero (q : Int) (xs : List Mail) : marked q xs 0 = xs := by simp [marked]
theorem marked_all (q : Int) (xs : List Mail) : marked q xs xs.length = marks q xs.length := by
  unfold marked
  rw [List.drop_length, List.append_nil, List.take_of_length_le (by rw [marks_len]; exact Nat.le_refl _)]
theorem marked_len (q : Int) (xs : List Mail) (k : Nat) : (marked q xs k).length = xs.length := by simp [marked, marks_len]; omega
theorem marked_step (q : Int) (xs : List Mail) (k : Nat) (h : k < xs.length) : (marked q xs k).set k (mark1 q k) = marked q xs (k + 1) := by
  unfold marked
  have hm := marks_len q xs.length
  rw [List.take_add_one, marks_get _ _ _ h, List.set_append, if_neg (by simp [hm]; omega)]
  simp [hm, Nat.min_eq_left (Nat.le_of_lt h)]
  rw [List.drop_eq_getElem_cons h]
  rfl

theorem markMailS_c (xs : List Mail) (v : Value) (q : Int) (base : Nat) (w : World) (hx : OwM base w v xs) (hq : 0 ≤ q ∧ q ≤ 1000) (hl : xs.length ≤ 2000000) : Calls Try.prog 38 #[v, .int .i64 q] w fun e w' =>
    e = .returned (.int .i64 (q + 3 * xs.length)) ∧ OwM base w' v (marks q xs.length) ∧ (∀ g, v.ownBlock = some g → w.grownBy w' (some g)) ∧ (v.ownBlock = none → w = w') := by
  rcases hx.2 with ⟨rfl, hn⟩ | ⟨g, c, cur, rfl, -⟩
  · have : xs = [] := List.eq_nil_of_length_eq_zero hn
    subst this
    go_enter Try.func38, Try.ntmps38
    go_wp2
    refine wp_loop_rounds 1 ?_
    rw [rounds_succ]
    go_wp2
    go_ret
    exact ⟨by simp, World.ownsRow_nil _ _ _ _, by simp [Value.ownBlock], fun _ => rfl⟩
  have hx0 : OwM base w (.slice (some ⟨g, 0, none⟩) xs.length c) (marked q xs 0) := by rw [marked_zero]; exact hx
  clear hx
  go_enter Try.func38, Try.ntmps38
  go_wp2
  go_loopw [1, 5] (fun t i wr => ∃ k : Nat, k ≤ xs.length ∧ i = .int .i64 k ∧ t = .int .i64 (q + 3 * k) ∧ w.grownBy wr (some g) ∧ OwM base wr (.slice (some ⟨g, 0, none⟩) xs.length c) (marked q xs k)) (fun _ i _ => xs.length - (intOf i).toNat)
  case atStart => exact ⟨0, Nat.zero_le _, rfl, by simp, World.grownBy.refl _ _, hx0⟩
  case round =>
    obtain ⟨k, hk, rfl, rfl, hg, hok⟩ := hrel
    obtain ⟨e0, e1, e2, e3, e4, hfz, hcs⟩ := hok.open Mail.enc_len
    by_cases hlt : k < xs.length
    · obtain ⟨z, hz⟩ : ∃ z, (marked q xs k)[k]? = some z := ⟨_, List.getElem?_eq_getElem (by omega)⟩
      have d0 := hcs k z 0 _ hz rfl
      have d1 := hcs k z 1 _ hz rfl
      have d2 := hcs k z 2 _ hz rfl
      have f0 := hfz (k * 3)
      have f1 := hfz (k * 3 + 1)
      have f2 := hfz (k * 3 + 2)
      simp only [Nat.add_zero] at d0
      have HOK := Lib.hid hok
      have HE0 := Lib.hid e0
      clear hz hcs hfz hok e0
      go_wp2
      have hok2 := HOK.out.stored3 Mail.enc_len k (mark1 q k) _ _ _ (by have := HE0.out; omega) rfl
      rw [marked_step _ _ _ hlt] at hok2
      go_roundw
      case rel => exact ⟨k + 1, by omega, by go_num, by go_num, grown_set (grown_set (grown_set hg _ _) _ _) _ _, hok2⟩
      case measure => simp [intOf]; omega
    · go_wp2
      go_ret
      have h3 : k = xs.length := by omega
      refine ⟨ret_int (by omega), ?_, ?_, ?_⟩
      · rw [h3, marked_all] at hok
        have hl := marks_len q xs.length
        unfold OwM OwT at hok ⊢
        rw [hl] at hok ⊢
        exact hok
      · intro g' hg'
        simp [Value.ownBlock] at hg'
        subst hg'
        exact hg
      · simp [Value.ownBlock]

theorem heldMailS_c (n : Nat) (v : Value) (q : Int) (w : World) (hx : RdM w v (marks q n)) (hq : 0 ≤ q ∧ q ≤ 1000) (hl : n ≤ 2000000) : Calls Try.prog 39 #[v, .int .i64 q] w fun e w' =>
    e = .returned (.int .i64 (q + 3 * n)) ∧ w = w' := by
  obtain ⟨a, c, rfl, h1, h2, -, h3⟩ := hx
  rw [marks_len] at h1 ⊢
  have H3 := Lib.hid h3
  clear h3
  unfold maxLen at h2
  go_enter Try.func39, Try.ntmps39
  go_wp2
  go_loop [1, 5] (fun t i => ∃ k : Nat, k ≤ n ∧ i = .int .i64 k ∧ t = .int .i64 (q + 3 * k)) (fun _ i => n - (intOf i).toNat)
  case atStart => exact ⟨0, Nat.zero_le _, rfl, by simp⟩
  case round =>
    obtain ⟨k, hk, rfl, rfl⟩ := hrel
    by_cases hlt : k < n
    · obtain ⟨b, o, rfl, hbl, hc⟩ := H3.out k _ (marks_get q n k hlt)
      have c0 : w.cell? ⟨b, o + k * 3, none⟩ = some (.int .i64 (q + 3 * k)) := hc 0 _ rfl
      have c1 : w.cell? ⟨b, o + k * 3 + 1, none⟩ = some (.int .i64 (q + 3 * k + 1)) := hc 1 _ rfl
      have c2 : w.cell? ⟨b, o + k * 3 + 2, none⟩ = some (.int .i64 (q + 3 * k + 1 + 1)) := hc 2 _ rfl
      clear hc
      go_wp2
      go_round
      case rel => exact ⟨k + 1, by omega, by go_num, by go_num⟩
      case measure => simp [intOf]; omega
    · go_wp2
      go_ret
      exact ⟨ret_int (by omega), rfl⟩
end Go.Proofs.Ytkpdjnfgmgnjdaa
