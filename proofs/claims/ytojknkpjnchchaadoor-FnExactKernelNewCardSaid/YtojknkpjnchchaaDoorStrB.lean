/- Contracts of the marks over slices of strings, and of the library's loops over them. No conditions but the readings of the arguments. -/
import Derived.Test.YtojknkpjnchchaaDoorStrA
namespace Go.Proofs.YtojknkpjnchchaaDoor
open Go.ChangeShapes Go.WideShapes Go.RowKit
set_option linter.all false
set_option maxRecDepth 100000
attribute [local go_sem ↓] Go.wp_at_zero Go.wp_at_succ

/-- Decimal digits, in front of a text. -/
def digs (n : Nat) (acc : Txt) : Txt := if h : n = 0 then acc else digs (n / 10) (UInt8.ofNat (48 + n % 10) :: acc)
termination_by n
decreasing_by omega
def mtext (q : Int) : Txt := 109 :: digs q.toNat []
theorem digs_step {n : Nat} (h : 0 < n) (acc : Txt) : digs n acc = digs (n / 10) (UInt8.ofNat (48 + n % 10) :: acc) := by rw [digs, dif_neg (by omega)]
theorem digs_zero (acc : Txt) : digs 0 acc = acc := by rw [digs, dif_pos rfl]

theorem cat_one (b : UInt8) (x : Txt) : Value.string (ByteArray.mk #[b] ++ ByteArray.mk x.toArray) = tv (b :: x) := by
  congr 1

set_option maxHeartbeats 1000000 in
theorem markText_c (q : Int) (w : World) (hq : 1 ≤ q ∧ q ≤ 100000000) : Calls Tryd.prog 42 #[.int .i64 q] w fun e w' => e = .returned (tv (mtext q)) ∧ Below w.heap.size w w' := by
  go_enter Tryd.func42, Tryd.ntmps42
  go_wp2
  go_loopw [0, 3] (fun t out wr => ∃ (n : Nat) (acc : Txt), t = .int .i64 n ∧ out = tv acc ∧ Hid (digs n acc = digs q.toNat []) ∧ Hid (n * 10 ^ acc.length ≤ 100000000) ∧ acc.length ≤ 10 ∧ Below w.heap.size w wr) (fun t _ _ => (intOf t).toNat)
  case atStart => exact ⟨q.toNat, [], by simp [Int.toNat_of_nonneg (show 0 ≤ q by omega)], rfl, rfl, by simp [Hid]; omega, by simp, bref _⟩
  case round =>
    obtain ⟨n, acc, rfl, rfl, hd, hn, hla, hb⟩ := hrel
    by_cases hlt : 0 < n
    · have hacc : acc.length ≤ 8 := by
        have h1 := hn.out
        apply Classical.byContradiction
        intro hc
        have h2 : 10 ^ 9 ≤ 10 ^ acc.length := Nat.pow_le_pow_right (by decide) (by omega)
        have h3 : 1 * 10 ^ acc.length ≤ n * 10 ^ acc.length := Nat.mul_le_mul_right _ hlt
        omega
      have hnb : n ≤ 100000000 := by
        have h1 := hn.out
        have h3 : n * 1 ≤ n * 10 ^ acc.length := Nat.mul_le_mul_left _ (Nat.pow_pos (by decide))
        omega
      have hm0 : 0 ≤ (n : Int) % 10 := by omega
      have hm1 : (n : Int) % 10 ≤ 9 := by omega
      have hcv : (convert 68 9 (.slice (some ⟨wr.heap.size, 0, none⟩) 1 1)).run Tryd.prog (wr.alloc (.cells #[.int .u8 (48 + (n : Int) % 10)] 5)) = .ok (.string ⟨#[UInt8.ofNat (48 + n % 10)]⟩) (wr.alloc (.cells #[.int .u8 (48 + (n : Int) % 10)] 5)) :=
        run_convert_bytes_back _ 68 9 5 ⟨wr.heap.size, 0, none⟩ 1 [UInt8.ofNat (48 + n % 10)] Tryd.underlying68 Tryd.underlying5 Tryd.underlying9 (fun j hj => by
          have hj0 : j = 0 := by simp at hj; exact hj
          subst hj0
          have hb9 : (UInt8.ofNat (48 + n % 10)).toNat = 48 + n % 10 := by simp; omega
          have := cell_of_row (wr.alloc (.cells #[.int .u8 (48 + (n : Int) % 10)] 5)) wr.heap.size 0 _ _ (0, 0) (heap_alloc_new wr _)
          simp only [List.getElem_cons_zero, hb9]
          refine Eq.trans this ?_
          simp)
      have hz9 : (9223372036854775807 < 1 + acc.length) = False := by simp; omega
      have hd' := hd.out
      rw [digs_step hlt] at hd'
      generalize UInt8.ofNat (48 + n % 10) = bb at hcv hd'
      have HD := Lib.hid hd'
      have hn' : n / 10 * 10 ^ (bb :: acc).length ≤ 100000000 := by
        have h1 := hn.out
        rw [List.length_cons, Nat.pow_succ, Nat.mul_comm (10 ^ _) 10, ← Nat.mul_assoc]
        exact Nat.le_trans (Nat.mul_le_mul_right _ (Nat.div_mul_le_self n 10)) h1
      have HN := Lib.hid hn'
      clear hd hd' hn hn'
      go_wp2
      go_roundw
      case rel => exact ⟨n / 10, bb :: acc, by first | (push_cast; rfl) | go_num, cat_one _ _, HD.out, HN.out, by simp; omega, hb.alloc hb.size _⟩
      case measure => simp [intOf]; omega
    · have hn0 : n = 0 := by omega
      subst hn0
      have hz9 : (9223372036854775807 < 1 + acc.length) = False := by
        simp; omega
      have hd' := hd.out
      rw [digs_zero] at hd'
      have HD := Lib.hid hd'
      clear hd hd'
      go_wp2
      go_ret
      exact ⟨by rw [cat_one, HD.out]; rfl, hb⟩

def marksS (q : Int) (n : Nat) : List Txt := (List.range n).map fun i => mtext (q + (i : Nat))
theorem marksS_len (q : Int) (n : Nat) : (marksS q n).length = n := by simp [marksS]
theorem marksS_get (q : Int) (n k : Nat) (h : k < n) : (marksS q n)[k]? = some (mtext (q + k)) := by simp [marksS, h]

set_option maxHeartbeats 1000000 in
theorem markStringS_c (xs : List Txt) (v : Value) (q : Int) (base : Nat) (w : World) (hx : OwS base w v xs) (hq : 1 ≤ q ∧ q ≤ 50000000) (hl : xs.length ≤ 2000000) : Calls Tryd.prog 26 #[v, .int .i64 q] w fun e w' =>
    e = .returned (.int .i64 (q + xs.length)) ∧ OwS base w' v (marksS q xs.length) ∧ (∀ g, v.ownBlock = some g → w.grownBy w' (some g)) ∧ (v.ownBlock = none → w = w') := by
  rcases hx.2 with ⟨rfl, hn⟩ | ⟨g, c, cur, rfl, -⟩
  · have : xs = [] := List.eq_nil_of_length_eq_zero hn
    subst this
    go_enter Tryd.func26, Tryd.ntmps26
    go_wp2
    refine wp_loop_rounds 1 ?_
    rw [rounds_succ]
    go_wp2
    go_ret
    exact ⟨by simp, World.ownsRow_nil _ _ _ _, by simp [Value.ownBlock], fun _ => rfl⟩
  have hml := marksS_len q xs.length
  have HML := Lib.hid hml
  have hx0 : OwS base w (.slice (some ⟨g, 0, none⟩) xs.length c) (markedBy (marksS q xs.length) xs 0) := by rw [markedBy_zero]; exact hx
  clear hx hml
  go_enter Tryd.func26, Tryd.ntmps26
  go_wp2
  go_loopw [1, 5] (fun t i wr => ∃ k : Nat, k ≤ xs.length ∧ i = .int .i64 k ∧ t = .int .i64 (q + k) ∧ w.grownBy wr (some g) ∧ OwS base wr (.slice (some ⟨g, 0, none⟩) xs.length c) (markedBy (marksS q xs.length) xs k)) (fun _ i _ => xs.length - (intOf i).toNat)
  case atStart => exact ⟨0, Nat.zero_le _, rfl, by simp, World.grownBy.refl _ _, hx0⟩
  case round =>
    obtain ⟨k, hk, rfl, rfl, hg, hok⟩ := hrel
    by_cases hlt : k < xs.length
    · have HG := Lib.hid hg
      have HOK0 := Lib.hid hok
      clear hg hok
      go_wp2_with fail
      refine (markText_c (q + k) _ (by omega)).mono ?_
      rintro e w1 ⟨rfl, hb1⟩
      have hok := HOK0.out.below hb1
      have HG1 := Lib.hid (grown_then HG.out hb1)
      obtain ⟨e0, e1, e2, e3, e4, hfz, hcs⟩ := hok.open encS_len
      obtain ⟨z, hz⟩ : ∃ z, (markedBy (marksS q xs.length) xs k)[k]? = some z := ⟨_, List.getElem?_eq_getElem (by omega)⟩
      have d0 := hcs k z 0 _ hz rfl
      have f0 := hfz k
      simp only [Nat.add_zero, Nat.mul_one] at d0
      have HOK := Lib.hid hok
      have HE0 := Lib.hid e0
      unfold maxLen at e4
      clear hz hcs hfz hok e0 HOK0 HG hb1
      go_wp2
      have hok2 := HOK.out.stored1 encS_len k (mtext (q + k)) _ (by have := HE0.out; omega) rfl
      rw [markedBy_step _ _ _ _ HML.out (marksS_get q _ k hlt)] at hok2
      go_roundw
      case rel => exact ⟨k + 1, by omega, by go_num, by go_num, grown_set HG1.out _ _, hok2⟩
      case measure => simp [intOf]; omega
    · go_wp2
      go_ret
      have h3 : k = xs.length := by omega
      refine ⟨ret_int (by omega), ?_, ?_, ?_⟩
      · have hl := HML.out
        rw [h3, markedBy_all _ _ hl] at hok
        unfold OwS OwT at hok ⊢
        rw [hl] at hok ⊢
        exact hok
      · intro g' hg'
        simp [Value.ownBlock] at hg'
        subst hg'
        exact hg
      · simp [Value.ownBlock]

set_option maxHeartbeats 1000000 in
theorem heldStringS_c (n : Nat) (v : Value) (q : Int) (w : World) (hx : RdS w v (marksS q n)) (hq : 1 ≤ q ∧ q ≤ 50000000) (hl : n ≤ 2000000) : Calls Tryd.prog 45 #[v, .int .i64 q] w fun e w' =>
    e = .returned (.int .i64 (q + n)) ∧ Below w.heap.size w w' := by
  obtain ⟨a, c, rfl, h1, h2, -, h3⟩ := hx
  rw [marksS_len] at h1 ⊢
  have H3 := Lib.hid h3
  clear h3
  unfold maxLen at h2
  go_enter Tryd.func45, Tryd.ntmps45
  go_wp2
  go_loopw [1, 5] (fun t i wr => ∃ k : Nat, k ≤ n ∧ i = .int .i64 k ∧ t = .int .i64 (q + k) ∧ Below w.heap.size w wr) (fun _ i _ => n - (intOf i).toNat)
  case atStart => exact ⟨0, Nat.zero_le _, rfl, by simp, bref _⟩
  case round =>
    obtain ⟨k, hk, rfl, rfl, hb⟩ := hrel
    by_cases hlt : k < n
    · obtain ⟨b, o, rfl, hbl, hc⟩ := H3.out k _ (marksS_get q n k hlt)
      have c0 : wr.cell? ⟨b, o + k, none⟩ = some (tv (mtext (q + k))) := by have := (hb.cell (p := ⟨b, o + k * 1 + 0, none⟩) hbl).trans (hc 0 _ rfl); simpa using this
      have hk0 : (0 : Int) ≤ (k : Int) := by omega
      have hkn : (k : Int) < (n : Int) := by omega
      clear hc
      go_wp2
      have hbl1 : b < wr.heap.size := Nat.lt_of_lt_of_le hbl hb.size
      go_region_held3 (fun w' => w'.cell? ⟨b, o + k, none⟩ = some (tv (mtext (q + k)))) (first | go_keep | exact e0 | fail)
        ((go_at_call 42; refine (markText_c (q + k) _ (by omega)).mono ?_; rintro e w1 ⟨rfl, hb1⟩; have e0 := (hb1.cell (p := ⟨b, o + k, none⟩) hbl1).trans c0))
      have hb3 := bdrew hb hb1
      go_wp2
      go_roundw
      case rel => exact ⟨k + 1, by omega, by go_num, by go_num, hb3⟩
      case measure => simp [intOf]; omega
    · go_wp2
      go_ret
      exact ⟨ret_int (by omega), hb⟩

theorem cloneStr_c (xs : List Txt) (v : Value) (w : World) (hx : RdT encS 1 w v xs) (hl : xs.length ≤ 2000000) :
    Calls Tryd.prog 20 #[v] w fun e w' => ∃ u, e = .returned u ∧ OwT encS 1 9 w.heap.size w' u xs ∧ Below w.heap.size w w' := by
  have hx' := Lib.hid hx
  obtain ⟨a, c, rfl, h1, h2, h0, h3⟩ := hx
  cases a with
  | none =>
    have hc := h0 rfl
    subst hc
    have hy : xs = [] := List.eq_nil_of_length_eq_zero (by omega)
    subst hy
    have he := fun w => Lib.run_eql_slice_nil (P := Tryd.prog) w 38
    go_enter Tryd.func20, Tryd.ntmps20
    go_wp2
    go_ret
    exact ⟨_, rfl, World.ownsRow_nil _ _ _ _, Below.refl _ _⟩
  | some ad =>
    have he := fun w => Lib.run_eql_slice_nil (P := Tryd.prog) w 38
    clear h3 h0
    go_enter Tryd.func20, Tryd.ntmps20
    go_wp2_with (at_builtin; refine append_T eltStr rfl _ _ rfl w.heap.size (.slice (some ⟨w.heap.size, 0, none⟩) 0 0) (.slice (some ad) xs.length c) [] xs rfl rfl (OwT.lit eltStr _ #[] [] rfl (by simp)) (hx'.out.below ((Below.refl _ _).alloc (Nat.le_refl _) _)) (by simp; omega) (by simp) ?_; intro v' w' ho hg hat hnil)
    go_ret
    exact ⟨_, rfl, ho, ((Below.refl _ _).alloc (Nat.le_refl _) _).grown hg (by simp) (by simp [Value.ownBlock])⟩

end Go.Proofs.YtojknkpjnchchaaDoor
