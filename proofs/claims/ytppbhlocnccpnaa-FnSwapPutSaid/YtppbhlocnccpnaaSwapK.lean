/- Contracts of the functions that draw a swap. No conditions but the readings of the arguments. -/
import Derived.Test.YtppbhlocnccpnaaSwapJ
import Derived.Test.YtppbhlocnccpnaaRd
namespace Go.Proofs.Ytppbhlocnccpnaa
open Go.ChangeShapes Go.WideShapes Go.RowKit
set_option linter.all false
attribute [local go_sem ↓] Go.wp_at_zero Go.wp_at_succ

section
variable {w0 w : World} {row : Option Nat} {rs : List Res} {B : Nat} {v : Value} {bs : List Int} {k : Int}

theorem l31New_b (H : Bun w0 row w rs) : Calls Try.prog 54 #[] w fun e w' => ∃ u ss, e = .returned u ∧ Bun w0 row w' (rowS u ss :: rowsI ss (List.replicate 16 []) :: rs) := by
  have HH := Lib.hid H
  clear H
  go_enter Try.func54, Try.ntmps54
  go_wp2
  go_loopw [1, 2] (fun u i wr => ∃ (k : Nat) (ss : List Sl), k ≤ 16 ∧ i = .int .i64 k ∧ Bun w0 row wr (rowS u ss :: rowsI ss (List.replicate k []) :: rs)) (fun _ i _ => 16 - (intOf i).toNat)
  case atStart => exact ⟨0, [], Nat.zero_le _, rfl, (HH.out.norows.lit eltSl #[] [] rfl (by simp))⟩
  case round =>
    obtain ⟨k, ss, hk, rfl, hb⟩ := hrel
    by_cases hlt : k < 16
    · have hlen := (show InO encI 1 3 0 wr.heap.size wr ss (List.replicate k []) from hb.get 1 rfl).len
      have HB := Lib.hid (((hb.lit eltInt #[] [] rfl (by simp)).over (.cells #[slv (some ⟨wr.heap.size, 0, none⟩, 0, 0)] 29)).front 1 rfl)
      have HL := Lib.hid (show ss.length ≤ 16 by rw [hlen]; simp; omega)
      clear hb hlen
      go_wp2_with (at_builtin; refine append_b eltSl rfl _ _ rfl _ _ [(some ⟨wr.heap.size, 0, none⟩, 0, 0)] rfl rfl HB.out (RdT.of_block encL_len (xs := [(some ⟨wr.heap.size, 0, none⟩, 0, 0)]) (heap_two_new wr _ _) rfl (by simp)) (by have := HL.out; simp; omega) ?_; intro v1 w1 H1 hnil1)
      have H2 := Lib.hid ((((H1.front 2 rfl).front 2 rfl).snoc (s := (some ⟨wr.heap.size, 0, none⟩, 0, 0))).front 1 rfl)
      clear H1 hnil1
      go_roundw
      case rel => exact ⟨k + 1, _, by omega, by go_num, by have := H2.out; simp only [List.replicate_succ'] ; exact this⟩
      case measure => simp [intOf]; omega
    · go_wp2
      go_ret
      have : k = 16 := by omega
      subst this
      exact ⟨_, ss, rfl, hb⟩

theorem InO.take {α : Type} {enc : α → List Value} {K : Nat} {e : TypeId} {lo hi : Nat} {w : World} {ss : List Sl} {xss : List (List α)} (hin : InO enc K e lo hi w ss xss) (i : Nat) : InO enc K e lo hi w (ss.take i) (xss.take i) := by
  refine ⟨by simp [hin.len], fun k s xs a b => ?_, fun k j s t a b hkj => ?_⟩
  · rw [List.getElem?_take] at a b
    by_cases h : k < i
    · rw [if_pos h] at a b; exact hin.row k s xs a b
    · rw [if_neg h] at a; simp at a
  · rw [List.getElem?_take] at a b
    by_cases h : k < i <;> by_cases h' : j < i
    · rw [if_pos h] at a; rw [if_pos h'] at b; exact hin.apart k j s t a b hkj
    · rw [if_neg h'] at b; simp at b
    · rw [if_neg h] at a; simp at a
    · rw [if_neg h] at a; simp at a

/-- The first rows of a slice of slices. -/
theorem Bun.cutRows {g n c i : Nat} {ss : List Sl} {xss : List (List Int)} (h : Bun w0 row w (rowS (.slice (some ⟨g, 0, none⟩) n c) ss :: rowsI ss xss :: rs)) (hi : i ≤ n) :
    Bun w0 row w (rowS (.slice (some ⟨g, 0, none⟩) i c) (ss.take i) :: rowsI (ss.take i) (xss.take i) :: rs) := by
  have h1 : Bun w0 row w (rowS (.slice (some ⟨g, 0, none⟩) i c) (ss.take i) :: rowsI ss xss :: rs) := h.recast (OwT.cut encL_len (h.get 0 rfl : OwT encL 1 29 0 w (.slice (some ⟨g, 0, none⟩) n c) ss) hi) (fun k hk => hk)
  have h2 := h1.front 1 rfl
  have hin : InO encI 1 3 0 w.heap.size w ss xss := h.get 1 rfl
  have h3 := h2.mod (Chs.of_below (bref w)) (rowsI (ss.take i) (xss.take i)) (hin.take i) (fun k ⟨s, hs, hk⟩ => .inl ⟨s, List.mem_of_mem_take hs, hk⟩) (fun k ⟨s, hs, hk⟩ => .inl ⟨s, List.mem_of_mem_take hs, hk⟩)
  exact h3.front 1 rfl

/-- What is known of a swap that is drawn. -/
def drawnS (xss : List (List Int)) : Prop := xss.length ≤ 16 ∧ ∀ xs ∈ xss, xs.length ≤ 4
theorem put_all {xss : List (List Int)} {ys : List Int} (hb : putB xss ys = true) (h : ∀ xs ∈ xss, xs.length ≤ 4) : (putL xss ys).length = xss.length ∧ ∀ xs ∈ putL xss ys, xs.length ≤ 4 := by
  obtain ⟨hv, hw, hf⟩ := put_len hb
  simp only [putL, hb, if_true, putAt, hf, List.length_set, true_and]
  intro xs hx
  rcases List.mem_or_eq_of_mem_set hx with hx | rfl
  · exact h xs hx
  · rw [wordsOk_len hw]; exact Nat.le_refl _

set_option maxHeartbeats 8000000 in
theorem l91Swap_b (H : Bun w0 row w (Res.rdr B v bs k :: rs)) (hk : k ≤ 10000) (hk0 : 0 ≤ k) : Calls Try.prog 40 #[.pointer (some ⟨B, 0, none⟩)] w fun e w' =>
    ∃ u ss xss, e = .returned u ∧ drawnS xss ∧ Bun w0 row w' (Res.rdr B v bs (k + 100) :: rowS u ss :: rowsI ss xss :: rs) := by
  have HH := Lib.hid H
  clear H
  go_enter Try.func40, Try.ntmps40
  go_wp2_with fail
  refine (l31New_b HH.out).mono ?_
  rintro e W1 ⟨u0, ss0, rfl, H1⟩
  go_wp2_with fail
  refine (pick_b 8 (H1.front 2 rfl) (by omega) (by omega)).mono ?_
  rintro e W2 ⟨n, rfl, hn0, hn1, H2⟩
  replace hn1 := hn1 (by omega)
  go_wp2_with fail
  refine (pick_b 10 H2 (by omega) (by omega)).mono ?_
  rintro e W3 ⟨q, rfl, hq0, -, H3⟩
  have HH3 := Lib.hid H3
  clear HH H1 H2 H3
  go_upto_if 15 with fail
  go_cut [4] (fun s wx => ∃ N : Nat, N ≤ 16 ∧ s = .int .i64 N ∧ wx = W3)
  case first =>
    by_cases hq : q = 0
    · have hqb : (q == 0) = true := beq_iff_eq.2 hq
      clear hq
      go_wp2
      go_meet
      exact ⟨16, by omega, rfl, rfl⟩
    · have hqb : (q == 0) = false := beq_eq_false_iff_ne.2 hq
      clear hq
      obtain ⟨N, rfl⟩ := Int.eq_ofNat_of_zero_le hn0
      go_wp2
      go_meet
      exact ⟨N, by omega, rfl, rfl⟩
  case rest =>
    obtain ⟨N, hN, rfl, rfl⟩ := hcut
    go_wp2
    go_loopw [3, 5] (fun u i wr => ∃ (j : Nat) (ss : List Sl) (xss : List (List Int)), j ≤ N ∧ i = .int .i64 j ∧ Hid (xss.length = 16) ∧ Hid (∀ xs ∈ xss, xs.length ≤ 4) ∧ Bun w0 row wr (Res.rdr B v bs (k + 2 + 2 * j) :: rowS u ss :: rowsI ss xss :: rs)) (fun _ i _ => N - (intOf i).toNat)
    case atStart => exact ⟨0, ss0, _, Nat.zero_le _, rfl, by simp [Hid], by intro xs hx; have := List.eq_of_mem_replicate hx; simp [this], HH3.out.more (by omega)⟩
    case round =>
      obtain ⟨j, ss, xss, hj, rfl, hl16, hall, hb⟩ := hrel
      by_cases hlt : j < N
      · go_wp2_with fail
        refine (pick_b 9 hb (by omega) (by omega)).mono ?_
        rintro e W4 ⟨x1, rfl, hx10, -, H4⟩
        go_wp2_with fail
        refine (pick_b 9 H4 (by omega) (by omega)).mono ?_
        rintro e W5 ⟨x2, rfl, hx20, -, H5⟩
        have H6 := Lib.hid (H5.lits eltInt #[.int .i64 x1, .int .i64 x2, .int .i64 0, .int .i64 7] [x1, x2, 0, 7] 4 rfl rfl (by omega))
        clear hb H4 H5
        go_wp2_with fail
        refine (specSwapPut_c xss [x1, x2, 0, 7] u3 _ _ (H6.out.rdN 2 3 rfl rfl encI_len) (H6.out.rd 0 rfl encI_len)).mono ?_
        rintro e W7 ⟨u2, rfl, ho, hb7⟩
        obtain ⟨ss2, H7⟩ := H6.out.addN neSl ho hb7
        have H8 := Lib.hid H7
        clear H6 H7 ho hb7
        cases hB : putB xss [x1, x2, 0, 7]
        · go_wp2
          go_roundw
          case rel => exact ⟨j + 1, ss, xss, by omega, by go_num, hl16, hall, H8.out.drop.drop.drop.more (by omega)⟩
          case measure => simp [intOf]; omega
        · have hpa := Lib.hid (put_all hB hall.out)
          clear hB
          go_wp2
          go_roundw
          case rel => exact ⟨j + 1, ss2, putL xss [x1, x2, 0, 7], by omega, by go_num, hpa.out.1.trans hl16.out, hpa.out.2, (((((H8.out.rm 5).rm 4).rm 2).front 2 rfl).more (by omega))⟩
          case measure => simp [intOf]; omega
      · have H9 := Lib.hid (hb.more (k' := k + 40) (by omega))
        clear hb
        go_wp2_with fail
        refine (pick_b 16 H9.out (by omega) (by omega)).mono ?_
        rintro e W10 ⟨y, rfl, hy0, hy1, H10⟩
        replace hy1 := hy1 (by omega)
        go_wp2_with fail
        refine (pick_b 16 H10 (by omega) (by omega)).mono ?_
        rintro e W11 ⟨z, rfl, hz0, -, H11⟩
        have H12 := Lib.hid H11
        clear H9 H10 H11
        obtain ⟨K, rfl⟩ := Int.eq_ofNat_of_zero_le hy0
        have hK : K < 16 := by omega
        have hlen := Lib.hid (show InO encI 1 3 0 W11.heap.size W11 ss xss from H12.out.get 2 rfl).len
        obtain ⟨s0, hs0⟩ : ∃ s0, ss[K]? = some s0 := ⟨_, List.getElem?_eq_getElem (by have := hlen.out; have := hl16.out; omega)⟩
        obtain ⟨g, c, rfl, hk1, hk2, hk3, hk4, hfz, hcs⟩ := H12.out.at 1 rfl encL_len hs0
        have hn16 := Lib.hid (show ss.length = 16 from hlen.out.trans hl16.out)
        have d0 := hcs 0 _ rfl
        have f0 := hfz K
        simp only [Nat.mul_one, Nat.add_zero] at d0
        unfold maxLen at hk3
        clear hcs hfz hs0
        by_cases z0 : z = 0
        · subst z0
          have H13 := H12.out.lits eltInt #[.int .i64 1] [1] 1 rfl rfl (by omega)
          have H14 := Bun.putRow (s := (some ⟨W11.heap.size, 0, none⟩, 1, 1)) (((H13.front 3 rfl).front 3 rfl).front 2 rfl) hk1
          rw [World.setCell_alloc_past _ _ _ _ hk4] at H14
          have H15 := Lib.hid (((H14.front 2 rfl).more (k' := k + 100) (by omega)))
          clear H13 H14
          simp only [slv] at H15
          go_wp2
          go_ret
          exact ⟨_, _, _, rfl, ⟨by have := hl16.out; simp; omega, fun xs hx => by
            rcases List.mem_or_eq_of_mem_set hx with hx | rfl
            · exact hall.out xs hx
            · simp⟩, H15.out⟩
        by_cases z1 : z = 1
        · subst z1
          have H13 := Lib.hid ((((H12.out.rm 0).cutRows (i := K) (by omega))))
          have H14 := Lib.hid ((((H12.out.front 2 rfl).front 2 rfl).cutRows (i := K) (by omega)).front 2 rfl |>.more (k' := k + 100) (by omega))
          go_wp2
          go_ret
          exact ⟨_, _, _, rfl, ⟨by simp; omega, fun xs hx => hall.out xs (List.mem_of_mem_take hx)⟩, H14.out⟩
        have hz01 : (z == 0) = false := beq_eq_false_iff_ne.2 z0
        have hz11 : (z == 1) = false := beq_eq_false_iff_ne.2 z1
        clear z0 z1
        by_cases z2 : z = 2 ∨ z = 3
        · have H13 := H12.out.lits eltInt #[] [] 0 rfl rfl (by omega)
          have H14 := Bun.putRow (s := (some ⟨W11.heap.size, 0, none⟩, 0, 0)) (((H13.front 3 rfl).front 3 rfl).front 2 rfl) hk1
          rw [World.setCell_alloc_past _ _ _ _ hk4] at H14
          have H15 := Lib.hid (((H14.front 2 rfl).more (k' := k + 100) (by omega)))
          clear H13 H14
          simp only [slv] at H15
          rcases z2 with rfl | rfl
          all_goals
            go_wp2
            go_ret
            exact ⟨_, _, _, rfl, ⟨by have := hl16.out; simp; omega, fun xs hx => by
              rcases List.mem_or_eq_of_mem_set hx with hx | rfl
              · exact hall.out xs hx
              · simp⟩, H15.out⟩
        · have hz21 : (z == 2) = false := beq_eq_false_iff_ne.2 (fun h => z2 (.inl h))
          have hz31 : (z == 3) = false := beq_eq_false_iff_ne.2 (fun h => z2 (.inr h))
          clear z2
          go_wp2
          go_ret
          exact ⟨_, ss, xss, rfl, ⟨by have := hl16.out; omega, hall.out⟩, H12.out.more (by omega)⟩
end
end Go.Proofs.Ytppbhlocnccpnaa
