/- Contracts of the draw of a memory. No conditions but the readings of the arguments. -/
import Derived.Test.YtklphfmjdgnpnaaDoorTabM
import Derived.Test.YtklphfmjdgnpnaaDoorBun
import Derived.Test.YtklphfmjdgnpnaaDoorRd
namespace Go.Proofs.YtklphfmjdgnpnaaDoor
open Go.ChangeShapes Go.WideShapes Go.RowKit
set_option linter.all false
set_option maxRecDepth 100000
attribute [local go_sem ↓] Go.wp_at_zero Go.wp_at_succ

/-- What is known of a memory that is drawn. -/
def drawnM (m : List (List Int)) : Prop := m.length ≤ 12 ∧ ∀ ws ∈ m, ws.length ≤ 4

theorem set_fours {m : List (List Int)} {k j : Nat} {ws : List Int} {z : Int} (hw : m[k]? = some ws) (h : ∀ xs ∈ m, xs.length = 4) : ∀ xs ∈ m.set k (ws.set j z), xs.length = 4 := by
  intro xs hx
  rcases List.mem_or_eq_of_mem_set hx with hx | rfl
  · exact h xs hx
  · rw [List.length_set]; exact h ws (List.mem_of_getElem? hw)

theorem lit2 {a b : Int} {j : Nat} (h : j < 2) : ∃ y : Int, (#[Value.int .i64 a, .int .i64 b])[j]? = some (.int .i64 y) ∧ ∀ h, [Value.int .i64 a, .int .i64 b][j]'h = .int .i64 y := by
  match j, h with
  | 0, _ => exact ⟨a, rfl, fun _ => rfl⟩
  | 1, _ => exact ⟨b, rfl, fun _ => rfl⟩

section
variable {w0 w w' : World} {row : Option Nat} {rs : List Res} {B : Nat} {v : Value} {bs : List Int} {k : Int}
/-- What a walk asks of a word of a memory. -/
theorem Bun.word {ss : List Sl} {m : List (List Int)} {g c j1 : Nat} {rs' : List Res} (h : Bun w0 row w (Res.rdr B v bs k :: rowS (.slice (some ⟨g, 0, none⟩) 12 c) ss :: rowsI ss m :: rs')) (hl : m.length = 12) (h4 : ∀ xs ∈ m, xs.length = 4) (hj : j1 < 12) :
    ∃ ws gi ci, m[j1]? = some ws ∧ ws.length = 4 ∧ ss[j1]? = some (some ⟨gi, 0, none⟩, 4, ci) ∧ 4 ≤ ci ∧ ci ≤ maxLen ∧ w.cell? ⟨g, j1, none⟩ = some (.slice (some ⟨gi, 0, none⟩) 4 ci) ∧ (∀ j, w.frozen? ⟨gi, j, none⟩ = false) ∧ ∀ j z, ws[j]? = some z → w.cell? ⟨gi, j, none⟩ = some (.int .i64 z) := by
  obtain ⟨ws, hws⟩ : ∃ ws, m[j1]? = some ws := ⟨_, List.getElem?_eq_getElem (by omega)⟩
  have hwl := h4 ws (List.mem_of_getElem? hws)
  have hlen := (show InO encI 1 3 0 w.heap.size w ss m from h.get 2 rfl).len
  obtain ⟨s, hs⟩ : ∃ s, ss[j1]? = some s := ⟨_, List.getElem?_eq_getElem (by omega)⟩
  obtain ⟨gi, ci, rfl, i1, i2, i3, i4, i5⟩ := h.inner (i := 2) rfl hs hws (by intro h0; rw [h0] at hwl; simp at hwl)
  obtain ⟨G, C, e1, -, -, -, -, -, hcs⟩ := h.at 1 rfl encL_len hs
  simp only [Value.slice.injEq, Option.some.injEq, Addr.mk.injEq, and_true] at e1
  obtain ⟨rfl, -, rfl⟩ := e1
  have d0 := hcs 0 _ rfl
  simp only [Nat.mul_one, Nat.add_zero, slv] at d0
  rw [hwl] at hs d0 i1
  exact ⟨ws, gi, ci, hws, hwl, hs, i1, i2, d0, i4, i5⟩

set_option maxHeartbeats 8000000 in
theorem l91Memory_b (H : Bun w0 row w (Res.rdr B v bs k :: rs)) (hk : k ≤ 10000) : Calls Tryd.prog 88 #[.pointer (some ⟨B, 0, none⟩)] w fun e w' =>
    ∃ u ss m, e = .returned u ∧ drawnM m ∧ Bun w0 row w' (Res.rdr B v bs (k + 300) :: rowS u ss :: rowsI ss m :: rs) := by
  have HH := Lib.hid H
  clear H
  go_enter Tryd.func88, Tryd.ntmps88
  go_wp2_with fail
  refine (l2New_b HH.out).mono ?_
  rintro e W1 ⟨u0, ss, rfl, H1⟩
  have hlen := (show InO encI 1 3 0 W1.heap.size W1 ss (List.replicate 12 [0, 0, 0, 0]) from H1.get 1 rfl).len
  rw [List.length_replicate] at hlen
  obtain ⟨s0, hs0⟩ : ∃ s, ss[0]? = some s := ⟨_, List.getElem?_eq_getElem (by omega)⟩
  obtain ⟨g, c, rfl, g1, g2, g3, g4, -, -⟩ := H1.at 0 rfl encL_len hs0
  rw [hlen] at H1 g2 ⊢
  have HL := Lib.hid hlen
  unfold maxLen at g3
  clear hs0 hlen g1 g4
  go_wp2_with fail
  refine (pick_b 30 (H1.front 2 rfl) (by omega) (by omega)).mono ?_
  rintro e W2 ⟨n, rfl, hn0, hn1, H2⟩
  replace hn1 := hn1 (by omega)
  obtain ⟨N, rfl⟩ := Int.eq_ofNat_of_zero_le hn0
  have HH2 := Lib.hid H2
  clear H1 H2 HH
  go_wp2
  go_loopw [5] (fun i wr => ∃ (j : Nat) (m : List (List Int)), j ≤ N ∧ i = .int .i64 j ∧ Hid (m.length = 12) ∧ Hid (∀ xs ∈ m, xs.length = 4) ∧ Bun w0 row wr (Res.rdr B v bs (k + 1 + 5 * j) :: rowS (.slice (some ⟨g, 0, none⟩) 12 c) ss :: rowsI ss m :: rs)) (fun i _ => N - (intOf i).toNat)
  case atStart => exact ⟨0, _, Nat.zero_le _, rfl, by simp [Hid], by intro xs hx; have := List.eq_of_mem_replicate hx; simp [this], HH2.out.more (by omega)⟩
  case round =>
    obtain ⟨j, m, hj, rfl, hl, h4, hb⟩ := hrel
    by_cases hlt : j < N
    · have HA := hb
      go_wp2
      go_region_with (first
        | (go_at_call 53; with_reducible refine (pick_b 12 HA.drew (by omega) (by omega)).mono ?_; rintro e W4 ⟨x1, rfl, hx10, hx11, HB⟩; replace hx11 := hx11 (by omega); obtain ⟨j1, rfl⟩ := Int.eq_ofNat_of_zero_le hx10; have hj1 : j1 < 12 := (by omega); obtain ⟨ws, gi, ci, q1, q2, q3, q4, q5, c4, -, -⟩ := HB.word hl.out h4.out hj1; unfold maxLen at q5; have Q1 := Lib.hid q1; have Q3 := Lib.hid q3; clear q1 q3; have hj1a : (0 : Int) ≤ (j1 : Int) := (by omega); have hj1b : (j1 : Int) < 12 := (by omega))
        | (go_at_call 53; with_reducible refine (pick_b 4 HB (by omega) (by omega)).mono ?_; rintro e W5 ⟨x2, rfl, hx20, hx21, HC⟩; replace hx21 := hx21 (by omega); obtain ⟨j2, rfl⟩ := Int.eq_ofNat_of_zero_le hx20; obtain ⟨ws', gi', ci', q1', -, q3', -, -, c5, -, -⟩ := HC.word hl.out h4.out hj1; rw [Q3.out] at q3'; simp only [Option.some.injEq, Prod.mk.injEq, Addr.mk.injEq, and_true, true_and] at q3'; obtain ⟨rfl, rfl⟩ := q3'; clear q1'; have hj2a : (0 : Int) ≤ (j2 : Int) := (by omega); have hj2b : (j2 : Int) < 4 := (by omega))
        | (go_at_call 112; with_reducible refine (l91Entry_b HC (by omega)).mono ?_; rintro e W6 ⟨y, rfl, hy0, hy1, HE⟩; obtain ⟨ws2, gi2, ci2, q1', q2', q3', -, -, c6, f6, e6⟩ := HE.word hl.out h4.out hj1; rw [Q3.out] at q3'; rw [Q1.out] at q1'; simp only [Option.some.injEq, Prod.mk.injEq, Addr.mk.injEq, and_true, true_and] at q3' q1'; obtain ⟨rfl, rfl⟩ := q3'; subst q1'; obtain ⟨z, hz⟩ : ∃ z, ws[j2]? = some z := ⟨_, List.getElem?_eq_getElem (by omega)⟩; have e7 := e6 j2 z hz; have f7 := f6 j2; have H7 := Lib.hid (fun z => (((HE.front 2 rfl).storeRow Q3.out Q1.out (show j2 < ws.length by omega) z).front 2 rfl).front 2 rfl); clear e6 f6 hz))
      all_goals
        go_wp2
        go_roundw
        case rel => exact ⟨j + 1, _, by omega, by go_num, Lib.hid (by rw [List.length_set]; exact hl.out), Lib.hid (set_fours Q1.out h4.out), Bun.more (k := k + 1 + 5 * (j : Int) + 1 + 1 + 3) (k' := k + 1 + 5 * ((j + 1 : Nat) : Int)) (H7.out _) (by simp only [Int.natCast_add]; omega)⟩
        case measure => simp [intOf]; omega
    · have H9 := Lib.hid (hb.more (k' := k + 200) (by omega))
      clear hb
      go_wp2_with fail
      refine (pick_b 12 H9.out (by omega) (by omega)).mono ?_
      rintro e W10 ⟨y, rfl, hy0, hy1, H10⟩
      replace hy1 := hy1 (by omega)
      go_wp2_with fail
      refine (pick_b 24 H10 (by omega) (by omega)).mono ?_
      rintro e W11 ⟨q, rfl, hq0, -, H11⟩
      obtain ⟨K, rfl⟩ := Int.eq_ofNat_of_zero_le hy0
      have hK : K < 12 := by omega
      have H12 := Lib.hid H11
      clear H9 H10 H11
      by_cases z0 : q = 0
      · subst z0
        obtain ⟨ws, gi, ci, q1, q2, q3, q4, q5, c0, -, -⟩ := H12.out.word hl.out h4.out hK
        have HA := H12.out
        have Q1 := Lib.hid q1
        have Q3 := Lib.hid q3
        unfold maxLen at q5
        clear q1 q3
        obtain ⟨wsa, gia, cia, r1, -, r3, -, -, ca, Fa, Ea⟩ := (by first | exact H12.out.word hl.out h4.out hK | exact (H12.out.rm 1).word hl.out h4.out hK : ∃ ws' gi' ci', m[K]? = some ws' ∧ ws'.length = 4 ∧ ss[K]? = some (some ⟨gi', 0, none⟩, 4, ci') ∧ 4 ≤ ci' ∧ ci' ≤ maxLen ∧ (W11).cell? ⟨g, K, none⟩ = some (.slice (some ⟨gi', 0, none⟩) 4 ci') ∧ (∀ j, (W11).frozen? ⟨gi', j, none⟩ = false) ∧ ∀ j z, ws'[j]? = some z → (W11).cell? ⟨gi', j, none⟩ = some (.int .i64 z)); rw [Q3.out] at r3; simp only [Option.some.injEq, Prod.mk.injEq, Addr.mk.injEq, and_true, true_and] at r3; obtain ⟨rfl, rfl⟩ := r3; rw [Q1.out] at r1; simp only [Option.some.injEq] at r1; subst r1; clear Fa Ea; obtain ⟨wsao, giao, ciao, r1, -, r3, -, -, cao, Fao, Eao⟩ := (by first | exact (H12.out.over (.cells #[.int .i64 (-1), .int .i64 10000] 3)).word hl.out h4.out hK | exact ((H12.out.over (.cells #[.int .i64 (-1), .int .i64 10000] 3)).rm 1).word hl.out h4.out hK : ∃ ws' gi' ci', m[K]? = some ws' ∧ ws'.length = 4 ∧ ss[K]? = some (some ⟨gi', 0, none⟩, 4, ci') ∧ 4 ≤ ci' ∧ ci' ≤ maxLen ∧ (W11.alloc (.cells #[.int .i64 (-1), .int .i64 10000] 3)).cell? ⟨g, K, none⟩ = some (.slice (some ⟨gi', 0, none⟩) 4 ci') ∧ (∀ j, (W11.alloc (.cells #[.int .i64 (-1), .int .i64 10000] 3)).frozen? ⟨gi', j, none⟩ = false) ∧ ∀ j z, ws'[j]? = some z → (W11.alloc (.cells #[.int .i64 (-1), .int .i64 10000] 3)).cell? ⟨gi', j, none⟩ = some (.int .i64 z)); rw [Q3.out] at r3; simp only [Option.some.injEq, Prod.mk.injEq, Addr.mk.injEq, and_true, true_and] at r3; obtain ⟨rfl, rfl⟩ := r3; rw [Q1.out] at r1; simp only [Option.some.injEq] at r1; subst r1; clear Fao Eao
        have hKa : (0 : Int) ≤ (K : Int) := by omega
        have hKb : (K : Int) < 12 := by omega
        go_wp2
        go_region_with (first
          | (go_at_call 53; (first | (with_reducible refine (pick_b 4 HA.drew (by omega) (by omega)).mono ?_) | (with_reducible refine (pick_b 4 (((HA.alloc _).drew).front 1 rfl) (by omega) (by omega)).mono ?_)); rintro e W13 ⟨x, rfl, hx0, hx1, HB⟩; replace hx1 := hx1 (by omega); obtain ⟨X, rfl⟩ := Int.eq_ofNat_of_zero_le hx0; obtain ⟨wsb, gib, cib, r1, -, r3, -, -, cb, Fb, Eb⟩ := (by first | exact HB.word hl.out h4.out hK | exact (HB.rm 1).word hl.out h4.out hK : ∃ ws' gi' ci', m[K]? = some ws' ∧ ws'.length = 4 ∧ ss[K]? = some (some ⟨gi', 0, none⟩, 4, ci') ∧ 4 ≤ ci' ∧ ci' ≤ maxLen ∧ (W13).cell? ⟨g, K, none⟩ = some (.slice (some ⟨gi', 0, none⟩) 4 ci') ∧ (∀ j, (W13).frozen? ⟨gi', j, none⟩ = false) ∧ ∀ j z, ws'[j]? = some z → (W13).cell? ⟨gi', j, none⟩ = some (.int .i64 z)); rw [Q3.out] at r3; simp only [Option.some.injEq, Prod.mk.injEq, Addr.mk.injEq, and_true, true_and] at r3; obtain ⟨rfl, rfl⟩ := r3; rw [Q1.out] at r1; simp only [Option.some.injEq] at r1; subst r1; clear Fb Eb; obtain ⟨wsbo, gibo, cibo, r1, -, r3, -, -, cbo, Fbo, Ebo⟩ := (by first | exact (HB.over (.cells #[.int .i64 (-1), .int .i64 10000] 3)).word hl.out h4.out hK | exact ((HB.over (.cells #[.int .i64 (-1), .int .i64 10000] 3)).rm 1).word hl.out h4.out hK : ∃ ws' gi' ci', m[K]? = some ws' ∧ ws'.length = 4 ∧ ss[K]? = some (some ⟨gi', 0, none⟩, 4, ci') ∧ 4 ≤ ci' ∧ ci' ≤ maxLen ∧ (W13.alloc (.cells #[.int .i64 (-1), .int .i64 10000] 3)).cell? ⟨g, K, none⟩ = some (.slice (some ⟨gi', 0, none⟩) 4 ci') ∧ (∀ j, (W13.alloc (.cells #[.int .i64 (-1), .int .i64 10000] 3)).frozen? ⟨gi', j, none⟩ = false) ∧ ∀ j z, ws'[j]? = some z → (W13.alloc (.cells #[.int .i64 (-1), .int .i64 10000] 3)).cell? ⟨gi', j, none⟩ = some (.int .i64 z)); rw [Q3.out] at r3; simp only [Option.some.injEq, Prod.mk.injEq, Addr.mk.injEq, and_true, true_and] at r3; obtain ⟨rfl, rfl⟩ := r3; rw [Q1.out] at r1; simp only [Option.some.injEq] at r1; subst r1; clear Fbo Ebo; have hX1 : (X : Int) < 4 := (by omega))
          | (go_at_call 53; (first | (with_reducible refine (pick_b 2 HB (by omega) (by omega)).mono ?_) | (with_reducible refine (pick_b 2 ((HB.alloc _).front 1 rfl) (by omega) (by omega)).mono ?_)); rintro e W14 ⟨y, rfl, hy0', hy1', HC⟩; replace hy1' := hy1' (by omega); obtain ⟨Y, rfl⟩ := Int.eq_ofNat_of_zero_le hy0'; obtain ⟨wsd, gid, cid, r1, -, r3, -, -, cd, Fd, Ed⟩ := (by first | exact HC.word hl.out h4.out hK | exact (HC.rm 1).word hl.out h4.out hK : ∃ ws' gi' ci', m[K]? = some ws' ∧ ws'.length = 4 ∧ ss[K]? = some (some ⟨gi', 0, none⟩, 4, ci') ∧ 4 ≤ ci' ∧ ci' ≤ maxLen ∧ (W14).cell? ⟨g, K, none⟩ = some (.slice (some ⟨gi', 0, none⟩) 4 ci') ∧ (∀ j, (W14).frozen? ⟨gi', j, none⟩ = false) ∧ ∀ j z, ws'[j]? = some z → (W14).cell? ⟨gi', j, none⟩ = some (.int .i64 z)); rw [Q3.out] at r3; simp only [Option.some.injEq, Prod.mk.injEq, Addr.mk.injEq, and_true, true_and] at r3; obtain ⟨rfl, rfl⟩ := r3; rw [Q1.out] at r1; simp only [Option.some.injEq] at r1; subst r1; obtain ⟨wsdo, gido, cido, r1, -, r3, -, -, cdo, Fdo, Edo⟩ := (by first | exact (HC.over (.cells #[.int .i64 (-1), .int .i64 10000] 3)).word hl.out h4.out hK | exact ((HC.over (.cells #[.int .i64 (-1), .int .i64 10000] 3)).rm 1).word hl.out h4.out hK : ∃ ws' gi' ci', m[K]? = some ws' ∧ ws'.length = 4 ∧ ss[K]? = some (some ⟨gi', 0, none⟩, 4, ci') ∧ 4 ≤ ci' ∧ ci' ≤ maxLen ∧ (W14.alloc (.cells #[.int .i64 (-1), .int .i64 10000] 3)).cell? ⟨g, K, none⟩ = some (.slice (some ⟨gi', 0, none⟩) 4 ci') ∧ (∀ j, (W14.alloc (.cells #[.int .i64 (-1), .int .i64 10000] 3)).frozen? ⟨gi', j, none⟩ = false) ∧ ∀ j z, ws'[j]? = some z → (W14.alloc (.cells #[.int .i64 (-1), .int .i64 10000] 3)).cell? ⟨gi', j, none⟩ = some (.int .i64 z)); rw [Q3.out] at r3; simp only [Option.some.injEq, Prod.mk.injEq, Addr.mk.injEq, and_true, true_and] at r3; obtain ⟨rfl, rfl⟩ := r3; rw [Q1.out] at r1; simp only [Option.some.injEq] at r1; subst r1; have hY1 : (Y : Int) < 2 := (by omega); obtain ⟨z0, hz, hz2⟩ := lit2 (a := -1) (b := 10000) (j := Y) (by omega); obtain ⟨zo, hzo⟩ : ∃ z, ws[X]? = some z := ⟨_, List.getElem?_eq_getElem (by omega)⟩; have e7 := Ed X zo hzo; have e8 := Edo X zo hzo; have f7 := Fd X; have f8 := Fdo X; clear Ed Edo Fd Fdo hzo; (try (have cc := cell_of_row _ _ Y _ _ (0, 0) (HC.get 1 rfl); rw [hz] at cc))))
        all_goals
          go_wp2
          go_ret
          first | exact ⟨_, _, m.set K (ws.set X z0), rfl, ⟨by have := hl.out; simp; omega, fun xs hx => Nat.le_of_eq (set_fours Q1.out h4.out xs hx)⟩, Bun.more (k := k + 200 + 1 + 1 + 1 + 1) (((((HC.over (.cells #[.int .i64 (-1), .int .i64 10000] 3)).front 2 rfl).storeRow Q3.out Q1.out (show X < ws.length by omega) z0).front 2 rfl).front 2 rfl) (by omega)⟩ | exact ⟨_, _, m.set K (ws.set X z0), rfl, ⟨by have := hl.out; simp; omega, fun xs hx => Nat.le_of_eq (set_fours Q1.out h4.out xs hx)⟩, Bun.more (k := k + 200 + 1 + 1 + 1 + 1) (((((HC.rm 1).front 2 rfl).storeRow Q3.out Q1.out (show X < ws.length by omega) z0).front 2 rfl).front 2 rfl) (by omega)⟩
      by_cases z1 : q = 1
      · subst z1
        clear hq0
        obtain ⟨ws, gi, ci, q1, q2, q3, q4, q5, c0, -, -⟩ := H12.out.word hl.out h4.out hK
        have HA := H12.out
        have Q1 := Lib.hid q1
        have Q3 := Lib.hid q3
        unfold maxLen at q5
        clear q1 q3
        go_wp2
        go_region_with (go_at_call 53; with_reducible refine (pick_b 4 HA.drew (by omega) (by omega)).mono ?_; rintro e W12 ⟨x, rfl, hx0, hx1, HB⟩; replace hx1 := hx1 (by omega); obtain ⟨X, rfl⟩ := Int.eq_ofNat_of_zero_le hx0; obtain ⟨ws', gi', ci', q1', -, q3', -, -, c5, -, -⟩ := HB.word hl.out h4.out hK; rw [Q3.out] at q3'; simp only [Option.some.injEq, Prod.mk.injEq, Addr.mk.injEq, and_true, true_and] at q3'; obtain ⟨rfl, rfl⟩ := q3'; obtain ⟨G2, C2, e2, -, -, -, -, hfz, -⟩ := HB.at 1 rfl encL_len Q3.out; simp only [Value.slice.injEq, Option.some.injEq, Addr.mk.injEq, and_true] at e2; obtain ⟨rfl, -, -⟩ := e2; have f5 := hfz K; clear q1' hfz; have hX : X < 4 := (by omega); have hX2 : (X : Int) ≤ (ci : Int) := (by omega); have H13 := Lib.hid ((((HB.front 2 rfl).front 2 rfl).cutRow Q3.out Q1.out (show X ≤ 4 by omega)).front 2 rfl))
        all_goals
          go_wp2
          go_ret
          exact ⟨_, _, _, rfl, ⟨by have := hl.out; simp; omega, fun xs hx => by
            rcases List.mem_or_eq_of_mem_set hx with hx | rfl
            · exact Nat.le_of_eq (h4.out xs hx)
            · simp; omega⟩, H13.out.more (by omega)⟩
      have hb0 : (q == 0) = false := beq_eq_false_iff_ne.2 z0
      have hb1 : (q == 1) = false := beq_eq_false_iff_ne.2 z1
      by_cases z2 : q = 2
      · subst z2
        have H13 := Lib.hid (((((H12.out.front 2 rfl).front 2 rfl).cutRows (i := K) (by omega))).front 2 rfl)
        have hKc : (K : Int) ≤ (c : Int) := by omega
        clear z0 z1 hb0 hb1
        go_wp2
        go_ret
        exact ⟨_, _, _, rfl, ⟨by have := hl.out; simp; omega, fun xs hx => Nat.le_of_eq (h4.out xs (List.mem_of_mem_take hx))⟩, H13.out.more (by omega)⟩
      · have hb2 : (q == 2) = false := beq_eq_false_iff_ne.2 z2
        clear z0 z1 z2
        go_wp2
        go_ret
        exact ⟨_, _, _, rfl, ⟨Nat.le_of_eq hl.out, fun xs hx => Nat.le_of_eq (h4.out xs hx)⟩, H12.out.more (by omega)⟩
end
end Go.Proofs.YtklphfmjdgnpnaaDoor
