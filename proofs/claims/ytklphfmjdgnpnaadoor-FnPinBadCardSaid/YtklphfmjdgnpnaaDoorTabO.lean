/- Contracts of the draws of a memory with tables. No conditions but the readings of the arguments. -/
import Derived.Test.YtklphfmjdgnpnaaDoorTabN
import Derived.Test.YtklphfmjdgnpnaaDoorInfoI
namespace Go.Proofs.YtklphfmjdgnpnaaDoor
open Go.ChangeShapes Go.WideShapes Go.RowKit
set_option linter.all false
set_option maxRecDepth 100000
attribute [local go_sem ↓] Go.wp_at_zero Go.wp_at_succ

section
variable {w0 w w' : World} {row : Option Nat} {rs : List Res} {B : Nat} {v : Value} {bs : List Int} {k : Int}

set_option maxHeartbeats 8000000 in
theorem l91Tables_b (f kind : Int) (hkd : -1 ≤ kind ∧ kind ≤ 4) (H : Bun w0 row w (Res.rdr B v bs k :: rs)) (hk : k ≤ 1000) : Calls Tryd.prog 52 #[.pointer (some ⟨B, 0, none⟩), .int .i64 f, .int .i64 kind] w fun e w' =>
    ∃ u ss m q xs, e = .returned (.tuple #[u, q]) ∧ drawnM m ∧ xs.length ≤ 12 ∧ shortF xs ∧ Bun w0 row w' (Res.rdr B v bs (k + 1000) :: rowF q xs :: rowS u ss :: rowsI ss m :: rs) := by
  have HH := Lib.hid H
  clear H
  go_enter Tryd.func52, Tryd.ntmps52
  go_wp2_with fail
  refine (l91Memory_b HH.out (by omega)).mono ?_
  rintro e W1 ⟨u, ss, m, rfl, hdm, H1⟩
  go_wp2_with fail
  refine (l91Infos_b H1 (by omega)).mono ?_
  rintro e W2 ⟨q, xs, rfl, hl12, hsh, H2⟩
  have HDM := Lib.hid hdm
  have HSH := Lib.hid hsh
  have HL12 := Lib.hid hl12
  have HH2 := Lib.hid H2
  clear HH H1 H2 hdm hsh hl12
  go_wp2_with fail
  refine (specMemoryValid_c m u _ (HH2.out.rdN 2 3 rfl rfl encI_len)).mono ?_
  rintro e W3 ⟨rfl, hb3⟩
  have H3 := Lib.hid (HH2.out.call hb3)
  clear hb3 HH2
  cases c1 : memOk m
  · clear c1
    go_wp2
    go_ret2
    exact ⟨u, ss, m, q, xs, rfl, HDM.out, HL12.out, HSH.out, H3.out.more (by omega)⟩
  have C1 := Lib.hid c1
  clear c1
  go_wp2_with fail
  refine (specInfosValid_c xs q _ (H3.out.rd 1 rfl Info.enc_len) HSH.out.fit).mono ?_
  rintro e W4 ⟨rfl, hb4⟩
  have H4 := Lib.hid (H3.out.call hb4)
  clear hb4 H3
  cases c2 : infosOk xs
  · clear c2
    go_wp2
    go_ret2
    exact ⟨u, ss, m, q, xs, rfl, HDM.out, HL12.out, HSH.out, H4.out.more (by omega)⟩
  have C2 := Lib.hid c2
  clear c2
  go_wp2_with fail
  refine (l1Frame_c f _).mono ?_
  rintro e W5 ⟨rfl, rfl⟩
  cases c3 : btw 0 f 11
  · clear c3
    go_wp2
    go_ret2
    exact ⟨u, ss, m, q, xs, rfl, HDM.out, HL12.out, HSH.out, H4.out.more (by omega)⟩
  go_wp2_with fail
  refine (l13Table_c kind _).mono ?_
  rintro e W6 ⟨rfl, rfl⟩
  cases c4 : tabK kind
  · clear c3 c4
    go_wp2
    go_ret2
    exact ⟨u, ss, m, q, xs, rfl, HDM.out, HL12.out, HSH.out, H4.out.more (by omega)⟩
  clear c4
  go_wp2_with fail
  refine (pick_b 8 H4.out (by omega) (by omega)).mono ?_
  rintro e W7 ⟨p, rfl, hp0, -, H7⟩
  have HH7 := Lib.hid H7
  clear H7 H4
  by_cases hp : p = 0
  · subst hp
    clear c3
    go_wp2
    go_ret2
    exact ⟨u, ss, m, q, xs, rfl, HDM.out, HL12.out, HSH.out, HH7.out.more (by omega)⟩
  have hpb : (p == 0) = false := beq_eq_false_iff_ne.2 hp
  simp only [btw, decide_eq_true_eq] at c3
  obtain ⟨F, rfl⟩ := Int.eq_ofNat_of_zero_le c3.1
  have hF : F < 12 := by omega
  have hF0 : (0 : Int) ≤ (F : Int) := by omega
  have hF1 : (F : Int) < 12 := by omega
  have hml := memOk_len C1.out
  have H4L := Lib.hid (fun ws (hw : ws ∈ m) => wordsOk_len (memOk_all C1.out hw))
  have HML := Lib.hid hml
  have HXL := Lib.hid (infosOk_len C2.out)
  obtain ⟨x, hx⟩ : ∃ x, xs[F]? = some x := ⟨_, List.getElem?_eq_getElem (by have := HXL.out; omega)⟩
  obtain ⟨gf, cf, rfl, g1, g2, g3, g4, g5, g6⟩ := HH7.out.at 1 rfl Info.enc_len hx
  have d0 := g6 0 _ rfl
  have d1 := g6 1 _ rfl
  have d2 := g6 2 _ rfl
  have f0 := g5 (F * 3)
  have f1 := g5 (F * 3 + 1)
  have f2 := g5 (F * 3 + 2)
  simp only [Nat.add_zero] at d0
  have H8 := Lib.hid (((((HH7.out.front 1 rfl).store3 Info.enc_len (x := ⟨1, [97], 0⟩) (a1 := .int .i64 1) (a2 := .string ⟨#[97]⟩) (a3 := .int .i64 0) g1 rfl).front 3 rfl).front 3 rfl).front 3 rfl)
  obtain ⟨s0, hs0⟩ : ∃ s, ss[0]? = some s := ⟨_, List.getElem?_eq_getElem (by have := (show InO encI 1 3 0 W7.heap.size W7 ss m from HH7.out.get 3 rfl).len; omega)⟩
  obtain ⟨g, c, rfl, -, g2', g3', -, -, -⟩ := HH7.out.at 2 rfl encL_len hs0
  have hsl : ss.length = 12 := by have := (show InO encI 1 3 0 W7.heap.size W7 ss m from HH7.out.get 3 rfl).len; omega
  unfold maxLen at g3 g3'
  rw [HXL.out] at g1 g2 H8 ⊢
  rw [hsl] at g2' H8 ⊢
  clear g5 g6 hx hs0 c3 hml HH7 hp hp0
  go_wp2
  go_loopw [10] (fun i wr => ∃ (j : Nat) (m' : List (List Int)) (xs' : List Info), j ≤ 4 ∧ i = .int .i64 j ∧ Hid (m'.length = 12) ∧ Hid (∀ ws ∈ m', ws.length = 4) ∧ Hid (xs'.length = 12) ∧ Hid (shortF xs') ∧ Bun w0 row wr (Res.rdr B v bs (k + 500 + 10 * j) :: rowS (.slice (some ⟨g, 0, none⟩) 12 c) ss :: rowsI ss m' :: rowF (.slice (some ⟨gf, 0, none⟩) 12 cf) xs' :: rs)) (fun i _ => 4 - (intOf i).toNat)
  case atStart => exact ⟨0, m, _, Nat.zero_le _, rfl, HML, H4L, Lib.hid (by rw [List.length_set]; exact HXL.out), Lib.hid (shortF_set HSH.out (by simp)), H8.out.more (by omega)⟩
  case round =>
    obtain ⟨j, m', xs', hj, rfl, hl, h4, hxl, hsf, hb⟩ := hrel
    have HB := Lib.hid hb
    clear hb
    by_cases hlt : j < 4
    · obtain ⟨ws, gi, ci, q1, q2, q3, q4, q5, c0, F0, E0⟩ := HB.out.word hl.out h4.out hF
      obtain ⟨z, hz⟩ : ∃ z, ws[j]? = some z := ⟨_, List.getElem?_eq_getElem (by omega)⟩
      have e0 := E0 j z hz
      have fz := F0 j
      unfold maxLen at q5
      have H1 := Lib.hid ((((HB.out.front 2 rfl).storeRow q3 q1 (show j < ws.length by omega) 0).front 2 rfl).front 2 rfl)
      have L1 := Lib.hid (show (m'.set F (ws.set j 0)).length = 12 by rw [List.length_set]; exact hl.out)
      have L2 := Lib.hid (set_fours (j := j) (z := 0) q1 h4.out)
      generalize m'.set F (ws.set j 0) = m1 at *
      have hj0 : (0 : Int) ≤ (j : Int) := by omega
      have hj4 : (j : Int) < 4 := by omega
      clear F0 E0 hz q1 q3 HB
      go_wp2_with fail
      refine (pick_b 12 H1.out (by omega) (by omega)).mono ?_
      rintro e W9 ⟨y, rfl, hy0, hy1, H2⟩
      replace hy1 := hy1 (by omega)
      obtain ⟨Y, rfl⟩ := Int.eq_ofNat_of_zero_le hy0
      have HH2 := Lib.hid H2
      clear H2 H1 e0 fz c0
      by_cases hYF : Y = F
      · have hyb : ((Y : Int) != (F : Int)) = false := by simp [hYF]
        clear hYF
        go_wp2
        go_roundw
        case rel => exact ⟨j + 1, m1, xs', by omega, by go_num, L1, L2, hxl, hsf, HH2.out.more (by simp only [Int.natCast_add]; omega)⟩
        case measure => simp [intOf]; omega
      have hyb : ((Y : Int) != (F : Int)) = true := bne_iff_ne.2 (by omega)
      clear hYF
      go_wp2_with fail
      refine (pick_b 4 HH2.out (by omega) (by omega)).mono ?_
      rintro e W10 ⟨p, rfl, hp0, -, H3⟩
      have HH3 := Lib.hid H3
      clear H3 HH2
      by_cases hp : 0 < p
      · go_wp2_with fail
        refine (pick_b 3 HH3.out (by omega) (by omega)).mono ?_
        rintro e W11 ⟨r, rfl, hr0, -, H5⟩
        obtain ⟨x2, hx2⟩ : ∃ x, xs'[Y]? = some x := ⟨_, List.getElem?_eq_getElem (by have := hxl.out; omega)⟩
        obtain ⟨gf2, cf2, e2, t1, -, -, t4, t5, t6⟩ := H5.at 3 rfl Info.enc_len hx2
        simp only [Value.slice.injEq, Option.some.injEq, Addr.mk.injEq, and_true] at e2
        obtain ⟨rfl, -, rfl⟩ := e2
        have b0 := t6 0 _ rfl
        have b1 := t6 1 _ rfl
        have b2 := t6 2 _ rfl
        have a0 := t5 (Y * 3)
        have a1 := t5 (Y * 3 + 1)
        have a2 := t5 (Y * 3 + 2)
        simp only [Nat.add_zero] at b0
        have H6 := Lib.hid (((((H5.front 3 rfl).store3 Info.enc_len (x := ⟨kind - 1, [97, 98], r⟩) (a1 := .int .i64 (kind - 1)) (a2 := .string ⟨#[97, 98]⟩) (a3 := .int .i64 r) t1 rfl).front 3 rfl).front 3 rfl).front 3 rfl)
        have L3 := Lib.hid (show (xs'.set Y ⟨kind - 1, [97, 98], r⟩).length = 12 by rw [List.length_set]; exact hxl.out)
        have L4 := Lib.hid (shortF_set (k := Y) (m := ⟨kind - 1, [97, 98], r⟩) hsf.out (by simp))
        have HA := H6.out
        obtain ⟨ws1, gi1, ci1, q1, q2', q3, q4', q5', c1, -, -⟩ := HA.word L1.out L2.out hF
        have Q1 := Lib.hid q1
        have Q3 := Lib.hid q3
        unfold maxLen at q5'
        clear t5 t6 hx2 H5 HH3 q1 q3
        go_wp2
        go_region_with (first
          | (go_at_call 53; with_reducible refine (pick_b 2 HA.drew (by omega) (by omega)).mono ?_; rintro e W13 ⟨p2, rfl, hp20, hp21, HC⟩; obtain ⟨ws2, gi2, ci2, r1, -, r3, -, -, c6, f6, e6⟩ := HC.word L1.out L2.out hF; rw [Q3.out] at r3; rw [Q1.out] at r1; simp only [Option.some.injEq, Prod.mk.injEq, Addr.mk.injEq, and_true, true_and] at r3 r1; obtain ⟨rfl, rfl⟩ := r3; subst r1; obtain ⟨z, hz⟩ : ∃ z, ws1[j]? = some z := ⟨_, List.getElem?_eq_getElem (by omega)⟩; have e7 := e6 j z hz; have f7 := f6 j; have H7 := Lib.hid (fun z => (((HC.front 2 rfl).storeRow Q3.out Q1.out (show j < ws1.length by omega) z).front 2 rfl).front 2 rfl); clear e6 f6 hz)
          | (go_at_call 91; refine (l1Put_c _ _ _ ⟨by omega, by omega⟩).mono ?_; rintro e W15 ⟨⟨xw, rfl⟩, rfl⟩))
        all_goals
          go_wp2
          go_roundw
          case rel => exact ⟨j + 1, m1.set F (ws1.set j _), _, by omega, by go_num, Lib.hid (by rw [List.length_set]; exact L1.out), Lib.hid (set_fours Q1.out L2.out), L3, L4, Bun.more (k := k + 500 + 10 * (j : Int) + 1 + 1 + 1 + 1) (H7.out _) (by simp only [Int.natCast_add]; omega)⟩
          case measure => simp [intOf]; omega
      · have hpb : decide (0 < p) = false := by simp; omega
        go_wp2
        go_roundw
        case rel => exact ⟨j + 1, m1, xs', by omega, by go_num, L1, L2, hxl, hsf, HH3.out.more (by simp only [Int.natCast_add]; omega)⟩
        case measure => simp [intOf]; omega
    · obtain rfl : j = 4 := by omega
      go_wp2
      go_ret2
      exact ⟨_, ss, m', _, xs', rfl, ⟨Nat.le_of_eq hl.out, fun ws hw => Nat.le_of_eq (h4.out ws hw)⟩, Nat.le_of_eq hxl.out, hsf.out, (HB.out.front 3 rfl).front 1 rfl |>.more (by omega)⟩
end

theorem shortF_pinned {m : List (List Int)} {xs : List Info} {f kind : Int} (h : shortF xs) : shortF (pinned m xs f kind) := by
  have h1 : shortF (addR xs (fun i => 1 * cntI (names (rowAt m f)) i)) := by
    intro y hy
    unfold addR at hy
    rw [List.mem_mapIdx] at hy
    obtain ⟨i, hi, rfl⟩ := hy
    exact h (xs[i]) (List.getElem_mem hi)
  refine shortF_set h1 ?_
  show (infAt _ _).gd.length ≤ 5
  unfold infAt
  cases hz : (addR xs (fun i => 1 * cntI (names (rowAt m f)) i))[(((f.toNat : Nat) : Int)).toNat]? with
  | none => simp [Info.zero]
  | some y => exact h1 y (List.mem_of_getElem? hz)
end Go.Proofs.YtklphfmjdgnpnaaDoor
