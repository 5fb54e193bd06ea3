/- Contracts of the functions that draw messages. No conditions but the readings of the arguments. -/
import Derived.Test.YtkpdjnfgmgnjdaaDraw
import Derived.Test.YtkpdjnfgmgnjdaaMailC
import Derived.Test.YtkpdjnfgmgnjdaaInts
namespace Go.Proofs.Ytkpdjnfgmgnjdaa
open Go.ChangeShapes Go.WideShapes Go.RowKit
set_option linter.all false
attribute [local go_sem ↓] Go.wp_at_zero Go.wp_at_succ

theorem Rdr.below {w w' : World} {B : Nat} {k : Int} (h : Rdr w B k) (hb : Below w.heap.size w w') : Rdr w' B k := by
  obtain ⟨v, bs, p, hB, hr, r⟩ := h
  exact ⟨v, bs, p, bkept hb hB, hr.below hb, r⟩
theorem Rdr.set {w : World} {B : Nat} {k : Int} (h : Rdr w B k) (p : Addr) (u : Value) (hp : B < p.block) : Rdr (w.setCell p u) B k := by
  obtain ⟨v, bs, q, hB, hr, hb, hv, r⟩ := h
  refine ⟨v, bs, q, (Below.heap_setCell w p u B (by omega)).trans hB, ?_, hb, hv, r⟩
  obtain ⟨a, c, rfl, h1, h2, h0, h3⟩ := hr
  refine ⟨a, c, rfl, h1, h2, h0, fun k x hx => ?_⟩
  obtain ⟨b, o, rfl, hlt, hc⟩ := h3 k x hx
  have hb2 := hv (by rintro rfl; simp at hx) b rfl
  exact ⟨b, o, rfl, by simpa using hlt, fun j y hy => (World.cell?_of_block (Below.heap_setCell w p u b (by omega))).trans (hc j y hy)⟩
theorem gown {w a b : World} {B : Nat} {row : Option Nat} (h : w.grownBy a (some B)) (hg : a.grownBy b row) (hr : ∀ q, row = some q → w.heap.size ≤ q) : w.grownBy b (some B) :=
  ⟨hg.os.trans h.os, hg.tape.trans h.tape, hg.output.trans h.output, Nat.le_trans h.size hg.size, fun k hk hne => (hg.block k (Nat.lt_of_lt_of_le hk h.size) (fun e => by have := hr k e.symm; omega)).trans (h.block k hk hne)⟩
theorem Rdr.grown {w w' : World} {B : Nat} {k : Int} {row : Option Nat} (h : Rdr w B k) (hg : w.grownBy w' row) (hr : ∀ q, row = some q → B < q) : Rdr w' B k := by
  obtain ⟨v, bs, q, hB, hrd, hb, hv, r⟩ := h
  refine ⟨v, bs, q, gkept hg hB (fun e => by have := hr B e; omega), ?_, hb, hv, r⟩
  obtain ⟨a, c, rfl, h1, h2, h0, h3⟩ := hrd
  refine ⟨a, c, rfl, h1, h2, h0, fun k x hx => ?_⟩
  obtain ⟨b, o, rfl, hlt, hc⟩ := h3 k x hx
  have hb2 := hv (by rintro rfl; simp at hx) b rfl
  exact ⟨b, o, rfl, Nat.lt_of_lt_of_le hlt hg.size, fun j y hy => (World.cell?_of_block (hg.block b hlt (fun e => by have := hr b e.symm; omega))).trans (hc j y hy)⟩
theorem Rdr.lt {w : World} {B : Nat} {k : Int} (h : Rdr w B k) : B < w.heap.size := by
  obtain ⟨v, bs, p, hB, -⟩ := h
  exact (Array.getElem?_eq_some_iff.1 hB).1
theorem Rdr.mono {w : World} {B : Nat} {k k' : Int} (h : Rdr w B k) (hk : k ≤ k') : Rdr w B k' := by
  obtain ⟨v, bs, p, h1, h2, h3, h4, h5, h6, h7⟩ := h
  exact ⟨v, bs, p, h1, h2, h3, h4, h5, by omega, h7⟩
theorem gtrans {w a b : World} {row : Option Nat} (h : w.grownBy a row) (k : a.grownBy b row) : w.grownBy b row :=
  ⟨k.os.trans h.os, k.tape.trans h.tape, k.output.trans h.output, Nat.le_trans h.size k.size, fun i hi hne => (k.block i (Nat.lt_of_lt_of_le hi h.size) hne).trans (h.block i hi hne)⟩
theorem gthen {w a b : World} {row : Option Nat} (h : w.grownBy a row) (k : Below a.heap.size a b) : w.grownBy b row := gtrans h (below_grown k row)
theorem gset {w a : World} {row : Option Nat} (h : w.grownBy a row) {p : Addr} (hp : w.heap.size ≤ p.block) (u : Value) : w.grownBy (a.setCell p u) row :=
  ⟨h.os, h.tape, h.output, by simpa using h.size, fun k hk hne => (Below.heap_setCell a p u k (by omega)).trans (h.block k hk hne)⟩
theorem OwT.gr {α : Type} {enc : α → List Value} {K e base : Nat} {w w' : World} {v : Value} {xs : List α} {B : Nat} (h : OwT enc K e base w v xs) (hg : w.grownBy w' (some B)) (hB : B < base) : OwT enc K e base w' v xs :=
  h.grown hg fun b hb => by have := (World.ownsRow.lt h b hb).1; omega

set_option maxHeartbeats 4000000 in
theorem l93Mail_c (B : Nat) (k : Int) (w : World) (h : Rdr w B k) (hk : k ≤ 100000) : Calls Try.prog 52 #[.pointer (some ⟨B, 0, none⟩)] w fun e w' =>
    ∃ m : Mail, e = .returned m.val ∧ Rdr w' B (k + 5) ∧ w.grownBy w' (some B) := by
  have hB := h.lt
  have HR := Lib.hid (h.below (balloc w (.cells #[.int .i64 0, .int .i64 0, .int .i64 0] 31)))
  have HG := Lib.hid (below_grown (balloc w (.cells #[.int .i64 0, .int .i64 0, .int .i64 0] 31)) (some B))
  clear h
  go_enter Try.func52, Try.ntmps52
  go_wp2_with fail
  refine (pick_c B k 3 _ HR.out (by omega) (by omega)).mono ?_
  rintro e W1 ⟨x1, rfl, hx1, hy1, hr1, hg1⟩
  have HB1 := Lib.hid (gkept hg1 (heap_alloc_new w _) (by simp; omega))
  have HG1 := Lib.hid (gtrans HG.out hg1)
  clear HR HG hg1
  go_wp2_with fail
  refine (pick_c B _ 3 _ hr1 (by omega) (by omega)).mono ?_
  rintro e W2 ⟨x2, rfl, hx2, hy2, hr2, hg2⟩
  have HB2 := Lib.hid (gkept hg2 HB1.out (by simp; omega))
  have HG2 := Lib.hid (gtrans HG1.out hg2)
  clear HB1 HG1 hg2 hr1
  go_wp2_with fail
  refine (pick_c B _ 250 _ hr2 (by omega) (by omega)).mono ?_
  rintro e W3 ⟨x3, rfl, hx3, hy3, hr3, hg3⟩
  have HB3 := Lib.hid (gkept hg3 HB2.out (by simp; omega))
  have HG3 := Lib.hid (gtrans HG2.out hg3)
  have hy3' := hy3 (by omega)
  clear HB2 HG2 hg3 hr2 hy3 hy1 hy2
  go_wp2_with fail
  refine (pick_c B _ 30 _ (by exact hr3.below (balloc _ _)) (by omega) (by omega)).mono ?_
  rintro e W4 ⟨x4, rfl, hx4, hy4, hr4, hg4⟩
  have HBm := Lib.hid (gkept hg4 (heap_alloc_new W3 _) (by have := HG3.out.size; simp; omega))
  have HBr := Lib.hid (gkept hg4 (akept _ HB3.out) (by simp; omega))
  have HG4 := Lib.hid (gtrans (gthen HG3.out (balloc W3 _)) hg4)
  have hs34 : w.heap.size < W3.heap.size := (Array.getElem?_eq_some_iff.1 HB3.out).1
  have hs4 : W3.heap.size < W4.heap.size := (Array.getElem?_eq_some_iff.1 HBm.out).1
  clear HB3 HG3 hg4 hr3 hy4
  by_cases e0 : x4 = 0
  · subst e0
    go_wp2_with fail
    refine (pick_c B _ 2 _ (by exact hr4.below (balloc _ _)) (by omega) (by omega)).mono ?_
    rintro e W5 ⟨y, rfl, hy, hy2, hr5, hg5⟩
    replace hy2 := hy2 (by omega)
    have HL := Lib.hid (gkept hg5 (heap_alloc_new W4 _) (by simp; omega))
    have HBm5 := Lib.hid (gkept hg5 (akept _ HBm.out) (by simp; omega))
    have HBr5 := Lib.hid (gkept hg5 (akept _ HBr.out) (by simp; omega))
    have HG5 := Lib.hid (gtrans (gthen HG4.out (balloc W4 _)) hg5)
    clear hg5 HG4 HBm HBr hr4
    obtain ⟨l0, l1, -, -, ls⟩ := blk2 HL.out
    obtain ⟨m0, m1, m2, f0, f1, f2, ms⟩ := blk3 HBm5.out
    obtain ⟨r0, r1, r2, g0, g1, g2, rs⟩ := blk3 HBr5.out
    have hyc : y = 0 ∨ y = 1 := by omega
    rcases hyc with rfl | rfl
    · go_wp2
      refine bodyPost_ret (v := .agg #[.int .i64 x1, .int .i64 (-1), .int .i64 (x3 * 4)]) ?_ rfl ?_
      · simp [results, Try.results52, go_sem, r0, r1, r2, rs]
      · exact ⟨⟨x1, -1, x3 * 4⟩, rfl, (((hr5.set _ _ (by simp; omega)).set _ _ hB).set _ _ hB).set _ _ hB |>.mono (by omega), gset (gset (gset (gset HG5.out (by simp; omega) _) (by simp) _) (by simp) _) (by simp) _⟩
    · go_wp2
      refine bodyPost_ret (v := .agg #[.int .i64 x1, .int .i64 3, .int .i64 (x3 * 4)]) ?_ rfl ?_
      · simp [results, Try.results52, go_sem, r0, r1, r2, rs]
      · exact ⟨⟨x1, 3, x3 * 4⟩, rfl, (((hr5.set _ _ (by simp; omega)).set _ _ hB).set _ _ hB).set _ _ hB |>.mono (by omega), gset (gset (gset (gset HG5.out (by simp; omega) _) (by simp) _) (by simp) _) (by simp) _⟩
  by_cases e1 : x4 = 1
  · subst e1
    go_wp2_with fail
    refine (pick_c B _ 3 _ (by exact hr4.below (balloc _ _)) (by omega) (by omega)).mono ?_
    rintro e W5 ⟨y, rfl, hy, hy2, hr5, hg5⟩
    replace hy2 := hy2 (by omega)
    have HL := Lib.hid (gkept hg5 (heap_alloc_new W4 _) (by simp; omega))
    have HBm5 := Lib.hid (gkept hg5 (akept _ HBm.out) (by simp; omega))
    have HBr5 := Lib.hid (gkept hg5 (akept _ HBr.out) (by simp; omega))
    have HG5 := Lib.hid (gtrans (gthen HG4.out (balloc W4 _)) hg5)
    clear hg5 HG4 HBm HBr hr4
    obtain ⟨l0, l1, l2, -, -, -, ls⟩ := blk3 HL.out
    obtain ⟨m0, m1, m2, f0, f1, f2, ms⟩ := blk3 HBm5.out
    obtain ⟨r0, r1, r2, g0, g1, g2, rs⟩ := blk3 HBr5.out
    have hyc : y = 0 ∨ y = 1 ∨ y = 2 := by omega
    rcases hyc with rfl | rfl | rfl
    · go_wp2
      refine bodyPost_ret (v := .agg #[.int .i64 x1, .int .i64 x2, .int .i64 (-1)]) ?_ rfl ?_
      · simp [results, Try.results52, go_sem, r0, r1, r2, rs]
      · exact ⟨⟨x1, x2, -1⟩, rfl, (((hr5.set _ _ (by simp; omega)).set _ _ hB).set _ _ hB).set _ _ hB |>.mono (by omega), gset (gset (gset (gset HG5.out (by simp; omega) _) (by simp) _) (by simp) _) (by simp) _⟩
    · go_wp2
      refine bodyPost_ret (v := .agg #[.int .i64 x1, .int .i64 x2, .int .i64 9999]) ?_ rfl ?_
      · simp [results, Try.results52, go_sem, r0, r1, r2, rs]
      · exact ⟨⟨x1, x2, 9999⟩, rfl, (((hr5.set _ _ (by simp; omega)).set _ _ hB).set _ _ hB).set _ _ hB |>.mono (by omega), gset (gset (gset (gset HG5.out (by simp; omega) _) (by simp) _) (by simp) _) (by simp) _⟩
    · go_wp2
      refine bodyPost_ret (v := .agg #[.int .i64 x1, .int .i64 x2, .int .i64 10000]) ?_ rfl ?_
      · simp [results, Try.results52, go_sem, r0, r1, r2, rs]
      · exact ⟨⟨x1, x2, 10000⟩, rfl, (((hr5.set _ _ (by simp; omega)).set _ _ hB).set _ _ hB).set _ _ hB |>.mono (by omega), gset (gset (gset (gset HG5.out (by simp; omega) _) (by simp) _) (by simp) _) (by simp) _⟩
  · have b0 : (x4 == 0) = false := beq_eq_false_iff_ne.2 e0
    have b1 : (x4 == 1) = false := beq_eq_false_iff_ne.2 e1
    clear e0 e1
    obtain ⟨m0, m1, m2, f0, f1, f2, ms⟩ := blk3 HBm.out
    obtain ⟨r0, r1, r2, g0, g1, g2, rs⟩ := blk3 HBr.out
    go_wp2
    refine bodyPost_ret (v := .agg #[.int .i64 x1, .int .i64 x2, .int .i64 (x3 * 4)]) ?_ rfl ?_
    · simp [results, Try.results52, go_sem, r0, r1, r2, rs]
    · exact ⟨⟨x1, x2, x3 * 4⟩, rfl, ((hr4.set _ _ hB).set _ _ hB).set _ _ hB |>.mono (by omega), gset (gset (gset HG4.out (by simp) _) (by simp) _) (by simp) _⟩

set_option maxHeartbeats 4000000 in
theorem l93Mails_c (B : Nat) (k : Int) (w : World) (h : Rdr w B k) (hk : k ≤ 10000) : Calls Try.prog 47 #[.pointer (some ⟨B, 0, none⟩)] w fun e w' =>
    ∃ (xs : List Mail) (u : Value), e = .returned u ∧ OwM w.heap.size w' u xs ∧ Rdr w' B (k + 60) ∧ w.grownBy w' (some B) ∧ xs.length ≤ 10 := by
  have hB := h.lt
  have HR := Lib.hid (h.below (balloc w (.cells #[] 31)))
  have HG := Lib.hid (below_grown (balloc w (.cells #[] 31)) (some B))
  have HO := Lib.hid (OwT.lit eltMail w #[] [] rfl (by simp))
  clear h
  go_enter Try.func47, Try.ntmps47
  go_wp2_with fail
  refine (pick_c B k 10 _ HR.out (by omega) (by omega)).mono ?_
  rintro e W1 ⟨n, rfl, hn, hn2, hr1, hg1⟩
  replace hn2 := hn2 (by omega)
  have HO1 := Lib.hid (HO.out.gr hg1 hB)
  have HG1 := Lib.hid (gtrans HG.out hg1)
  clear HO HG HR hg1
  obtain ⟨N, rfl⟩ := Int.eq_ofNat_of_zero_le hn
  go_wp2
  go_loopw [3, 5] (fun r i wr => ∃ (j : Nat) (xs : List Mail), j ≤ N ∧ i = .int .i64 j ∧ xs.length = j ∧ OwM w.heap.size wr r xs ∧ Rdr wr B (k + 1 + 5 * j) ∧ w.grownBy wr (some B)) (fun _ i _ => N - (intOf i).toNat)
  case atStart => exact ⟨0, [], Nat.zero_le _, rfl, rfl, HO1.out, by simpa using hr1, HG1.out⟩
  case round =>
    obtain ⟨j, xs, hj, rfl, hxl, ho, hr, hg⟩ := hrel
    have HO := Lib.hid ho
    have HG := Lib.hid hg
    have HXL := Lib.hid hxl
    clear ho hg hxl
    by_cases hlt : j < N
    · go_wp2_with fail
      refine (l93Mail_c B _ _ hr (by omega)).mono ?_
      rintro e W2 ⟨m, rfl, hr2, hg2⟩
      have HO2 := Lib.hid (HO.out.gr hg2 hB)
      have HG2 := Lib.hid (gtrans HG.out hg2)
      have hsz := HG2.out.size
      unfold Mail.val
      go_wp2_with (at_builtin; refine append_T eltMail rfl _ _ rfl w.heap.size _ (.slice (some ⟨W2.heap.size, 0, none⟩) 1 1) xs [m] rfl rfl (HO2.out.below (balloc _ _)) (RdT.of_block Mail.enc_len (xs := [m]) (heap_alloc_new W2 _) rfl (by simp)) (by have := HXL.out; simp; omega) (by simp; omega) ?_; intro v' w' ho3 hg3 hat3 hnil3)
      have hr4 := (hr2.below (balloc W2 (.cells m.enc.toArray 31))).grown hg3 (fun q hq => by have := (World.ownsRow.lt HO2.out q hq).1; omega)
      have hg4 := gown (gthen HG2.out (balloc W2 (.cells m.enc.toArray 31))) hg3 (fun q hq => (World.ownsRow.lt HO2.out q hq).1)
      go_roundw
      case rel => exact ⟨j + 1, xs ++ [m], by omega, by go_num, by have := HXL.out; simp; omega, ho3, hr4.mono (by omega), hg4⟩
      case measure => simp [intOf]; omega
    · go_wp2
      go_ret
      exact ⟨xs, _, rfl, HO.out, hr.mono (by omega), HG.out, by have := HXL.out; omega⟩

theorem drawMailsValid_c (bs : List Int) (v : Value) (w : World) (h : RdB w v bs) (hbs : ∀ b ∈ bs, 0 ≤ b ∧ b ≤ 255) : Calls Try.prog 20 #[v] w fun e w' =>
    ∃ (xs : List Mail) (u : Value), e = .returned u ∧ OwM w.heap.size w' u xs ∧ xs.length ≤ 10 ∧ Below w.heap.size w w' := by
  go_enter Try.func20, Try.ntmps20
  go_wp2_with fail
  refine (open_c bs v _ h hbs).mono ?_
  rintro e w1 ⟨rfl, hr, hb, hs⟩
  go_wp2_with fail
  refine (l93Mails_c _ 0 _ hr (by omega)).mono ?_
  rintro e w2 ⟨xs, u, rfl, ho, hr2, hg, hl⟩
  go_wp2
  go_ret
  exact ⟨xs, _, rfl, ho.mono (Nat.le_of_lt hs), hl, bgrown hb hg (by simp)⟩

theorem drawMailTake_c (bs : List Int) (v : Value) (w : World) (h : RdB w v bs) (hbs : ∀ b ∈ bs, 0 ≤ b ∧ b ≤ 255) : Calls Try.prog 34 #[v] w fun e w' =>
    ∃ (xs : List Mail) (u : Value) (env : Int), e = .returned (.tuple #[u, .int .i64 env]) ∧ OwM w.heap.size w' u xs ∧ xs.length ≤ 10 ∧ Below w.heap.size w w' := by
  go_enter Try.func34, Try.ntmps34
  go_wp2_with fail
  refine (open_c bs v _ h hbs).mono ?_
  rintro e w1 ⟨rfl, hr, hb, hs⟩
  go_wp2_with fail
  refine (l93Mails_c _ 0 _ hr (by omega)).mono ?_
  rintro e w2 ⟨xs, u, rfl, ho, hr2, hg, hl⟩
  have hb2 := bgrown hb hg (by simp)
  go_wp2_with fail
  refine (pick_c _ _ 5 _ hr2 (by omega) (by omega)).mono ?_
  rintro e w3 ⟨x, rfl, hx, -, hr3, hg3⟩
  go_wp2
  go_ret2
  exact ⟨xs, _, _, rfl, (ho.gr hg3 hs).mono (Nat.le_of_lt hs), hl, bgrown hb2 hg3 (by simp)⟩

theorem drawMailSend_c (bs : List Int) (v : Value) (w : World) (h : RdB w v bs) (hbs : ∀ b ∈ bs, 0 ≤ b ∧ b ≤ 255) : Calls Try.prog 30 #[v] w fun e w' =>
    ∃ (xs : List Mail) (u : Value) (m : Mail), e = .returned (.tuple #[u, m.val]) ∧ OwM w.heap.size w' u xs ∧ xs.length ≤ 10 ∧ Below w.heap.size w w' := by
  go_enter Try.func30, Try.ntmps30
  go_wp2_with fail
  refine (open_c bs v _ (h.below (balloc w _)) hbs).mono ?_
  rintro e w1 ⟨rfl, hr, hb, hs⟩
  have HB1 := Lib.hid (bkept hb (heap_alloc_new w _))
  replace hb : Below w.heap.size w w1 := bthen hb
  have e1 : (w.alloc (.cells #[.int .i64 0, .int .i64 0, .int .i64 0] 31)).heap.size = w.heap.size + 1 := by simp
  rw [e1] at hr hs
  clear e1
  have hs0 : w.heap.size < w1.heap.size := by omega
  go_wp2_with fail
  refine (l93Mails_c _ 0 _ (by first | exact hr | (simp; exact hr)) (by omega)).mono ?_
  rintro e w2 ⟨xs, u, rfl, ho, hr2, hg, hl⟩
  have hb2 := Lib.hid (bgrown hb hg (by simp))
  have HB2 := Lib.hid (gkept hg HB1.out (by simp))
  have HO2 := Lib.hid ho
  clear ho hg hb HB1
  go_wp2_with fail
  refine (l93Mail_c _ _ _ hr2 (by omega)).mono ?_
  rintro e w3 ⟨m, rfl, hr3, hg3⟩
  have hb3 := Lib.hid (bgrown hb2.out hg3 (by simp))
  have HB3 := Lib.hid (gkept hg3 HB2.out (by simp))
  have HO3 := Lib.hid (HO2.out.gr hg3 hs)
  obtain ⟨r0, r1, r2, f0, f1, f2, rs⟩ := blk3 HB3.out
  clear HB2 HO2 hb2 hg3 hr2 hr3
  unfold Mail.val
  go_wp2
  refine bodyPost_ret (v := .tuple #[u, m.val]) ?_ rfl ?_
  · unfold Mail.val
    simp [results, Try.results30, go_sem, rs, r0, r1, r2]
  · refine ⟨xs, _, m, rfl, ?_, hl, bset (bset (bset hb3.out (Nat.le_refl _)) (Nat.le_refl _)) (Nat.le_refl _)⟩
    refine OwT.set (OwT.set (OwT.set (HO3.out.mono (Nat.le_of_lt hs0)) _ _ ?_) _ _ ?_) _ _ ?_
    all_goals exact .inr fun q hq => by have := (World.ownsRow.lt HO3.out q hq).1; simp; omega

set_option maxHeartbeats 4000000 in
theorem drawMailWords_c (bs : List Int) (v : Value) (w : World) (h : RdB w v bs) (hbs : ∀ b ∈ bs, 0 ≤ b ∧ b ≤ 255) : Calls Try.prog 26 #[v] w fun e w' =>
    ∃ (xs : List Mail) (u : Value) (f t : Int), e = .returned (.tuple #[u, .int .i64 f, .int .i64 t]) ∧ OwM w.heap.size w' u xs ∧ xs.length ≤ 10 ∧ Below w.heap.size w w' := by
  go_enter Try.func26, Try.ntmps26
  go_wp2_with fail
  refine (open_c bs v _ h hbs).mono ?_
  rintro e w1 ⟨rfl, hr, hb, hs⟩
  go_wp2_with fail
  refine (l93Mails_c _ 0 _ hr (by omega)).mono ?_
  rintro e w2 ⟨xs, u, rfl, ho, hr2, hg, hl⟩
  have hb2 := bgrown hb hg (by simp)
  obtain ⟨a, c, hv, h1, h2, h0, h3⟩ := ho.rd Mail.enc_len
  subst hv
  have HO2 := Lib.hid ho
  have H3 := Lib.hid h3
  unfold maxLen at h2
  clear h3 h0 ho hg
  by_cases hz : 0 < xs.length
  · go_wp2_with fail
    refine (pick_c _ _ 6 _ hr2 (by omega) (by omega)).mono ?_
    rintro e w3 ⟨x, rfl, hx, -, hr3, hg3⟩
    have hb3 := bgrown hb2 hg3 (by simp)
    have HO3 := Lib.hid (HO2.out.gr hg3 hs)
    by_cases hx0 : 0 < x
    · go_wp2_with fail
      refine (pick_c _ _ (xs.length : Int) _ hr3 (by omega) (by omega)).mono ?_
      rintro e w4 ⟨y, rfl, hy, hy2, hr4, hg4⟩
      have hb4 := bgrown hb3 hg4 (by simp)
      have HO4 := Lib.hid (HO3.out.gr hg4 hs)
      replace hy2 := hy2 (by omega)
      obtain ⟨j, rfl⟩ := Int.eq_ofNat_of_zero_le hy
      obtain ⟨m, hm⟩ : ∃ m, xs[j]? = some m := ⟨_, List.getElem?_eq_getElem (by omega)⟩
      obtain ⟨a', c', hv', -, -, -, h3'⟩ := HO4.out.rd Mail.enc_len
      obtain ⟨b, o, ha, hbl, hc⟩ := h3' j m hm
      simp only [Value.slice.injEq] at hv'
      obtain ⟨rfl, -, -⟩ := hv'
      subst ha
      have c0 : w4.cell? ⟨b, o + j * 3, none⟩ = some (.int .i64 m.fr) := hc 0 _ rfl
      have c1 : w4.cell? ⟨b, o + j * 3 + 1, none⟩ = some (.int .i64 m.tu) := hc 1 _ rfl
      have c2 : w4.cell? ⟨b, o + j * 3 + 2, none⟩ = some (.int .i64 m.wd) := hc 2 _ rfl
      clear hc h3' hm hr4 hr3 hr2 hr hg3 hg4
      have hm0 := Lib.hid (HO4.out.below (balloc w4 (.cells #[.int .i64 m.fr, .int .i64 m.tu, .int .i64 m.wd] 31)))
      go_wp2
      go_quiet (fail)
      go_wp2
      go_ret3
      exact ⟨xs, _, _, _, rfl, hm0.out.mono (Nat.le_of_lt hs), hl, below_drewN (hb4.alloc hb4.size _) _⟩
    · go_wp2_with fail
      refine (pick_c _ _ 4 _ hr3 (by omega) (by omega)).mono ?_
      rintro e w4 ⟨y, rfl, hy, -, hr4, hg4⟩
      have hb4 := bgrown hb3 hg4 (by simp)
      have HO4 := Lib.hid (HO3.out.gr hg4 hs)
      go_wp2_with fail
      refine (pick_c _ _ 4 _ hr4 (by omega) (by omega)).mono ?_
      rintro e w5 ⟨z, rfl, hz, -, hr5, hg5⟩
      have hb5 := bgrown hb4 hg5 (by simp)
      have HO5 := Lib.hid (HO4.out.gr hg5 hs)
      go_wp2
      go_ret3
      exact ⟨xs, _, _, _, rfl, HO5.out.mono (Nat.le_of_lt hs), hl, hb5⟩
  · have HO3 := HO2
    have hb3 := hb2
    have hr3 := hr2
    go_wp2_with fail
    refine (pick_c _ _ 4 _ hr3 (by omega) (by omega)).mono ?_
    rintro e w4 ⟨y, rfl, hy, -, hr4, hg4⟩
    have hb4 := bgrown hb3 hg4 (by simp)
    have HO4 := Lib.hid (HO3.out.gr hg4 hs)
    go_wp2_with fail
    refine (pick_c _ _ 4 _ hr4 (by omega) (by omega)).mono ?_
    rintro e w5 ⟨z, rfl, hz, -, hr5, hg5⟩
    have hb5 := bgrown hb4 hg5 (by simp)
    have HO5 := Lib.hid (HO4.out.gr hg5 hs)
    go_wp2
    go_ret3
    exact ⟨xs, _, _, _, rfl, HO5.out.mono (Nat.le_of_lt hs), hl, hb5⟩
end Go.Proofs.Ytkpdjnfgmgnjdaa
