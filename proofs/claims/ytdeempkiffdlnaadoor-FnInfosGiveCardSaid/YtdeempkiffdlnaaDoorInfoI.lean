/- Contracts of the functions that draw what is known of all frames. No conditions but the readings of the arguments. -/
import Derived.Test.YtdeempkiffdlnaaDoorInfoH
namespace Go.Proofs.YtdeempkiffdlnaaDoor
open Go.ChangeShapes Go.WideShapes Go.RowKit
set_option linter.all false
attribute [local go_sem ↓] Go.wp_at_zero Go.wp_at_succ

section
variable {w0 w : World} {row : Option Nat} {rs : List Res} {B : Nat} {v : Value} {bs : List Int} {k : Int}

theorem l91Frame_b (H : Bun w0 row w (Res.rdr B v bs k :: rs)) (hk : k ≤ 9000) : Calls Tryd.prog 49 #[.pointer (some ⟨B, 0, none⟩)] w fun e w' =>
    ∃ x : Int, e = .returned (.int .i64 x) ∧ -1 ≤ x ∧ x ≤ 100 ∧ Bun w0 row w' (Res.rdr B v bs (k + 2) :: rs) := by
  have H0 := Lib.hid H
  clear H
  go_enter Tryd.func49, Tryd.ntmps49
  go_wp2_with fail
  refine (pick_b 16 H0.out (by omega) (by omega)).mono ?_
  rintro e W1 ⟨q1, rfl, -, -, H1'⟩
  by_cases hz1 : q1 = 0
  · have hb1 : (q1 == 0) = true := beq_iff_eq.2 hz1
    have H1 := Lib.hid ((H1'.alloc (.cells #[.int .i64 (-1), .int .i64 12, .int .i64 100] 3)).front 1 rfl)
    clear hz1 H1' H0
    go_wp2_with fail
    refine (pick_b 3 H1.out (by omega) (by omega)).mono ?_
    rintro e W2 ⟨y, rfl, hy0, hy1, H2'⟩
    replace hy1 := hy1 (by omega)
    have H2 := Lib.hid H2'
    clear H2' H1
    obtain ⟨l0, l1, l2, -, -, -, ls⟩ := blk3 (H2.out.get 1 rfl)
    have hyc : y = 0 ∨ y = 1 ∨ y = 2 := by omega
    clear hy0 hy1
    rcases hyc with rfl | rfl | rfl
    all_goals
      go_wp2
      go_ret
      exact ⟨_, rfl, by omega, by omega, (H2.out.rm 1).more (by omega)⟩
  · have hb1 : (q1 == 0) = false := beq_eq_false_iff_ne.2 hz1
    have H1 := Lib.hid H1'
    clear hz1 H1' H0
    go_wp2_with fail
    refine (pick_b 12 H1.out (by omega) (by omega)).mono ?_
    rintro e W2 ⟨y, rfl, hy0, hy1, H2'⟩
    replace hy1 := hy1 (by omega)
    have H2 := Lib.hid H2'
    clear H2' H1
    go_wp2
    go_ret
    exact ⟨y, rfl, by omega, by omega, H2.out.more (by omega)⟩

set_option maxHeartbeats 4000000 in
theorem l91Infos_b (H : Bun w0 row w (Res.rdr B v bs k :: rs)) (hk : k ≤ 4000) : Calls Tryd.prog 32 #[.pointer (some ⟨B, 0, none⟩)] w fun e w' =>
    ∃ u xs, e = .returned u ∧ xs.length ≤ 12 ∧ shortF xs ∧ Bun w0 row w' (Res.rdr B v bs (k + 130) :: rowF u xs :: rs) := by
  have H0 := Lib.hid ((H.lit eltInfo #[] [] rfl (by simp)).front 1 rfl)
  clear H
  go_enter Tryd.func32, Tryd.ntmps32
  go_wp2
  go_loopw [3, 4] (fun u i wr => ∃ (j : Nat) (xs : List Info), j ≤ 12 ∧ i = .int .i64 j ∧ Hid (xs.length = j) ∧ Hid (shortF xs) ∧ Bun w0 row wr (Res.rdr B v bs (k + 10 * j) :: rowF u xs :: rs)) (fun _ i _ => 12 - (intOf i).toNat)
  case atStart => exact ⟨0, [], Nat.zero_le _, rfl, rfl, fun x hx => by simp at hx, by simpa using H0.out⟩
  case round =>
    obtain ⟨j, xs, hj, rfl, hl, hsh, hb⟩ := hrel
    have HB := Lib.hid hb
    clear hb
    by_cases hlt : j < 12
    · go_wp2_with fail
      refine (l91Info_b HB.out (by omega)).mono ?_
      rintro e w2 ⟨⟨ma, mb, mc⟩, rfl, hm5, H2'⟩
      have HSH := Lib.hid (shortF_snoc hsh.out hm5)
      have H2 := Lib.hid (((H2'.front 1 rfl).lits eltInfo #[.int .i64 ma, tv mb, .int .i64 mc] [⟨ma, mb, mc⟩] 1 rfl rfl (by omega)).front 1 rfl)
      clear H2' HB hm5
      unfold Info.val
      go_wp2_with (at_builtin; refine append_b eltInfo rfl _ _ rfl _ _ [⟨ma, mb, mc⟩] rfl rfl H2.out (H2.out.rd 1 rfl Info.enc_len) (by have := hl.out; simp only [List.length_cons, List.length_nil]; omega) ?_; intro v3 w3 h3 hnil3; have H3 := Lib.hid ((h3.rm 1).front 1 rfl); clear h3 hnil3 H2)
      go_roundw
      case rel => exact ⟨j + 1, _, by omega, by go_num, by show _ = _; rw [List.length_append, hl.out]; rfl, HSH.out, H3.out.more (by omega)⟩
      case measure => simp [intOf]; omega
    · obtain rfl : j = 12 := by omega
      go_wp2_with fail
      refine (pick_b 24 HB.out (by omega) (by omega)).mono ?_
      rintro e w2 ⟨q, rfl, -, -, H2'⟩
      have H2 := Lib.hid H2'
      clear H2' HB
      by_cases hq : q = 0
      · have hqb : (q == 0) = true := beq_iff_eq.2 hq
        clear hq
        go_wp2_with fail
        refine (pick_b 12 H2.out (by omega) (by omega)).mono ?_
        rintro e w3 ⟨y, rfl, hy0, hy1, H3'⟩
        replace hy1 := hy1 (by omega)
        obtain ⟨n, rfl⟩ := Int.eq_ofNat_of_zero_le hy0
        have hn11 : n ≤ 11 := by omega
        have H3 := Lib.hid (H3'.front 1 rfl)
        clear H3' H2
        obtain ⟨m, hm⟩ : ∃ m, xs[0]? = some m := ⟨_, List.getElem?_eq_getElem (by have := hl.out; omega)⟩
        obtain ⟨g, c, rfl, g1, g2, g3, g4, g5, g6⟩ := H3.out.at 0 rfl Info.enc_len hm
        rw [hl.out] at H3 g2 ⊢
        have H4 := Lib.hid ((H3.out.recast (OwT.cut Info.enc_len (i := n) (H3.out.get 0 rfl : OwT Info.enc 3 27 0 w3 (.slice (some ⟨g, 0, none⟩) 12 c) xs) (by omega)) (fun k hk => hk)).front 1 rfl)
        unfold maxLen at g3
        have hnc : n ≤ c := by omega
        clear hm g1 g5 g6 H3
        go_wp2
        go_ret
        exact ⟨_, xs.take n, rfl, by simp; omega, shortF_take hsh.out n, H4.out.more (by omega)⟩
      · have hqb : (q == 0) = false := beq_eq_false_iff_ne.2 hq
        clear hq
        go_wp2
        go_ret
        exact ⟨_, xs, rfl, by rw [hl.out]; omega, hsh.out, H2.out.more (by omega)⟩
end

section
variable {bs : List Int} {v : Value} {w : World}
theorem drawInfosValid_b (h : RdB w v bs) (hbs : ∀ b ∈ bs, 0 ≤ b ∧ b ≤ 255) : Calls Tryd.prog 13 #[v] w fun e w' =>
    ∃ u xs, e = .returned u ∧ xs.length ≤ 12 ∧ shortF xs ∧ Bun w none w' [rowF u xs] := by
  go_enter Tryd.func13, Tryd.ntmps13
  go_wp2_with fail
  refine (open_b bs v h hbs (Bun.refl w none) (by simp)).mono ?_
  rintro e w1 ⟨B, v', bs', rfl, H1⟩
  go_wp2_with fail
  refine (l91Infos_b H1 (by omega)).mono ?_
  rintro e w2 ⟨u, xs, rfl, hl, hsh, H2⟩
  have HH := Lib.hid H2
  have HSH := Lib.hid hsh
  clear hsh H1 H2
  go_wp2
  go_ret
  exact ⟨u, xs, rfl, hl, HSH.out, HH.out.drop⟩
theorem drawInfosFree_b (h : RdB w v bs) (hbs : ∀ b ∈ bs, 0 ≤ b ∧ b ≤ 255) : Calls Tryd.prog 19 #[v] w fun e w' =>
    ∃ u xs, e = .returned u ∧ xs.length ≤ 12 ∧ shortF xs ∧ Bun w none w' [rowF u xs] := by
  go_enter Tryd.func19, Tryd.ntmps19
  go_wp2_with fail
  refine (open_b bs v h hbs (Bun.refl w none) (by simp)).mono ?_
  rintro e w1 ⟨B, v', bs', rfl, H1⟩
  go_wp2_with fail
  refine (l91Infos_b H1 (by omega)).mono ?_
  rintro e w2 ⟨u, xs, rfl, hl, hsh, H2⟩
  have HH := Lib.hid H2
  have HSH := Lib.hid hsh
  clear hsh H1 H2
  go_wp2
  go_ret
  exact ⟨u, xs, rfl, hl, HSH.out, HH.out.drop⟩

set_option maxHeartbeats 4000000 in
theorem drawInfosTake_b (h : RdB w v bs) (hbs : ∀ b ∈ bs, 0 ≤ b ∧ b ≤ 255) : Calls Tryd.prog 22 #[v] w fun e w' =>
    ∃ u xs s, e = .returned (.tuple #[u, tv s]) ∧ xs.length ≤ 12 ∧ shortF xs ∧ s.length ≤ 5 ∧ Bun w none w' [rowF u xs] := by
  go_enter Tryd.func22, Tryd.ntmps22
  go_wp2_with fail
  refine (open_b bs v h hbs (Bun.refl w none) (by simp)).mono ?_
  rintro e w1 ⟨B, v', bs', rfl, H1⟩
  go_wp2_with fail
  refine (l91Infos_b H1 (by omega)).mono ?_
  rintro e w2 ⟨u, xs, rfl, hl12, hsh, H2'⟩
  have H2 := Lib.hid H2'
  have HSH := Lib.hid hsh
  clear hsh H1 H2'
  obtain ⟨n, hn⟩ : ∃ n, n = xs.length := ⟨_, rfl⟩
  obtain ⟨a, c, rfl, t1, t2, -, -⟩ := H2.out.rd 1 rfl Info.enc_len
  rw [← hn] at t1 hl12 H2 ⊢
  have HN := Lib.hid hn.symm
  unfold maxLen at t2
  clear hn
  go_wp2
  go_loopw [6] (fun i wr => ∃ (j : Nat) (ys : List Info), j ≤ n ∧ i = .int .i64 j ∧ Hid (ys.length = n) ∧ Hid (shortF ys) ∧ Bun w none wr [Res.rdr B v' bs' (0 + 130 + j), rowF (.slice a n c) ys]) (fun i _ => n - (intOf i).toNat)
  case atStart => exact ⟨0, xs, Nat.zero_le _, rfl, HN.out, HSH.out, by simpa using H2.out⟩
  case round =>
    obtain ⟨j, ys, hj, rfl, hl, hsh, hb⟩ := hrel
    have HB := Lib.hid hb
    clear hb
    by_cases hlt : j < n
    · have hlb : (j : Int) < (n : Int) := by omega
      go_wp2_with fail
      refine (pick_b 12 HB.out (by omega) (by omega)).mono ?_
      rintro e w3 ⟨q, rfl, -, -, H3'⟩
      by_cases hq : q = 0
      · have hqb : (q == 0) = true := beq_iff_eq.2 hq
        have H3 := Lib.hid (H3'.front 1 rfl)
        clear hq H3' HB
        obtain ⟨z, hz⟩ : ∃ z, ys[j]? = some z := ⟨_, List.getElem?_eq_getElem (by have := hl.out; omega)⟩
        obtain ⟨g, cc, e1, g1, g2, g3, g4, g5, g6⟩ := H3.out.at 0 rfl Info.enc_len hz
        simp only [Value.slice.injEq] at e1
        obtain ⟨rfl, -, rfl⟩ := e1
        have d0 := g6 0 _ rfl
        have d1 := g6 1 _ rfl
        have d2 := g6 2 _ rfl
        have f0 := g5 (j * 3)
        have f1 := g5 (j * 3 + 1)
        have f2 := g5 (j * 3 + 2)
        simp only [Nat.add_zero] at d0
        have H5 := Lib.hid ((H3.out.store3 Info.enc_len (x := ⟨1, [], 0⟩) (a1 := .int .i64 1) (a2 := .string ⟨#[]⟩) (a3 := .int .i64 0) g1 rfl).front 1 rfl)
        have HL := Lib.hid (show (ys.set j (⟨1, [], 0⟩ : Info)).length = n by rw [List.length_set]; exact hl.out)
        have HS := Lib.hid (shortF_set (k := j) (m := (⟨1, [], 0⟩ : Info)) hsh.out (by simp))
        clear g1 g2 g5 g6 g3 hz H3
        go_wp2
        go_roundw
        case rel => exact ⟨j + 1, _, by omega, by go_num, HL.out, HS.out, H5.out.more (by omega)⟩
        case measure => simp [intOf]; omega
      · have hqb : (q == 0) = false := beq_eq_false_iff_ne.2 hq
        have H3 := Lib.hid H3'
        clear hq H3' HB
        go_wp2_with fail
        refine (l91Right_b H3.out (by omega)).mono ?_
        rintro e w4 ⟨s, rfl, hs, H4'⟩
        have H4 := Lib.hid H4'
        clear H4' H3
        go_wp2
        go_ret2
        exact ⟨_, ys, s, rfl, by rw [hl.out]; omega, hsh.out, hs, H4.out.drop⟩
    · have hlb : ¬ (j : Int) < (n : Int) := by omega
      go_wp2_with fail
      refine (l91Right_b HB.out (by omega)).mono ?_
      rintro e w4 ⟨s, rfl, hs, H4'⟩
      have H4 := Lib.hid H4'
      clear H4' HB
      go_wp2
      go_ret2
      exact ⟨_, ys, s, rfl, by rw [hl.out]; omega, hsh.out, hs, H4.out.drop⟩

set_option maxHeartbeats 4000000 in
theorem drawInfosGive_b (h : RdB w v bs) (hbs : ∀ b ∈ bs, 0 ≤ b ∧ b ≤ 255) : Calls Tryd.prog 27 #[v] w fun e w' =>
    ∃ u xs f, e = .returned (.tuple #[u, .int .i64 f]) ∧ xs.length ≤ 12 ∧ shortF xs ∧ -1 ≤ f ∧ f ≤ 100 ∧ Bun w none w' [rowF u xs] := by
  go_enter Tryd.func27, Tryd.ntmps27
  go_wp2_with fail
  refine (open_b bs v h hbs (Bun.refl w none) (by simp)).mono ?_
  rintro e w1 ⟨B, v', bs', rfl, H1⟩
  go_wp2_with fail
  refine (l91Infos_b H1 (by omega)).mono ?_
  rintro e w2 ⟨u, xs, rfl, hl12, hsh, H2'⟩
  have HSH := Lib.hid hsh
  clear hsh H1
  go_wp2_with fail
  refine (l91Frame_b H2' (by omega)).mono ?_
  rintro e w3 ⟨f, rfl, hf0, hf1, H3'⟩
  have H3 := Lib.hid H3'
  clear H2' H3'
  obtain ⟨n, hn⟩ : ∃ n, n = xs.length := ⟨_, rfl⟩
  obtain ⟨a, c, rfl, t1, t2, -, -⟩ := H3.out.rd 1 rfl Info.enc_len
  rw [← hn] at t1 hl12 H3 ⊢
  have HN := Lib.hid hn.symm
  unfold maxLen at t2
  clear hn
  by_cases h12 : n = 12
  rotate_left
  · have h12b : ((n : Int) == 12) = false := by rw [beq_eq_false_iff_ne]; omega
    clear h12
    go_wp2
    go_ret2
    exact ⟨_, xs, f, rfl, by rw [HN.out]; omega, HSH.out, hf0, hf1, H3.out.drop⟩
  subst h12
  cases hb : btw 0 f 11
  · have HB := Lib.hid hb
    clear hb
    go_wp2_with fail
    refine (l1Frame_c _ _).mono ?_
    rintro e w4 ⟨rfl, rfl⟩
    rw [HB.out]
    go_wp2
    go_ret2
    exact ⟨_, xs, f, rfl, by rw [HN.out]; omega, HSH.out, hf0, hf1, H3.out.drop⟩
  have hbb := hb
  simp only [btw, decide_eq_true_eq] at hbb
  obtain ⟨j, rfl⟩ := Int.eq_ofNat_of_zero_le hbb.1
  have hj : j ≤ 11 := by omega
  have HB := Lib.hid hb
  clear hb hbb
  go_wp2_with fail
  refine (l1Frame_c _ _).mono ?_
  rintro e w4 ⟨rfl, rfl⟩
  rw [HB.out]
  go_wp2_with fail
  refine (pick_b 2 H3.out (by omega) (by omega)).mono ?_
  rintro e w4 ⟨q, rfl, -, -, H4'⟩
  by_cases hq : q = 0
  · have hqb : (q == 0) = true := beq_iff_eq.2 hq
    have H4 := Lib.hid (H4'.front 1 rfl)
    clear hq H4' H3
    obtain ⟨z, hz⟩ : ∃ z, xs[j]? = some z := ⟨_, List.getElem?_eq_getElem (by have := HN.out; omega)⟩
    obtain ⟨g, cc, e1, g1, g2, g3, g4, g5, g6⟩ := H4.out.at 0 rfl Info.enc_len hz
    simp only [Value.slice.injEq] at e1
    obtain ⟨rfl, -, rfl⟩ := e1
    have d0 := g6 0 _ rfl
    have d1 := g6 1 _ rfl
    have d2 := g6 2 _ rfl
    have f0 := g5 (j * 3)
    have f1 := g5 (j * 3 + 1)
    have f2 := g5 (j * 3 + 2)
    simp only [Nat.add_zero] at d0
    have H5 := Lib.hid ((H4.out.store3 Info.enc_len (x := ⟨1, [98], 0⟩) (a1 := .int .i64 1) (a2 := .string ⟨#[98]⟩) (a3 := .int .i64 0) g1 rfl).drop)
    have H6 := Lib.hid ((H4.out.store3 Info.enc_len (x := ⟨1, [98], 0⟩) (a1 := .int .i64 1) (a2 := .string ⟨#[98]⟩) (a3 := .int .i64 0) g1 rfl).rm 1)
    have HL := Lib.hid (show (xs.set j (⟨1, [98], 0⟩ : Info)).length = 12 by rw [List.length_set]; exact HN.out)
    have HS := Lib.hid (shortF_set (k := j) (m := (⟨1, [98], 0⟩ : Info)) HSH.out (by simp))
    clear g1 g2 g5 g6 g3 hz H4 H5
    go_wp2
    go_ret2
    exact ⟨_, _, _, rfl, by rw [HL.out]; omega, HS.out, hf0, hf1, H6.out⟩
  · have hqb : (q == 0) = false := beq_eq_false_iff_ne.2 hq
    have H4 := Lib.hid H4'
    clear hq H4' H3
    go_wp2
    go_ret2
    exact ⟨_, xs, _, rfl, by rw [HN.out]; omega, HSH.out, hf0, hf1, H4.out.drop⟩
end
end Go.Proofs.YtdeempkiffdlnaaDoor
