/- Contracts of the functions that draw what is known of all frames. No conditions but the readings of the arguments. -/
import Derived.Test.YtklphfmjdgnpnaaDoorInfoH
namespace Go.Proofs.YtklphfmjdgnpnaaDoor
open Go.ChangeShapes Go.WideShapes Go.RowKit
set_option linter.all false
set_option maxRecDepth 100000
attribute [local go_sem ↓] Go.wp_at_zero Go.wp_at_succ

section
variable {w0 w : World} {row : Option Nat} {rs : List Res} {B : Nat} {v : Value} {bs : List Int} {k : Int}

theorem l91Frame_b (H : Bun w0 row w (Res.rdr B v bs k :: rs)) (hk : k ≤ 9000) : Calls Tryd.prog 61 #[.pointer (some ⟨B, 0, none⟩)] w fun e w' =>
    ∃ x : Int, e = .returned (.int .i64 x) ∧ -1 ≤ x ∧ x ≤ 100 ∧ Bun w0 row w' (Res.rdr B v bs (k + 2) :: rs) := by
  have H0 := Lib.hid H
  clear H
  go_enter Tryd.func61, Tryd.ntmps61
  go_wp2_with fail
  refine (pick_b 16 H0.out (by omega) (by omega)).mono ?_
  rintro e W1 ⟨q1, rfl, -, -, H1'⟩
  by_cases hz1 : q1 = 0
  · have hb1 : (q1 == 0) = true := beq_iff_eq.2 hz1
    have H1 := Lib.hid ((H1'.alloc (.cells #[.int .i64 (-1), .int .i64 12, .int .i64 100] 3)).front 1 rfl)
    clear hz1 H1' H0
    go_wp2_with fail
    refine (pick_b 3 H1.out (by omega) (by omega)).mono ?_
    rintro e W2 ⟨y, rfl, hy0, hy1, H2'⟩
    replace hy1 := hy1 (by omega)
    have H2 := Lib.hid H2'
    clear H2' H1
    obtain ⟨l0, l1, l2, -, -, -, ls⟩ := blk3 (H2.out.get 1 rfl)
    have hyc : y = 0 ∨ y = 1 ∨ y = 2 := by omega
    clear hy0 hy1
    rcases hyc with rfl | rfl | rfl
    all_goals
      go_wp2
      go_ret
      exact ⟨_, rfl, by omega, by omega, (H2.out.rm 1).more (by omega)⟩
  · have hb1 : (q1 == 0) = false := beq_eq_false_iff_ne.2 hz1
    have H1 := Lib.hid H1'
    clear hz1 H1' H0
    go_wp2_with fail
    refine (pick_b 12 H1.out (by omega) (by omega)).mono ?_
    rintro e W2 ⟨y, rfl, hy0, hy1, H2'⟩
    replace hy1 := hy1 (by omega)
    have H2 := Lib.hid H2'
    clear H2' H1
    go_wp2
    go_ret
    exact ⟨y, rfl, by omega, by omega, H2.out.more (by omega)⟩

set_option maxHeartbeats 4000000 in
theorem l91Infos_b (H : Bun w0 row w (Res.rdr B v bs k :: rs)) (hk : k ≤ 4000) : Calls Tryd.prog 89 #[.pointer (some ⟨B, 0, none⟩)] w fun e w' =>
    ∃ u xs, e = .returned u ∧ xs.length ≤ 12 ∧ shortF xs ∧ Bun w0 row w' (Res.rdr B v bs (k + 130) :: rowF u xs :: rs) := by
  have H0 := Lib.hid ((H.lit eltInfo #[] [] rfl (by simp)).front 1 rfl)
  clear H
  go_enter Tryd.func89, Tryd.ntmps89
  go_wp2
  go_loopw [3, 4] (fun u i wr => ∃ (j : Nat) (xs : List Info), j ≤ 12 ∧ i = .int .i64 j ∧ Hid (xs.length = j) ∧ Hid (shortF xs) ∧ Bun w0 row wr (Res.rdr B v bs (k + 10 * j) :: rowF u xs :: rs)) (fun _ i _ => 12 - (intOf i).toNat)
  case atStart => exact ⟨0, [], Nat.zero_le _, rfl, rfl, fun x hx => by simp at hx, by simpa using H0.out⟩
  case round =>
    obtain ⟨j, xs, hj, rfl, hl, hsh, hb⟩ := hrel
    have HB := Lib.hid hb
    clear hb
    by_cases hlt : j < 12
    · go_wp2_with fail
      refine (l91Info_b HB.out (by omega)).mono ?_
      rintro e w2 ⟨⟨ma, mb, mc⟩, rfl, hm5, H2'⟩
      have HSH := Lib.hid (shortF_snoc hsh.out hm5)
      have H2 := Lib.hid (((H2'.front 1 rfl).lits eltInfo #[.int .i64 ma, tv mb, .int .i64 mc] [⟨ma, mb, mc⟩] 1 rfl rfl (by omega)).front 1 rfl)
      clear H2' HB hm5
      unfold Info.val
      go_wp2_with (at_builtin; refine append_b eltInfo rfl _ _ rfl _ _ [⟨ma, mb, mc⟩] rfl rfl H2.out (H2.out.rd 1 rfl Info.enc_len) (by have := hl.out; simp only [List.length_cons, List.length_nil]; omega) ?_; intro v3 w3 h3 hnil3; have H3 := Lib.hid ((h3.rm 1).front 1 rfl); clear h3 hnil3 H2)
      go_roundw
      case rel => exact ⟨j + 1, _, by omega, by go_num, by show _ = _; rw [List.length_append, hl.out]; rfl, HSH.out, H3.out.more (by omega)⟩
      case measure => simp [intOf]; omega
    · obtain rfl : j = 12 := by omega
      go_wp2_with fail
      refine (pick_b 24 HB.out (by omega) (by omega)).mono ?_
      rintro e w2 ⟨q, rfl, -, -, H2'⟩
      have H2 := Lib.hid H2'
      clear H2' HB
      by_cases hq : q = 0
      · have hqb : (q == 0) = true := beq_iff_eq.2 hq
        clear hq
        go_wp2_with fail
        refine (pick_b 12 H2.out (by omega) (by omega)).mono ?_
        rintro e w3 ⟨y, rfl, hy0, hy1, H3'⟩
        replace hy1 := hy1 (by omega)
        obtain ⟨n, rfl⟩ := Int.eq_ofNat_of_zero_le hy0
        have hn11 : n ≤ 11 := by omega
        have H3 := Lib.hid (H3'.front 1 rfl)
        clear H3' H2
        obtain ⟨m, hm⟩ : ∃ m, xs[0]? = some m := ⟨_, List.getElem?_eq_getElem (by have := hl.out; omega)⟩
        obtain ⟨g, c, rfl, g1, g2, g3, g4, g5, g6⟩ := H3.out.at 0 rfl Info.enc_len hm
        rw [hl.out] at H3 g2 ⊢
        have H4 := Lib.hid ((H3.out.recast (OwT.cut Info.enc_len (i := n) (H3.out.get 0 rfl : OwT Info.enc 3 36 0 w3 (.slice (some ⟨g, 0, none⟩) 12 c) xs) (by omega)) (fun k hk => hk)).front 1 rfl)
        unfold maxLen at g3
        have hnc : n ≤ c := by omega
        clear hm g1 g5 g6 H3
        go_wp2
        go_ret
        exact ⟨_, xs.take n, rfl, by simp; omega, shortF_take hsh.out n, H4.out.more (by omega)⟩
      · have hqb : (q == 0) = false := beq_eq_false_iff_ne.2 hq
        clear hq
        go_wp2
        go_ret
        exact ⟨_, xs, rfl, by rw [hl.out]; omega, hsh.out, H2.out.more (by omega)⟩
end

section
variable {bs : List Int} {v : Value} {w : World}
end
end Go.Proofs.YtklphfmjdgnpnaaDoor
