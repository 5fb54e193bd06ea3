/- How rights for a new kernel are drawn. No conditions but the reading of the argument. -/
import Derived.Test.YtojknkpjnchchaaGreatDoorRightI
import Derived.Test.YtojknkpjnchchaaGreatDoorKerA
namespace Go.Proofs.YtojknkpjnchchaaGreatDoor
open Go.ChangeShapes Go.WideShapes Go.RowKit
set_option linter.all false
set_option maxRecDepth 100000
attribute [local go_sem ↓] Go.wp_at_zero Go.wp_at_succ

set_option maxHeartbeats 4000000 in
theorem drawKernelNew_b {bs : List Int} {v : Value} {w : World} (h : RdB w v bs) (hbs : ∀ b ∈ bs, 0 ≤ b ∧ b ≤ 255) : Calls Tryz.prog 20 #[v] w fun e w' =>
    ∃ u xss ss, e = .returned u ∧ xss.length ≤ 5 ∧ (∀ xs ∈ xss, xs.length ≤ 7 ∧ shortS xs) ∧ Bun w none w' [Res.row encL 1 53 u ss, Res.rows encS 1 9 ss xss] := by
  go_enter Tryz.func20, Tryz.ntmps20
  go_wp2_with fail
  refine (open_b bs v h hbs (Bun.refl w none) (by simp)).mono ?_
  rintro e w1 ⟨B, v', bs', rfl, H1⟩
  have H2 := Lib.hid ((((H1.norows (enc := encS) (K := 1) (e := 9)).lit eltSs #[] [] rfl (by simp)).front 2 rfl))
  clear H1 h hbs
  go_wp2_with fail
  refine (pick_b 12 H2.out (by omega) (by omega)).mono ?_
  rintro e w2 ⟨q, rfl, -, -, H3'⟩
  have H3 := Lib.hid H3'
  clear H3' H2
  by_cases hq : q = 0
  · have hqb : (q == 0) = true := beq_iff_eq.2 hq
    clear hq
    go_wp2_with fail
    refine (pick_b 5 H3.out (by omega) (by omega)).mono ?_
    rintro e w3 ⟨q2, rfl, hq0, hq1, H4'⟩
    replace hq1 := hq1 (by omega)
    have H4 := Lib.hid H4'
    clear H4' H3
    go_wp2
    obtain ⟨n, hn⟩ : ∃ n : Nat, (q2 : Int) = (n : Int) := ⟨q2.toNat, by omega⟩
    have hn5 : n ≤ 5 := by omega
    rw [hn]
    clear hn
    go_loopw [4, 6] (fun u i wr => ∃ (j : Nat) (ss : List Sl) (xss : List (List Txt)), j ≤ n ∧ i = .int .i64 j ∧ Hid (xss.length = j ∧ ∀ xs ∈ xss, xs.length ≤ 7 ∧ shortS xs) ∧ Bun w none wr [Res.rdr B v' bs' ((0 + 1 + 1) + 20 * j), Res.row encL 1 53 u ss, Res.rows encS 1 9 ss xss]) (fun _ i _ => n - (intOf i).toNat)
    case atStart => exact ⟨0, [], [], Nat.zero_le _, rfl, ⟨rfl, by simp⟩, by simpa using H4.out⟩
    case round =>
      obtain ⟨j, ss, xss, hj, rfl, hsh, hb⟩ := hrel
      have HB := Lib.hid hb
      have HSL := Lib.hid ((show InO encS 1 9 0 wr.heap.size wr ss xss from hb.get 2 rfl).len.trans hsh.out.1)
      clear hb
      by_cases hlt : j < n
      · go_wp2_with fail
        refine (l91Rights_b HB.out (by omega)).mono ?_
        rintro e w2 ⟨u2, xs, rfl, hl7, hsx, H2'⟩
        obtain ⟨⟨sa, sn, sc⟩, rfl⟩ := (H2'.rd 1 rfl encS_len).sl
        simp only [slv] at H2' ⊢
        have H3 := Lib.hid ((H2'.lits eltSs #[.slice sa sn sc] [(sa, sn, sc)] 1 rfl rfl (by omega)).front 3 rfl)
        have HNX := Lib.hid (show (xss ++ [xs]).length = j + 1 ∧ ∀ ys ∈ xss ++ [xs], ys.length ≤ 7 ∧ shortS ys from ⟨by simp [hsh.out.1], fun ys hy => by
          rcases List.mem_append.1 hy with hy | hy
          · exact hsh.out.2 ys hy
          · simp at hy; subst hy; exact ⟨hl7, hsx⟩⟩)
        clear H2' HB hsx
        go_wp2_with (at_builtin; refine append_b eltSs rfl _ _ rfl _ _ [(sa, sn, sc)] rfl rfl H3.out (H3.out.rd 1 rfl encL_len) (by have := HSL.out; simp only [List.length_cons, List.length_nil]; omega) ?_; intro v3 w5 H5 hnil2)
        have H6 := Lib.hid ((((((H5.rm 1).front 3 rfl).front 3 rfl).snoc (s := (sa, sn, sc))).front 1 rfl).front 2 rfl)
        clear H5 H3
        go_roundw
        case rel => exact ⟨j + 1, _, _, by omega, by go_num, HNX.out, H6.out.more (by omega)⟩
        case measure => simp [intOf]; omega
      · go_wp2
        go_ret
        exact ⟨_, xss, ss, rfl, by have := hsh.out.1; omega, hsh.out.2, HB.out.drop⟩
  · have hqb : (q == 0) = false := beq_eq_false_iff_ne.2 hq
    clear hq
    go_wp2
    obtain ⟨n, hn⟩ : ∃ n : Nat, (3 : Int) = (n : Int) := ⟨3, by omega⟩
    have hn5 : n ≤ 5 := by omega
    rw [hn]
    clear hn
    go_loopw [4, 6] (fun u i wr => ∃ (j : Nat) (ss : List Sl) (xss : List (List Txt)), j ≤ n ∧ i = .int .i64 j ∧ Hid (xss.length = j ∧ ∀ xs ∈ xss, xs.length ≤ 7 ∧ shortS xs) ∧ Bun w none wr [Res.rdr B v' bs' ((0 + 1) + 20 * j), Res.row encL 1 53 u ss, Res.rows encS 1 9 ss xss]) (fun _ i _ => n - (intOf i).toNat)
    case atStart => exact ⟨0, [], [], Nat.zero_le _, rfl, ⟨rfl, by simp⟩, by simpa using H3.out⟩
    case round =>
      obtain ⟨j, ss, xss, hj, rfl, hsh, hb⟩ := hrel
      have HB := Lib.hid hb
      have HSL := Lib.hid ((show InO encS 1 9 0 wr.heap.size wr ss xss from hb.get 2 rfl).len.trans hsh.out.1)
      clear hb
      by_cases hlt : j < n
      · go_wp2_with fail
        refine (l91Rights_b HB.out (by omega)).mono ?_
        rintro e w2 ⟨u2, xs, rfl, hl7, hsx, H2'⟩
        obtain ⟨⟨sa, sn, sc⟩, rfl⟩ := (H2'.rd 1 rfl encS_len).sl
        simp only [slv] at H2' ⊢
        have H3 := Lib.hid ((H2'.lits eltSs #[.slice sa sn sc] [(sa, sn, sc)] 1 rfl rfl (by omega)).front 3 rfl)
        have HNX := Lib.hid (show (xss ++ [xs]).length = j + 1 ∧ ∀ ys ∈ xss ++ [xs], ys.length ≤ 7 ∧ shortS ys from ⟨by simp [hsh.out.1], fun ys hy => by
          rcases List.mem_append.1 hy with hy | hy
          · exact hsh.out.2 ys hy
          · simp at hy; subst hy; exact ⟨hl7, hsx⟩⟩)
        clear H2' HB hsx
        go_wp2_with (at_builtin; refine append_b eltSs rfl _ _ rfl _ _ [(sa, sn, sc)] rfl rfl H3.out (H3.out.rd 1 rfl encL_len) (by have := HSL.out; simp only [List.length_cons, List.length_nil]; omega) ?_; intro v3 w5 H5 hnil2)
        have H6 := Lib.hid ((((((H5.rm 1).front 3 rfl).front 3 rfl).snoc (s := (sa, sn, sc))).front 1 rfl).front 2 rfl)
        clear H5 H3
        go_roundw
        case rel => exact ⟨j + 1, _, _, by omega, by go_num, HNX.out, H6.out.more (by omega)⟩
        case measure => simp [intOf]; omega
      · go_wp2
        go_ret
        exact ⟨_, xss, ss, rfl, by have := hsh.out.1; omega, hsh.out.2, HB.out.drop⟩
end Go.Proofs.YtojknkpjnchchaaGreatDoor
