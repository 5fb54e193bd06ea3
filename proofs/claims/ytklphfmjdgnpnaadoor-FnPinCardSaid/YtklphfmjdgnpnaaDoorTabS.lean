/- Contracts of the draws of tables. No conditions but the readings of the arguments. -/
import Derived.Test.YtklphfmjdgnpnaaDoorTabO
import Derived.Test.YtklphfmjdgnpnaaDoorRightI
import Derived.Test.YtklphfmjdgnpnaaDoorOpen
namespace Go.Proofs.YtklphfmjdgnpnaaDoor
open Go.ChangeShapes Go.WideShapes Go.ChangeAt Go.RowKit
set_option linter.all false
set_option maxRecDepth 100000
attribute [local go_sem ↓] Go.wp_at_zero Go.wp_at_succ

theorem results_tmp5 {fn : Func} {t1 t2 t3 t4 t5 : Tmp} (h : fn.results = #[.tmp t1, .tmp t2, .tmp t3, .tmp t4, .tmp t5]) (tmps : Array Value) (P : Program) (w : World) :
    (results fn tmps).run P w = .ok (.tuple #[tmps.getD t1 undef, tmps.getD t2 undef, tmps.getD t3 undef, tmps.getD t4 undef, tmps.getD t5 undef]) w := by
  simp [results, h]

section
variable {bs : List Int} {v : Value} {w : World}
set_option maxHeartbeats 8000000 in
theorem drawTableOk_b (h : RdB w v bs) (hbs : ∀ b ∈ bs, 0 ≤ b ∧ b ≤ 255) : Calls Tryd.prog 22 #[v] w fun e w' =>
    ∃ q1 ss m q2 xs q3 rs f kind, e = .returned (.tuple #[q1, q2, .int .i64 f, .int .i64 kind, q3]) ∧ drawnM m ∧ xs.length ≤ 12 ∧ shortF xs ∧ rs.length ≤ 7 ∧ shortS rs ∧ -1 ≤ f ∧ f ≤ 100 ∧ -1 ≤ kind ∧ kind ≤ 4 ∧ Bun w none w' [rowT q3 rs, rowF q2 xs, rowS q1 ss, rowsI ss m] := by
  go_enter Tryd.func22, Tryd.ntmps22
  go_wp2_with fail
  refine (open_b bs v h hbs (Bun.refl w none) (by simp)).mono ?_
  rintro e w1 ⟨B, v', bs', rfl, H1⟩
  go_wp2_with fail
  refine (l91Frame_b H1 (by omega)).mono ?_
  rintro e w2 ⟨f, rfl, hf0, hf1, H2⟩
  go_wp2_with fail
  refine (pick_b 2 H2 (by omega) (by omega)).mono ?_
  rintro e W3 ⟨p, rfl, hp0, hp1, H3⟩
  replace hp1 := hp1 (by omega)
  go_wp2_with fail
  refine (pick_b 16 H3 (by omega) (by omega)).mono ?_
  rintro e W4 ⟨q, rfl, hq0, -, H4⟩
  clear H1 H2 H3
  by_cases hq : q = 0
  · subst hq
    go_wp2_with fail
    refine (pick_b 6 H4 (by omega) (by omega)).mono ?_
    rintro e W5 ⟨z, rfl, hz0, hz1, H5⟩
    replace hz1 := hz1 (by omega)
    clear H4
    go_wp2_with fail
    refine (l91Tables_b f (z - 1) (by omega) H5 (by omega)).mono ?_
    rintro e W20 ⟨u, ss, m, q2, xs, rfl, hdm, hl, hsh, H7⟩
    go_wp2_with fail
    refine (pick_b 3 H7 (by omega) (by omega)).mono ?_
    rintro e W21 ⟨t, rfl, ht0, -, H8⟩
    have HDM := Lib.hid hdm
    have HSH := Lib.hid hsh
    have HH8 := Lib.hid H8
    clear H7 H8 hdm hsh
    by_cases ht : 0 < t
    · have H9 := Lib.hid ((HH8.out.lits eltStr #[tv [97]] [[97]] 1 rfl rfl (by omega)))
      go_wp2
      ((try simp only [Exit.inBlock, Exit.then]); refine bodyPost_ret (results_tmp5 rfl _ _ _) rfl ?_)
      exact ⟨_, ss, m, _, xs, _, [[97]], f, _, rfl, HDM.out, hl, HSH.out, by simp, by intro x hx; simp at hx; subst hx; simp, hf0, hf1, by omega, by omega, H9.out.rm 1⟩
    · have htb : decide (0 < t) = false := by simp; omega
      go_wp2_with fail
      refine (l91Rights_b HH8.out (by omega)).mono ?_
      rintro e W22 ⟨u9, rs, rfl, hrl, hrs, H10⟩
      have HRS := Lib.hid hrs
      have H11 := Lib.hid H10
      clear H10 hrs
      go_wp2
      ((try simp only [Exit.inBlock, Exit.then]); refine bodyPost_ret (results_tmp5 rfl _ _ _) rfl ?_)
      exact ⟨_, ss, m, _, xs, _, rs, f, _, rfl, HDM.out, hl, HSH.out, hrl, HRS.out, hf0, hf1, by omega, by omega, H11.out.drop⟩
  · have hqb : (q == 0) = false := beq_eq_false_iff_ne.2 hq
    clear hq
    go_wp2_with fail
    refine (l91Tables_b f (2 + p) (by omega) H4 (by omega)).mono ?_
    rintro e W20 ⟨u, ss, m, q2, xs, rfl, hdm, hl, hsh, H7⟩
    go_wp2_with fail
    refine (pick_b 3 H7 (by omega) (by omega)).mono ?_
    rintro e W21 ⟨t, rfl, ht0, -, H8⟩
    have HDM := Lib.hid hdm
    have HSH := Lib.hid hsh
    have HH8 := Lib.hid H8
    clear H7 H8 hdm hsh
    by_cases ht : 0 < t
    · have H9 := Lib.hid ((HH8.out.lits eltStr #[tv [97]] [[97]] 1 rfl rfl (by omega)))
      go_wp2
      ((try simp only [Exit.inBlock, Exit.then]); refine bodyPost_ret (results_tmp5 rfl _ _ _) rfl ?_)
      exact ⟨_, ss, m, _, xs, _, [[97]], f, _, rfl, HDM.out, hl, HSH.out, by simp, by intro x hx; simp at hx; subst hx; simp, hf0, hf1, by omega, by omega, H9.out.rm 1⟩
    · have htb : decide (0 < t) = false := by simp; omega
      go_wp2_with fail
      refine (l91Rights_b HH8.out (by omega)).mono ?_
      rintro e W22 ⟨u9, rs, rfl, hrl, hrs, H10⟩
      have HRS := Lib.hid hrs
      have H11 := Lib.hid H10
      clear H10 hrs
      go_wp2
      ((try simp only [Exit.inBlock, Exit.then]); refine bodyPost_ret (results_tmp5 rfl _ _ _) rfl ?_)
      exact ⟨_, ss, m, _, xs, _, rs, f, _, rfl, HDM.out, hl, HSH.out, hrl, HRS.out, hf0, hf1, by omega, by omega, H11.out.drop⟩

set_option maxHeartbeats 4000000 in
theorem drawTablePin_b (h : RdB w v bs) (hbs : ∀ b ∈ bs, 0 ≤ b ∧ b ≤ 255) : Calls Tryd.prog 34 #[v] w fun e w' =>
    ∃ q1 ss m q2 xs q3 rs f kind, e = .returned (.tuple #[q1, q2, .int .i64 f, .int .i64 kind, q3]) ∧ drawnM m ∧ xs.length ≤ 12 ∧ shortF xs ∧ rs.length ≤ 7 ∧ shortS rs ∧ -1 ≤ f ∧ f ≤ 100 ∧ -1 ≤ kind ∧ kind ≤ 4 ∧ Bun w none w' [rowT q3 rs, rowF q2 xs, rowS q1 ss, rowsI ss m] := by
  go_enter Tryd.func34, Tryd.ntmps34
  go_wp2_with fail
  refine (drawTableOk_b h hbs).mono ?_
  rintro e w1 ⟨q1, ss, m, q2, xs, q3, rs, f, kind, rfl, hh⟩
  have HH := Lib.hid hh
  clear hh
  go_wp2
  ((try simp only [Exit.inBlock, Exit.then]); refine bodyPost_ret (results_tmp5 rfl _ _ _) rfl ?_)
  exact ⟨q1, ss, m, q2, xs, q3, rs, f, kind, rfl, HH.out⟩

set_option maxHeartbeats 4000000 in
theorem drawTableCount_b (h : RdB w v bs) (hbs : ∀ b ∈ bs, 0 ≤ b ∧ b ≤ 255) : Calls Tryd.prog 14 #[v] w fun e w' =>
    ∃ q1 ss m q2 xs, e = .returned (.tuple #[q1, q2]) ∧ drawnM m ∧ xs.length ≤ 12 ∧ shortF xs ∧ Bun w none w' [rowF q2 xs, rowS q1 ss, rowsI ss m] := by
  go_enter Tryd.func14, Tryd.ntmps14
  go_wp2_with fail
  refine (open_b bs v h hbs (Bun.refl w none) (by simp)).mono ?_
  rintro e w1 ⟨B, v', bs', rfl, H1⟩
  go_wp2_with fail
  refine (pick_b 12 H1 (by omega) (by omega)).mono ?_
  rintro e w2 ⟨f, rfl, hf0, hf1, H2⟩
  replace hf1 := hf1 (by omega)
  go_wp2_with fail
  refine (l91Tables_b f 2 (by omega) H2 (by omega)).mono ?_
  rintro e w3 ⟨u, ss, m, q2, xs, rfl, hdm, hl, hsh, H7⟩
  have HDM := Lib.hid hdm
  have HSH := Lib.hid hsh
  have HH := Lib.hid H7
  clear H1 H2 H7 hdm hsh
  go_wp2
  go_ret2
  exact ⟨u, ss, m, q2, xs, rfl, HDM.out, hl, HSH.out, HH.out.drop⟩
end
end Go.Proofs.YtklphfmjdgnpnaaDoor
