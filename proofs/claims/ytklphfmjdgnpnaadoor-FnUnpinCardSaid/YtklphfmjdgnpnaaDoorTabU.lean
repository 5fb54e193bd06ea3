/- Contracts of the draw of a table that is unpinned. No conditions but the readings of the arguments. -/
import Derived.Test.YtklphfmjdgnpnaaDoorTabO
import Derived.Test.YtklphfmjdgnpnaaDoorTabL
import Derived.Test.YtklphfmjdgnpnaaDoorOpen
namespace Go.Proofs.YtklphfmjdgnpnaaDoor
open Go.ChangeShapes Go.WideShapes Go.ChangeAt Go.RowKit
set_option linter.all false
set_option maxRecDepth 100000
attribute [local go_sem ↓] Go.wp_at_zero Go.wp_at_succ

section
variable {bs : List Int} {v : Value} {w : World}
set_option maxHeartbeats 8000000 in
theorem drawTableUnpin_b (h : RdB w v bs) (hbs : ∀ b ∈ bs, 0 ≤ b ∧ b ≤ 255) : Calls Tryd.prog 28 #[v] w fun e w' =>
    ∃ q1 ss m q2 xs f, e = .returned (.tuple #[q1, q2, .int .i64 f]) ∧ drawnM m ∧ xs.length ≤ 12 ∧ shortF xs ∧ -1 ≤ f ∧ f ≤ 100 ∧ Bun w none w' [rowF q2 xs, rowS q1 ss, rowsI ss m] := by
  go_enter Tryd.func28, Tryd.ntmps28
  go_wp2_with fail
  refine (open_b bs v h hbs (Bun.refl w none) (by simp)).mono ?_
  rintro e w1 ⟨B, v', bs', rfl, H1⟩
  go_wp2_with fail
  refine (l91Frame_b H1 (by omega)).mono ?_
  rintro e w2 ⟨f, rfl, hf0, hf1, H2⟩
  go_wp2_with fail
  refine (pick_b 2 H2 (by omega) (by omega)).mono ?_
  rintro e W3 ⟨p, rfl, hp0, hp1, H3⟩
  replace hp1 := hp1 (by omega)
  go_wp2_with fail
  refine (l91Tables_b f (2 + p) (by omega) H3 (by omega)).mono ?_
  rintro e W20 ⟨u, ss, m, q2, xs, rfl, hdm, hl, hsh, H7⟩
  go_wp2_with fail
  refine (pick_b 4 H7 (by omega) (by omega)).mono ?_
  rintro e W21 ⟨t, rfl, ht0, -, H8⟩
  have HDM := Lib.hid hdm
  have HSH := Lib.hid hsh
  have HH8 := Lib.hid H8
  clear H1 H2 H3 H7 H8 hdm hsh
  by_cases ht : 0 < t
  · have H9 := Lib.hid ((HH8.out.lits eltStr #[tv []] [[]] 1 rfl rfl (by omega)))
    have HS1 := Lib.hid (show fitS [[]] from fun x hx => by simp at hx; subst hx; simp)
    clear HH8
    go_wp2_with fail
    refine (specTablePin_c m xs u q2 _ f (2 + p) [[]] _ (H9.out.rdN 3 4 rfl rfl encI_len) (H9.out.rd 2 rfl Info.enc_len) HSH.out.fit (H9.out.rd 0 rfl encS_len) HS1.out).mono ?_
    rintro e W22 ⟨u9, rfl, ho, hb⟩
    have H10 := Lib.hid (H9.out.addT ho hb)
    clear ho hb H9
    obtain ⟨c0, hc0⟩ : ∃ c0, c0 = pinC m xs f (2 + p) [[]] := ⟨_, rfl⟩
    rw [← hc0]
    by_cases hc : c0 = 0
    · have hpl := (pin_done (hc0.symm.trans hc)).2.2.2.2
      rw [hpl] at H10
      have HSP := Lib.hid (shortF_pinned (m := m) (f := f) (kind := 2 + p) HSH.out)
      have HLP := Lib.hid (show (pinned m xs f (2 + p)).length ≤ 12 by rw [pinned_len]; exact hl)
      clear hc0 hpl
      subst hc
      go_wp2
      go_ret3
      exact ⟨u, ss, m, u9, _, f, rfl, HDM.out, HLP.out, HSP.out, hf0, hf1, ((H10.out.rm 1).rm 1).rm 1⟩
    · have hcb : (c0 == 0) = false := beq_eq_false_iff_ne.2 hc
      clear hc hc0
      go_wp2
      go_ret3
      exact ⟨u, ss, m, q2, xs, f, rfl, HDM.out, hl, HSH.out, hf0, hf1, H10.out.drop.drop.drop⟩
  · have htb : decide (0 < t) = false := by simp; omega
    go_wp2
    go_ret3
    exact ⟨u, ss, m, q2, xs, f, rfl, HDM.out, hl, HSH.out, hf0, hf1, HH8.out.drop⟩
end
end Go.Proofs.YtklphfmjdgnpnaaDoor
