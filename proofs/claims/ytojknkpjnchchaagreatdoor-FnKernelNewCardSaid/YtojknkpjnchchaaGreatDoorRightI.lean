/- Contracts of the functions that draw rights. No conditions but the readings of the arguments. -/
import Derived.Test.YtojknkpjnchchaaGreatDoorRightB
import Derived.Test.YtojknkpjnchchaaGreatDoorRightG
namespace Go.Proofs.YtojknkpjnchchaaGreatDoor
open Go.ChangeShapes Go.WideShapes Go.RowKit
set_option linter.all false
set_option maxRecDepth 100000
attribute [local go_sem ↓] Go.wp_at_zero Go.wp_at_succ

/-- Texts of at most five letters. -/
def shortS (xs : List Txt) : Prop := ∀ x ∈ xs, x.length ≤ 5
theorem shortS.fit {xs : List Txt} (h : shortS xs) : fitS xs := fun x hx => by have := h x hx; omega
theorem addL_short {xs : List Txt} {s : Txt} (h : shortS xs) (hs : s.length ≤ 5) : shortS (addL xs s) := by
  intro x hx
  unfold addL at hx
  split at hx
  · split at hx
    · exact h x hx
    · split at hx
      · rcases ins_mem.1 hx with rfl | hx
        · exact hs
        · exact h x hx
      · exact h x hx
  · simp at hx
theorem short_snoc {xs : List Txt} {s : Txt} (h : shortS xs) (hs : s.length ≤ 5) : shortS (xs ++ [s]) := by
  intro x hx
  rcases List.mem_append.1 hx with hx | hx
  · exact h x hx
  · simp at hx; subst hx; exact hs

section
variable {w0 w : World} {row : Option Nat} {rs : List Res} {B : Nat} {v : Value} {bs : List Int} {k : Int}

set_option maxHeartbeats 4000000 in
theorem l91Rights_b (H : Bun w0 row w (Res.rdr B v bs k :: rs)) (hk : k ≤ 5000) : Calls Tryz.prog 68 #[.pointer (some ⟨B, 0, none⟩)] w fun e w' =>
    ∃ u xs, e = .returned u ∧ xs.length ≤ 7 ∧ shortS xs ∧ Bun w0 row w' (Res.rdr B v bs (k + 20) :: rowT u xs :: rs) := by
  have H0 := Lib.hid ((H.lit eltStr #[] [] rfl (by simp)).front 1 rfl)
  clear H
  go_enter Tryz.func68, Tryz.ntmps68
  go_wp2_with fail
  refine (pick_b 7 H0.out (by omega) (by omega)).mono ?_
  rintro e w1 ⟨q, rfl, hq0, hq1, H1'⟩
  replace hq1 := hq1 (by omega)
  obtain ⟨n, rfl⟩ := Int.eq_ofNat_of_zero_le hq0
  have n6 : n ≤ 6 := by omega
  have H1 := Lib.hid H1'
  clear H1' H0
  go_wp2
  go_loopw [3, 5] (fun u i wr => ∃ (j : Nat) (xs : List Txt), j ≤ n ∧ i = .int .i64 j ∧ xs.length ≤ 6 ∧ Hid (shortS xs) ∧ Bun w0 row wr (Res.rdr B v bs (k + 1 + 2 * j) :: rowT u xs :: rs)) (fun _ i _ => n - (intOf i).toNat)
  case atStart => exact ⟨0, [], Nat.zero_le _, rfl, by simp, fun x hx => by simp at hx, by simpa using H1.out⟩
  case round =>
    obtain ⟨j, xs, hj, rfl, hl6, hsh, hb⟩ := hrel
    have HB := Lib.hid hb
    clear hb
    by_cases hlt : j < n
    · go_wp2_with fail
      refine (l91Right_b HB.out (by omega)).mono ?_
      rintro e w2 ⟨x, rfl, hx5, H2'⟩
      have H2 := Lib.hid H2'
      clear H2' HB
      go_wp2_with fail
      refine (specRightsAdd_c xs _ x _ (H2.out.rd 1 rfl encS_len) hsh.out.fit (by omega)).mono ?_
      rintro e w3 ⟨u3, rfl, ho3, hb3⟩
      have H3 := Lib.hid (H2.out.addT ho3 hb3)
      clear H2 ho3 hb3
      have HAL := Lib.hid (addL_le xs x)
      have HAS := Lib.hid (addL_short hsh.out hx5)
      cases ha : addB xs x
      · clear ha
        go_wp2
        go_roundw
        case rel => exact ⟨j + 1, xs, by omega, by go_num, hl6, hsh, (H3.out.drop).more (by omega)⟩
        case measure => simp [intOf]; omega
      · clear ha
        go_wp2
        go_roundw
        case rel => exact ⟨j + 1, addL xs x, by omega, by go_num, HAL.out, HAS.out, (((H3.out.front 1 rfl).rm 2)).more (by omega)⟩
        case measure => simp [intOf]; omega
    · go_wp2_with fail
      refine (pick_b 20 HB.out (by omega) (by omega)).mono ?_
      rintro e w2 ⟨q, rfl, -, -, H2'⟩
      have H2 := Lib.hid H2'
      clear H2' HB
      by_cases hq : q = 0
      · have hqb : (q == 0) = true := beq_iff_eq.2 hq
        clear hq
        go_wp2_with fail
        refine (l91Right_b H2.out (by omega)).mono ?_
        rintro e w3 ⟨x, rfl, hx5, H3'⟩
        have H3 := Lib.hid (H3'.front 1 rfl)
        clear H3' H2
        have H4 := Lib.hid ((H3.out.lits eltStr #[tv x] [x] 1 rfl rfl (by omega)).front 1 rfl)
        have HSH := Lib.hid (short_snoc hsh.out hx5)
        go_wp2_with (at_builtin; refine append_b eltStr rfl _ _ rfl _ _ [x] rfl rfl H4.out (H4.out.rd 1 rfl encS_len) (by simp only [List.length_cons, List.length_nil]; omega) ?_; intro v2 w5 H5 hnil2)
        have H6 := Lib.hid (((H5.front 2 rfl).rm 2).more (show k + 1 + 2 * (j : Int) + 1 + 2 ≤ k + 20 by omega))
        clear H5 H4 H3
        go_ret
        exact ⟨_, xs ++ [x], rfl, by simp; omega, HSH.out, H6.out⟩
      · have hqb : (q == 0) = false := beq_eq_false_iff_ne.2 hq
        clear hq
        go_wp2_with fail
        refine (pick_b 20 H2.out (by omega) (by omega)).mono ?_
        rintro e w3 ⟨q2, rfl, -, -, H3'⟩
        have H3 := Lib.hid H3'
        clear H3' H2
        by_cases hq2 : q2 = 0
        · have hqb2 : (q2 == 0) = true := beq_iff_eq.2 hq2
          clear hq2
          have H4 := Lib.hid ((((H3.out.lits eltStr #[tv [97], tv [97, 97], tv [97, 98], tv [98], tv [98, 97], tv [99]] [[97], [97, 97], [97, 98], [98], [98, 97], [99]] 6 rfl rfl (by omega)).front 1 rfl).rm 2).more (show k + 1 + 2 * (j : Int) + 1 + 1 ≤ k + 20 by omega))
          go_wp2
          go_ret
          exact ⟨_, _, rfl, by simp, by intro x hx; revert hx; revert x; decide, H4.out⟩
        · have hqb2 : (q2 == 0) = false := beq_eq_false_iff_ne.2 hq2
          clear hq2
          go_wp2
          go_ret
          exact ⟨_, xs, rfl, by omega, hsh.out, H3.out.more (by omega)⟩
end

section
variable {bs : List Int} {v : Value} {w : World}
end
end Go.Proofs.YtojknkpjnchchaaGreatDoor
