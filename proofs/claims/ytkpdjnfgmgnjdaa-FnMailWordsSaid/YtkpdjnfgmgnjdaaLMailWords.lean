/- FnMailWords returns true for every code. No conditions. -/
import Derived.Test.YtkpdjnfgmgnjdaaLawMail
namespace Go.Proofs.Ytkpdjnfgmgnjdaa
open Go.ChangeShapes Go.WideShapes Go.ChangeAt Go.RowKit
set_option linter.all false
attribute [local go_sem ↓] Go.wp_at_zero Go.wp_at_succ

set_option maxHeartbeats 8000000 in
theorem fnMailWords_w (bs : List Int) (v : Value) (w : World) (hx : RdB w v bs) (hbs : ∀ b ∈ bs, 0 ≤ b ∧ b ≤ 255) :
    Calls Try.prog 7 #[v] w fun e w' => e = .returned (.bool true) ∧ Below w.heap.size w w' := by
  have hx' := Lib.hid hx
  have HBS := Lib.hid hbs
  clear hbs
  obtain ⟨a, c, rfl, h1, h2, -, -⟩ := hx
  unfold maxLen at h2
  by_cases hl : bs.length ≤ 1048576
  rotate_left
  · go_enter Try.func7, Try.ntmps7
    go_wp2
    go_ret
    exact ⟨rfl, bref _⟩
  go_enter Try.func7, Try.ntmps7
  go_wp2_with fail
  refine (drawMailWords_c bs _ _ hx'.out HBS.out).mono ?_
  rintro e W1 ⟨xs, u0, f, t, rfl, ho_u0, hxl, hb1⟩
  have hwl := mailWords_le xs f t
  have hk : Below w.heap.size w W1 := hb1
  have Hb2 := Lib.hid (hk : Below w.heap.size w W1)
  clear hk hb1
  have HU0 := Lib.hid (OwF.of ho_u0 (Nat.le_refl _))
  clear ho_u0
  go_wp2_with fail
  refine (implMailWords_c xs f t u0 _ (HU0.out.rd Mail.enc_len)).mono ?_
  rintro e W3 ⟨u1, rfl, ho_u1, hb1⟩
  have hk : Below W1.heap.size W1 W3 := hb1
  have HO4 := Lib.hid (HU0.out.keep (Chg.of_below hk) (.inr (Nat.zero_le _)))
  clear HU0
  have Hb5 := Lib.hid (bnext Hb2.out hk : Below w.heap.size w W3)
  clear Hb2
  clear hk hb1
  have HO6 := Lib.hid (OwF.of ho_u1 (Nat.le_refl _))
  clear ho_u1
  go_wp2_with fail
  refine (specMailWords_c xs f t u0 _ (HO4.out.rd Mail.enc_len) (by omega)).mono ?_
  rintro e W7 ⟨u2, rfl, ho_u2, hb1⟩
  have hk : Below W3.heap.size W3 W7 := hb1
  have HO8 := Lib.hid (HO4.out.keep (Chg.of_below hk) (.inr (Nat.zero_le _)))
  clear HO4
  have HO9 := Lib.hid (HO6.out.keep (Chg.of_below hk) (.inr (Nat.zero_le _)))
  clear HO6
  have Hb10 := Lib.hid (bnext Hb5.out hk : Below w.heap.size w W7)
  clear Hb5
  clear hk hb1
  have HO11 := Lib.hid (OwF.of ho_u2 (Nat.le_refl _))
  clear ho_u2
  go_wp2_with fail
  refine (sameInts_c (mailWords xs f t) (mailWords xs f t) u1 u2 _ (HO9.out.rd encI_len) (HO11.out.rd encI_len)).mono ?_
  rintro e W12 ⟨rfl, hb1⟩
  rw [decide_eq_true (rfl : mailWords xs f t = mailWords xs f t)]
  have hk : Below W7.heap.size W7 W12 := hb1
  have HO13 := Lib.hid (HO8.out.keep (Chg.of_below hk) (.inr (Nat.zero_le _)))
  clear HO8
  have HO14 := Lib.hid (HO9.out.keep (Chg.of_below hk) (.inr (Nat.zero_le _)))
  clear HO9
  have HO15 := Lib.hid (HO11.out.keep (Chg.of_below hk) (.inr (Nat.zero_le _)))
  clear HO11
  have Hb16 := Lib.hid (bnext Hb10.out hk : Below w.heap.size w W12)
  clear Hb10
  clear hk hb1
  cases hv : mailsOk xs
  · have HV := Lib.hid hv
    clear hv
    go_wp2_with fail
    refine (specMailsValid_c xs u0 _ (HO13.out.rd Mail.enc_len)).mono ?_
    rintro e W17 ⟨rfl, hb1⟩
    rw [HV.out]
    have hk : Below W12.heap.size W12 W17 := hb1
    have HO18 := Lib.hid (HO13.out.keep (Chg.of_below hk) (.inr (Nat.zero_le _)))
    clear HO13
    have HO19 := Lib.hid (HO14.out.keep (Chg.of_below hk) (.inr (Nat.zero_le _)))
    clear HO14
    have HO20 := Lib.hid (HO15.out.keep (Chg.of_below hk) (.inr (Nat.zero_le _)))
    clear HO15
    have Hb21 := Lib.hid (bnext Hb16.out hk : Below w.heap.size w W17)
    clear Hb16
    clear hk hb1
    go_wp2_with fail
    refine (sameInts_c (mailWords xs f t) (mailWords xs f t) u1 u2 _ (HO19.out.rd encI_len) (HO20.out.rd encI_len)).mono ?_
    rintro e W22 ⟨rfl, hb1⟩
    rw [decide_eq_true (rfl : mailWords xs f t = mailWords xs f t)]
    have hk : Below W17.heap.size W17 W22 := hb1
    have HO23 := Lib.hid (HO18.out.keep (Chg.of_below hk) (.inr (Nat.zero_le _)))
    clear HO18
    have HO24 := Lib.hid (HO19.out.keep (Chg.of_below hk) (.inr (Nat.zero_le _)))
    clear HO19
    have HO25 := Lib.hid (HO20.out.keep (Chg.of_below hk) (.inr (Nat.zero_le _)))
    clear HO20
    have Hb26 := Lib.hid (bnext Hb21.out hk : Below w.heap.size w W22)
    clear Hb21
    clear hk hb1
    go_wp2
    go_ret
    exact ⟨rfl, Hb26.out⟩
  · have HV := Lib.hid hv
    have HMW := Lib.hid (show mailWords xs f t = wordsF xs f t by unfold mailWords; rw [if_pos hv])
    clear hv
    go_wp2_with fail
    refine (specMailsValid_c xs u0 _ (HO13.out.rd Mail.enc_len)).mono ?_
    rintro e W27 ⟨rfl, hb1⟩
    rw [HV.out]
    have hk : Below W12.heap.size W12 W27 := hb1
    have HO28 := Lib.hid (HO13.out.keep (Chg.of_below hk) (.inr (Nat.zero_le _)))
    clear HO13
    have HO29 := Lib.hid (HO14.out.keep (Chg.of_below hk) (.inr (Nat.zero_le _)))
    clear HO14
    have HO30 := Lib.hid (HO15.out.keep (Chg.of_below hk) (.inr (Nat.zero_le _)))
    clear HO15
    have Hb31 := Lib.hid (bnext Hb16.out hk : Below w.heap.size w W27)
    clear Hb16
    clear hk hb1
    obtain ⟨a0, c0, hv0, s3, s4, -, h3⟩ := HO28.out.rd Mail.enc_len
    subst hv0
    have H3 := Lib.hid h3
    have r1 := HO29.out.rd encI_len
    rw [HMW.out] at r1
    obtain ⟨a1, c1, hv1, p3, p4, -, q3⟩ := r1
    subst hv1
    have Q3 := Lib.hid q3
    clear h3 q3
    unfold maxLen at s4 p4
    go_wp2
    go_loopw [2, 8, 9] (fun _ n i wr => ∃ k : Nat, k ≤ xs.length ∧ i = .int .i64 k ∧ n = .int .i64 (wordsF (xs.take k) f t).length ∧ Below W27.heap.size W27 wr) (fun _ _ i _ => xs.length - (intOf i).toNat)
    case atStart => exact ⟨0, Nat.zero_le _, rfl, rfl, bref _⟩
    case round =>
      obtain ⟨k, hk, rfl, rfl, hbr⟩ := hrel
      have hwk := wordsF_le (xs.take k) f t
      have hwk2 : (xs.take k).length ≤ k := List.length_take_le _ _
      by_cases hlt : k < xs.length
      · obtain ⟨p, hp⟩ : ∃ p, xs[k]? = some p := ⟨_, List.getElem?_eq_getElem hlt⟩
        obtain ⟨b, o, rfl, hbl, hc⟩ := H3.out k p hp
        have d0 : wr.cell? ⟨b, o + k * 3, none⟩ = some (.int .i64 p.fr) := (hbr.cell (p := ⟨b, o + k * 3, none⟩) hbl).trans (hc 0 _ rfl)
        have d1 : wr.cell? ⟨b, o + k * 3 + 1, none⟩ = some (.int .i64 p.tu) := (hbr.cell (p := ⟨b, o + k * 3 + 1, none⟩) hbl).trans (hc 1 _ rfl)
        have d2 : wr.cell? ⟨b, o + k * 3 + 2, none⟩ = some (.int .i64 p.wd) := (hbr.cell (p := ⟨b, o + k * 3 + 2, none⟩) hbl).trans (hc 2 _ rfl)
        have hst := wordsF_step (f := f) (t := t) hp
        by_cases hf : p.fr = f ∧ p.tu = t
        · have e1 : (p.fr == f) = true := beq_iff_eq.2 hf.1
          have e2 : (p.tu == t) = true := beq_iff_eq.2 hf.2
          have hget := wordsF_get hp hf
          obtain ⟨b1, o1, hb1, hl1, hc1⟩ := Q3.out _ _ hget
          have hlen : (wordsF (xs.take k) f t).length < (wordsF xs f t).length := (List.getElem?_eq_some_iff.1 hget).1
          have g0' := hc1 0 _ rfl
          simp only [Nat.mul_one, Nat.add_zero] at g0'
          have g0 := (hbr.cell (p := ⟨b1, o1 + (wordsF (xs.take k) f t).length, none⟩) hl1).trans g0'
          clear g0'
          rw [if_pos hf] at hst
          have hsl : ((wordsF (xs.take (k + 1)) f t).length : Int) = ((wordsF (xs.take k) f t).length : Int) + 1 := by rw [hst]; simp
          have HSL := Lib.hid hsl
          generalize wordsF (xs.take k) f t = ys at *
          subst hb1
          clear hc hc1 hst hf hp hget hsl
          have i0 : (0 : Int) ≤ (ys.length : Int) := by omega
          have i1 : (ys.length : Int) < ((wordsF xs f t).length : Int) := by omega
          have i2 : (0 : Int) ≤ (k : Int) := by omega
          have i3 : (k : Int) < (xs.length : Int) := by omega
          have i4 : decide (((wordsF xs f t).length : Int) ≤ (ys.length : Int)) = false := by simp; omega
          go_wp2
          go_quiet (fail)
          go_wp2
          go_roundw
          case rel => first | exact ⟨k + 1, by omega, by go_num, by rw [HSL.out], below_drewN hbr _⟩ | ((repeat apply Exists.intro); exact ⟨⟨k + 1, by omega, by go_num, by rw [HSL.out], below_drewN hbr _⟩, rfl⟩)
          case measure => simp [intOf]; omega
        · have hc2 : (p.fr == f) = false ∨ ((p.fr == f) = true ∧ (p.tu == t) = false) := by
            by_cases h1 : p.fr = f
            · exact .inr ⟨beq_iff_eq.2 h1, beq_eq_false_iff_ne.2 fun h2 => hf ⟨h1, h2⟩⟩
            · exact .inl (beq_eq_false_iff_ne.2 h1)
          rw [if_neg hf, List.append_nil] at hst
          have HST := Lib.hid hst
          clear hst hf hc hp
          rcases hc2 with e1 | ⟨e1, e2⟩
          all_goals
            go_wp2
            go_roundw
            case rel => exact ⟨k + 1, by omega, by go_num, by rw [HST.out], hbr⟩
            case measure => simp [intOf]; omega
      · have hkl : k = xs.length := by omega
        have hte : wordsF (xs.take k) f t = wordsF xs f t := by rw [List.take_of_length_le (by omega)]
        rw [hte]
        clear hte hwk hwk2
        go_wp2
        go_ret
        exact ⟨ret_bool (by first | rfl | (rw [List.take_of_length_le (by omega)]; simp)), bnext Hb31.out hbr⟩

set_option maxRecDepth 100000 in
theorem fnMailWords_l (os : Os) (started : os.Started) (H : Type) (enc : TypeId × Value → H) :
    ReturnsInHanded {} Try.checked os 7 .any (Rows.fnMailWordsSpec.pre6 enc Try.prog Try.f7 Rows.fnMailWordsRow.domain false) (Rows.fnMailWordsSpec.post enc Try.prog Try.f7 false true false false) := by
  refine returnsInHanded_of_change (C := Try.checked) own started (by kernel_rfl) Try.func7
    (ChangeSpec.witness6 (enc := enc) (C := Try.checked) false ⟨#[], #[.slice none 0 0], []⟩ 8 (by kernel_rfl) (by kernel_rfl) (by kernel_rfl) (by kernel_rfl)) ?_
  intro W base args ds gs before hval0 hW _ _
  have hval : ∀ (j : Nat) t v, Try.f7.params[j]? = some t → args[j]? = some v → Value.okWide Try.prog W .any base t v := hval0
  have hW' := hW
  obtain ⟨p, q, hA0, hV, rfl, _, _⟩ := hW
  have hA : DataW.TrodAll enc Try.prog W 0 (fun _ => true) true Try.f7.params.toList args.toList ds p := hA0
  rw [Try.params7] at hA hval
  obtain ⟨v0, vs0, d0, ds0, p0, q0, hargs, rfl, rfl, h0, r0⟩ := trodAll_cons hA
  obtain ⟨rfl, rfl, rfl⟩ := trodAll_nil r0
  obtain rfl : args = #[v0] := by cases args; simp_all
  obtain ⟨rfl, rfl⟩ := trodVars_none hV
  clear hA0 hval0
  simp only [List.append_nil] at hW'
  have hl0 : ∀ x ∈ p0, x.block < W.heap.size := fun x hx => by simpa using hW'.lt x (by simp [hx])
  obtain ⟨x0, hx0, hg0⟩ := openBytes (hval 0 24 v0 rfl rfl) h0
  refine (fnMailWords_w x0 v0 W hx0 hg0).mono fun e W' ⟨he, hb⟩ => ?_
  subst he
  refine ⟨_, rfl, _, _, _, [], p0, [], hW', trodAll_cons_mk (shut_bool Try.underlying4 _) trodAll_mk0, ?_, rfl, hb.frame _, fun h => by cases h⟩
  have hk := trodAll_cons_mk (Below.trod laidOut (by kernel_rfl) (of_decide_eq_true (by kernel_rfl)) h0 hb hl0) (trodAll_mk0)
  simp only [List.append_nil] at hk
  exact hk

theorem fnMailWords_holds : Rows.FnMailWordsSaid :=
  OpenClaim.holds_of_wide 7 Try.f7 rfl rfl rfl rfl rfl rfl rfl ⟨rfl, rfl, rfl, rfl, rfl⟩ rfl rfl rfl rfl rfl (by kernel_rfl) Try.func7 (by kernel_rfl)
    (of_decide_eq_true (by kernel_rfl)) (by unfold Func.isWrapper; first | (rw [if_pos (by decide +kernel)]; kernel_rfl) | (rw [if_neg (by decide +kernel)]; exact ⟨rfl, rfl⟩))
    (fun os started H enc _ => fnMailWords_l os started H enc)

end Go.Proofs.Ytkpdjnfgmgnjdaa
