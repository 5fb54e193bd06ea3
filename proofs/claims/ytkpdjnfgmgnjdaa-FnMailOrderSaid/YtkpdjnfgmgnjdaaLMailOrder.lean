/- FnMailOrder returns true for every code. No conditions. -/
import Derived.Test.YtkpdjnfgmgnjdaaLawMail
namespace Go.Proofs.Ytkpdjnfgmgnjdaa
open Go.ChangeShapes Go.WideShapes Go.ChangeAt Go.RowKit
set_option linter.all false
attribute [local go_sem ↓] Go.wp_at_zero Go.wp_at_succ

set_option maxHeartbeats 8000000 in
theorem fnMailOrder_w (bs : List Int) (v : Value) (w : World) (hx : RdB w v bs) (hbs : ∀ b ∈ bs, 0 ≤ b ∧ b ≤ 255) :
    Calls Try.prog 15 #[v] w fun e w' => e = .returned (.bool true) ∧ Below w.heap.size w w' := by
  have hx' := Lib.hid hx
  have HBS := Lib.hid hbs
  clear hbs
  obtain ⟨a, c, rfl, h1, h2, -, -⟩ := hx
  unfold maxLen at h2
  by_cases hl : bs.length ≤ 1048576
  rotate_left
  · go_enter Try.func15, Try.ntmps15
    go_wp2
    go_ret
    exact ⟨rfl, bref _⟩
  go_enter Try.func15, Try.ntmps15
  go_wp2_with fail
  refine (drawMailTake_c bs _ _ hx'.out HBS.out).mono ?_
  rintro e W1 ⟨xs, u0, env, rfl, ho_u0, hxl, hb1⟩
  have htl := takeL_le xs env
  have hk : Below w.heap.size w W1 := hb1
  have Hb2 := Lib.hid (hk : Below w.heap.size w W1)
  clear hk hb1
  have HU0 := Lib.hid (OwF.of ho_u0 (Nat.le_refl _))
  clear ho_u0
  obtain ⟨m, hM⟩ : ∃ m, m = takeM xs env := ⟨_, rfl⟩
  have HM := Lib.hid hM
  clear hM
  have hne : ∀ w, _ := fun w => neqMail m m w
  have hneq := fun w => (neqMail m m w).trans (by rw [decide_eq_true (rfl : m = m)]; rfl : _ = .ok (.bool false) w)
  have heql := fun w => (eqlMail m m w).trans (by rw [decide_eq_true (rfl : m = m)] : _ = .ok (.bool true) w)
  have hgd := guardMail
  cases hB : takeB xs env
  · have HS := Lib.hid hB
    clear hB
    go_wp2_with fail
    refine (implMailTake_c xs env u0 _ (HU0.out.rd Mail.enc_len)).mono ?_
    rintro e W3 ⟨u1, rfl, ho_u1, hb1⟩
    rw [HS.out]
    rw [← HM.out]
    have hk : Below W1.heap.size W1 W3 := hb1
    have HO4 := Lib.hid (HU0.out.keep (Chg.of_below hk) (.inr (Nat.zero_le _)))
    clear HU0
    have Hb5 := Lib.hid (bnext Hb2.out hk : Below w.heap.size w W3)
    clear Hb2
    clear hk hb1
    have HO6 := Lib.hid (OwF.of ho_u1 (Nat.le_refl _))
    clear ho_u1
    unfold Mail.val
    go_wp2_with fail
    refine (specMailTake_c xs env u0 _ (RdT.below (HO4.out.rd Mail.enc_len) (balloc _ _))).mono ?_
    rintro e W7 ⟨u2, rfl, ho_u2, hb1⟩
    rw [HS.out]
    rw [← HM.out]
    have HB8 := Lib.hid (bkept hb1 (heap_alloc_new _ _))
    have hk : Below W3.heap.size W3 W7 := (bnext (balloc _ _) hb1)
    have HO9 := Lib.hid (HO4.out.keep (Chg.of_below hk) (.inr (Nat.zero_le _)))
    clear HO4
    have HO10 := Lib.hid (HO6.out.keep (Chg.of_below hk) (.inr (Nat.zero_le _)))
    clear HO6
    have Hb11 := Lib.hid (bnext Hb5.out hk : Below w.heap.size w W7)
    clear Hb5
    clear hk hb1
    have HO12 := Lib.hid (OwF.of ho_u2 (Nat.le_refl _))
    clear ho_u2
    unfold Mail.val
    obtain ⟨c13a, c13b, c13c, c13d, c13e, c13f, c13g⟩ := blk3 HB8.out
    go_wp2_with fail
    refine (sameMails_c (takeL xs env) (takeL xs env) u1 u2 _ (RdT.below (HO10.out.rd Mail.enc_len) (balloc _ _)) (RdT.below (HO12.out.rd Mail.enc_len) (balloc _ _))).mono ?_
    rintro e W14 ⟨rfl, hb1⟩
    rw [decide_eq_true (rfl : (takeL xs env) = (takeL xs env))]
    clear c13a c13b c13c c13d c13e c13f c13g
    have HB15 := Lib.hid (bkept hb1 (heap_alloc_new _ _))
    have hk : Below W7.heap.size W7 W14 := (bnext (balloc _ _) hb1)
    have HO16 := Lib.hid (HO9.out.keep (Chg.of_below hk) (.inr (Nat.zero_le _)))
    clear HO9
    have HO17 := Lib.hid (HO10.out.keep (Chg.of_below hk) (.inr (Nat.zero_le _)))
    clear HO10
    have HO18 := Lib.hid (HO12.out.keep (Chg.of_below hk) (.inr (Nat.zero_le _)))
    clear HO12
    have HB19 := Lib.hid (bkept hk HB8.out)
    clear HB8
    have Hb20 := Lib.hid (bnext Hb11.out hk : Below w.heap.size w W14)
    clear Hb11
    clear hk hb1
    obtain ⟨c21a, c21b, c21c, c21d, c21e, c21f, c21g⟩ := blk3 HB19.out
    obtain ⟨c22a, c22b, c22c, c22d, c22e, c22f, c22g⟩ := blk3 HB15.out
    go_wp2_with fail
    refine (sameMails_c (takeL xs env) (takeL xs env) u1 u2 _ (HO17.out.rd Mail.enc_len) (HO18.out.rd Mail.enc_len)).mono ?_
    rintro e W23 ⟨rfl, hb1⟩
    rw [decide_eq_true (rfl : (takeL xs env) = (takeL xs env))]
    clear c21a c21b c21c c21d c21e c21f c21g c22a c22b c22c c22d c22e c22f c22g
    have hk : Below W14.heap.size W14 W23 := hb1
    have HO24 := Lib.hid (HO16.out.keep (Chg.of_below hk) (.inr (Nat.zero_le _)))
    clear HO16
    have HO25 := Lib.hid (HO17.out.keep (Chg.of_below hk) (.inr (Nat.zero_le _)))
    clear HO17
    have HO26 := Lib.hid (HO18.out.keep (Chg.of_below hk) (.inr (Nat.zero_le _)))
    clear HO18
    have HB27 := Lib.hid (bkept hk HB19.out)
    clear HB19
    have HB28 := Lib.hid (bkept hk HB15.out)
    clear HB15
    have Hb29 := Lib.hid (bnext Hb20.out hk : Below w.heap.size w W23)
    clear Hb20
    clear hk hb1
    go_wp2
    go_ret
    exact ⟨rfl, Hb29.out⟩
  · have HS := Lib.hid hB
    clear hB
    go_wp2_with fail
    refine (implMailTake_c xs env u0 _ (HU0.out.rd Mail.enc_len)).mono ?_
    rintro e W30 ⟨u1, rfl, ho_u1, hb1⟩
    rw [HS.out]
    rw [← HM.out]
    have hk : Below W1.heap.size W1 W30 := hb1
    have HO31 := Lib.hid (HU0.out.keep (Chg.of_below hk) (.inr (Nat.zero_le _)))
    clear HU0
    have Hb32 := Lib.hid (bnext Hb2.out hk : Below w.heap.size w W30)
    clear Hb2
    clear hk hb1
    have HO33 := Lib.hid (OwF.of ho_u1 (Nat.le_refl _))
    clear ho_u1
    unfold Mail.val
    go_wp2_with fail
    refine (specMailTake_c xs env u0 _ (RdT.below (HO31.out.rd Mail.enc_len) (balloc _ _))).mono ?_
    rintro e W34 ⟨u2, rfl, ho_u2, hb1⟩
    rw [HS.out]
    rw [← HM.out]
    have HB35 := Lib.hid (bkept hb1 (heap_alloc_new _ _))
    have hk : Below W30.heap.size W30 W34 := (bnext (balloc _ _) hb1)
    have HO36 := Lib.hid (HO31.out.keep (Chg.of_below hk) (.inr (Nat.zero_le _)))
    clear HO31
    have HO37 := Lib.hid (HO33.out.keep (Chg.of_below hk) (.inr (Nat.zero_le _)))
    clear HO33
    have Hb38 := Lib.hid (bnext Hb32.out hk : Below w.heap.size w W34)
    clear Hb32
    clear hk hb1
    have HO39 := Lib.hid (OwF.of ho_u2 (Nat.le_refl _))
    clear ho_u2
    unfold Mail.val
    obtain ⟨c40a, c40b, c40c, c40d, c40e, c40f, c40g⟩ := blk3 HB35.out
    go_wp2_with fail
    refine (sameMails_c (takeL xs env) (takeL xs env) u1 u2 _ (RdT.below (HO37.out.rd Mail.enc_len) (balloc _ _)) (RdT.below (HO39.out.rd Mail.enc_len) (balloc _ _))).mono ?_
    rintro e W41 ⟨rfl, hb1⟩
    rw [decide_eq_true (rfl : (takeL xs env) = (takeL xs env))]
    clear c40a c40b c40c c40d c40e c40f c40g
    have HB42 := Lib.hid (bkept hb1 (heap_alloc_new _ _))
    have hk : Below W34.heap.size W34 W41 := (bnext (balloc _ _) hb1)
    have HO43 := Lib.hid (HO36.out.keep (Chg.of_below hk) (.inr (Nat.zero_le _)))
    clear HO36
    have HO44 := Lib.hid (HO37.out.keep (Chg.of_below hk) (.inr (Nat.zero_le _)))
    clear HO37
    have HO45 := Lib.hid (HO39.out.keep (Chg.of_below hk) (.inr (Nat.zero_le _)))
    clear HO39
    have HB46 := Lib.hid (bkept hk HB35.out)
    clear HB35
    have Hb47 := Lib.hid (bnext Hb38.out hk : Below w.heap.size w W41)
    clear Hb38
    clear hk hb1
    obtain ⟨c48a, c48b, c48c, c48d, c48e, c48f, c48g⟩ := blk3 HB46.out
    go_wp2_with fail
    refine (implMailWords_c xs m.fr env u0 _ (HO43.out.rd Mail.enc_len)).mono ?_
    rintro e W49 ⟨u3, rfl, ho_u3, hb1⟩
    clear c48a c48b c48c c48d c48e c48f c48g
    have hk : Below W41.heap.size W41 W49 := hb1
    have HO50 := Lib.hid (HO43.out.keep (Chg.of_below hk) (.inr (Nat.zero_le _)))
    clear HO43
    have HO51 := Lib.hid (HO44.out.keep (Chg.of_below hk) (.inr (Nat.zero_le _)))
    clear HO44
    have HO52 := Lib.hid (HO45.out.keep (Chg.of_below hk) (.inr (Nat.zero_le _)))
    clear HO45
    have HB53 := Lib.hid (bkept hk HB46.out)
    clear HB46
    have HB54 := Lib.hid (bkept hk HB42.out)
    clear HB42
    have Hb55 := Lib.hid (bnext Hb47.out hk : Below w.heap.size w W49)
    clear Hb47
    clear hk hb1
    have HO56 := Lib.hid (OwF.of ho_u3 (Nat.le_refl _))
    clear ho_u3
    obtain ⟨c57a, c57b, c57c, c57d, c57e, c57f, c57g⟩ := blk3 HB53.out
    go_wp2_with fail
    refine (implMailWords_c (takeL xs env) m.fr env u1 _ (HO51.out.rd Mail.enc_len)).mono ?_
    rintro e W58 ⟨u4, rfl, ho_u4, hb1⟩
    clear c57a c57b c57c c57d c57e c57f c57g
    have hk : Below W49.heap.size W49 W58 := hb1
    have HO59 := Lib.hid (HO50.out.keep (Chg.of_below hk) (.inr (Nat.zero_le _)))
    clear HO50
    have HO60 := Lib.hid (HO51.out.keep (Chg.of_below hk) (.inr (Nat.zero_le _)))
    clear HO51
    have HO61 := Lib.hid (HO52.out.keep (Chg.of_below hk) (.inr (Nat.zero_le _)))
    clear HO52
    have HO62 := Lib.hid (HO56.out.keep (Chg.of_below hk) (.inr (Nat.zero_le _)))
    clear HO56
    have HB63 := Lib.hid (bkept hk HB53.out)
    clear HB53
    have HB64 := Lib.hid (bkept hk HB54.out)
    clear HB54
    have Hb65 := Lib.hid (bnext Hb55.out hk : Below w.heap.size w W58)
    clear Hb55
    clear hk hb1
    have HO66 := Lib.hid (OwF.of ho_u4 (Nat.le_refl _))
    clear ho_u4
    obtain ⟨ws, hws, hws2⟩ := take_words HS.out HM.out
    have HW := Lib.hid hws
    have HW2 := Lib.hid hws2
    clear hws hws2
    have r3 := HO62.out.rd encI_len
    rw [HW.out] at r3
    have R4 := Lib.hid (HO66.out.rd encI_len)
    have r3' := r3
    obtain ⟨a3, c3, hv3, p1, p2, -, p3⟩ := r3
    obtain ⟨b3, o3, hb3, hlt3, hc3⟩ := p3 0 m.wd (by simp)
    have q3 : W58.cell? ⟨b3, o3, none⟩ = some (.int .i64 m.wd) := by have := hc3 0 _ rfl; simpa using this
    rw [hb3, show (m.wd :: ws).length = ws.length + 1 by simp] at hv3
    subst hv3
    have R3 := (RdT.dropIf (j := 1) r3' (by simp))
    have RD := Lib.hid R3
    simp only [List.length_cons] at p1
    unfold maxLen at p2
    obtain ⟨x0, x1, x2, -, -, -, xlt⟩ := blk3 HB63.out
    clear r3' p3 hc3 hb3 R3
    have i0 : (0 : Int) < (ws.length : Int) + 1 := by omega
    have i1 : (1 : Int) ≤ (ws.length : Int) + 1 := by omega
    have i2 : (ws.length : Int) + 1 ≤ (c3 : Int) := by omega
    have hcc : (c3 = 1) = True ∨ (c3 = 1) = False := by by_cases h : c3 = 1 <;> simp [h]
    rcases hcc with hcc | hcc
    all_goals
      simp only [hcc, if_true, if_false] at RD
      go_wp2
      go_region_held3 (fun w' => w'.cell? ⟨b3, o3, none⟩ = some (.int .i64 m.wd) ∧ w'.cell? ⟨W30.heap.size, 2, none⟩ = some (.int .i64 m.wd)) (first | go_keep | exact ⟨e0, e1⟩ | fail)
        ((go_at_call 29; refine (sameInts_c ws ws _ _ _ (by first | exact RD.out | simpa [hcc] using RD.out) (by rw [← HW2.out]; exact R4.out)).mono ?_; rintro e w4 ⟨rfl, hb4⟩; rw [decide_eq_true (rfl : ws = ws)]; have e0 := (hb4.cell (p := ⟨b3, o3, none⟩) hlt3).trans q3; have e1 := (hb4.cell (p := ⟨W30.heap.size, 2, none⟩) xlt).trans x2))
      go_wp2
      go_ret
      exact ⟨rfl, bdrew Hb65.out hb4⟩

set_option maxRecDepth 100000 in
theorem fnMailOrder_l (os : Os) (started : os.Started) (H : Type) (enc : TypeId × Value → H) :
    ReturnsInHanded {} Try.checked os 15 .any (Rows.fnMailOrderSpec.pre6 enc Try.prog Try.f15 Rows.fnMailOrderRow.domain false) (Rows.fnMailOrderSpec.post enc Try.prog Try.f15 false true false false) := by
  refine returnsInHanded_of_change (C := Try.checked) own started (by kernel_rfl) Try.func15
    (ChangeSpec.witness6 (enc := enc) (C := Try.checked) false ⟨#[], #[.slice none 0 0], []⟩ 8 (by kernel_rfl) (by kernel_rfl) (by kernel_rfl) (by kernel_rfl)) ?_
  intro W base args ds gs before hval0 hW _ _
  have hval : ∀ (j : Nat) t v, Try.f15.params[j]? = some t → args[j]? = some v → Value.okWide Try.prog W .any base t v := hval0
  have hW' := hW
  obtain ⟨p, q, hA0, hV, rfl, _, _⟩ := hW
  have hA : DataW.TrodAll enc Try.prog W 0 (fun _ => true) true Try.f15.params.toList args.toList ds p := hA0
  rw [Try.params15] at hA hval
  obtain ⟨v0, vs0, d0, ds0, p0, q0, hargs, rfl, rfl, h0, r0⟩ := trodAll_cons hA
  obtain ⟨rfl, rfl, rfl⟩ := trodAll_nil r0
  obtain rfl : args = #[v0] := by cases args; simp_all
  obtain ⟨rfl, rfl⟩ := trodVars_none hV
  clear hA0 hval0
  simp only [List.append_nil] at hW'
  have hl0 : ∀ x ∈ p0, x.block < W.heap.size := fun x hx => by simpa using hW'.lt x (by simp [hx])
  obtain ⟨x0, hx0, hg0⟩ := openBytes (hval 0 24 v0 rfl rfl) h0
  refine (fnMailOrder_w x0 v0 W hx0 hg0).mono fun e W' ⟨he, hb⟩ => ?_
  subst he
  refine ⟨_, rfl, _, _, _, [], p0, [], hW', trodAll_cons_mk (shut_bool Try.underlying4 _) trodAll_mk0, ?_, rfl, hb.frame _, fun h => by cases h⟩
  have hk := trodAll_cons_mk (Below.trod laidOut (by kernel_rfl) (of_decide_eq_true (by kernel_rfl)) h0 hb hl0) (trodAll_mk0)
  simp only [List.append_nil] at hk
  exact hk

theorem fnMailOrder_holds : Rows.FnMailOrderSaid :=
  OpenClaim.holds_of_wide 15 Try.f15 rfl rfl rfl rfl rfl rfl rfl ⟨rfl, rfl, rfl, rfl, rfl⟩ rfl rfl rfl rfl rfl (by kernel_rfl) Try.func15 (by kernel_rfl)
    (of_decide_eq_true (by kernel_rfl)) (by unfold Func.isWrapper; first | (rw [if_pos (by decide +kernel)]; kernel_rfl) | (rw [if_neg (by decide +kernel)]; exact ⟨rfl, rfl⟩))
    (fun os started H enc _ => fnMailOrder_l os started H enc)

end Go.Proofs.Ytkpdjnfgmgnjdaa
