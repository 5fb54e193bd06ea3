/- FnMailNone returns true for every code. No conditions. -/
import Derived.Test.YtkpdjnfgmgnjdaaLawMail
namespace Go.Proofs.Ytkpdjnfgmgnjdaa
open Go.ChangeShapes Go.WideShapes Go.ChangeAt Go.RowKit
set_option linter.all false
attribute [local go_sem ↓] Go.wp_at_zero Go.wp_at_succ

set_option maxHeartbeats 8000000 in
theorem fnMailNone_w (bs : List Int) (v : Value) (w : World) (hx : RdB w v bs) (hbs : ∀ b ∈ bs, 0 ≤ b ∧ b ≤ 255) :
    Calls Try.prog 13 #[v] w fun e w' => e = .returned (.bool true) ∧ Below w.heap.size w w' := by
  have hx' := Lib.hid hx
  have HBS := Lib.hid hbs
  clear hbs
  obtain ⟨a, c, rfl, h1, h2, -, -⟩ := hx
  unfold maxLen at h2
  by_cases hl : bs.length ≤ 1048576
  rotate_left
  · go_enter Try.func13, Try.ntmps13
    go_wp2
    go_ret
    exact ⟨rfl, bref _⟩
  go_enter Try.func13, Try.ntmps13
  go_wp2_with fail
  refine (drawMailTake_c bs _ _ hx'.out HBS.out).mono ?_
  rintro e W1 ⟨xs, u0, env, rfl, ho_u0, hxl, hb1⟩
  have htl := takeL_le xs env
  have hk : Below w.heap.size w W1 := hb1
  have Hb2 := Lib.hid (hk : Below w.heap.size w W1)
  clear hk hb1
  have HU0 := Lib.hid (OwF.of ho_u0 (Nat.le_refl _))
  clear ho_u0
  obtain ⟨m, hM⟩ : ∃ m, m = takeM xs env := ⟨_, rfl⟩
  have HM := Lib.hid hM
  clear hM
  have hne : ∀ w, _ := fun w => neqMail m m w
  have hneq := fun w => (neqMail m m w).trans (by rw [decide_eq_true (rfl : m = m)]; rfl : _ = .ok (.bool false) w)
  have heql := fun w => (eqlMail m m w).trans (by rw [decide_eq_true (rfl : m = m)] : _ = .ok (.bool true) w)
  have hgd := guardMail
  cases hB : takeB xs env
  · have HBk := Lib.hid hB
    have HS := Lib.hid hB
    clear hB
    go_wp2_with fail
    refine (implMailTake_c xs env u0 _ (HU0.out.rd Mail.enc_len)).mono ?_
    rintro e W3 ⟨u1, rfl, ho_u1, hb1⟩
    rw [HS.out]
    rw [← HM.out]
    have hk : Below W1.heap.size W1 W3 := hb1
    have HO4 := Lib.hid (HU0.out.keep (Chg.of_below hk) (.inr (Nat.zero_le _)))
    clear HU0
    have Hb5 := Lib.hid (bnext Hb2.out hk : Below w.heap.size w W3)
    clear Hb2
    clear hk hb1
    have HO6 := Lib.hid (OwF.of ho_u1 (Nat.le_refl _))
    clear ho_u1
    unfold Mail.val
    go_wp2_with fail
    refine (specMailTake_c xs env u0 _ (RdT.below (HO4.out.rd Mail.enc_len) (balloc _ _))).mono ?_
    rintro e W7 ⟨u2, rfl, ho_u2, hb1⟩
    rw [HS.out]
    rw [← HM.out]
    have HB8 := Lib.hid (bkept hb1 (heap_alloc_new _ _))
    have hk : Below W3.heap.size W3 W7 := (bnext (balloc _ _) hb1)
    have HO9 := Lib.hid (HO4.out.keep (Chg.of_below hk) (.inr (Nat.zero_le _)))
    clear HO4
    have HO10 := Lib.hid (HO6.out.keep (Chg.of_below hk) (.inr (Nat.zero_le _)))
    clear HO6
    have Hb11 := Lib.hid (bnext Hb5.out hk : Below w.heap.size w W7)
    clear Hb5
    clear hk hb1
    have HO12 := Lib.hid (OwF.of ho_u2 (Nat.le_refl _))
    clear ho_u2
    unfold Mail.val
    obtain ⟨c13a, c13b, c13c, c13d, c13e, c13f, c13g⟩ := blk3 HB8.out
    go_wp2_with fail
    refine (sameMails_c (takeL xs env) (takeL xs env) u1 u2 _ (RdT.below (HO10.out.rd Mail.enc_len) (balloc _ _)) (RdT.below (HO12.out.rd Mail.enc_len) (balloc _ _))).mono ?_
    rintro e W14 ⟨rfl, hb1⟩
    rw [decide_eq_true (rfl : (takeL xs env) = (takeL xs env))]
    clear c13a c13b c13c c13d c13e c13f c13g
    have HB15 := Lib.hid (bkept hb1 (heap_alloc_new _ _))
    have hk : Below W7.heap.size W7 W14 := (bnext (balloc _ _) hb1)
    have HO16 := Lib.hid (HO9.out.keep (Chg.of_below hk) (.inr (Nat.zero_le _)))
    clear HO9
    have HO17 := Lib.hid (HO10.out.keep (Chg.of_below hk) (.inr (Nat.zero_le _)))
    clear HO10
    have HO18 := Lib.hid (HO12.out.keep (Chg.of_below hk) (.inr (Nat.zero_le _)))
    clear HO12
    have HB19 := Lib.hid (bkept hk HB8.out)
    clear HB8
    have Hb20 := Lib.hid (bnext Hb11.out hk : Below w.heap.size w W14)
    clear Hb11
    clear hk hb1
    cases hv : mailsOk xs
    · have HV := Lib.hid hv
      clear hv
      go_wp2_with fail
      refine (specMailsValid_c xs u0 _ (HO16.out.rd Mail.enc_len)).mono ?_
      rintro e W21 ⟨rfl, hb1⟩
      rw [HV.out]
      have hk : Below W14.heap.size W14 W21 := hb1
      have HO22 := Lib.hid (HO16.out.keep (Chg.of_below hk) (.inr (Nat.zero_le _)))
      clear HO16
      have HO23 := Lib.hid (HO17.out.keep (Chg.of_below hk) (.inr (Nat.zero_le _)))
      clear HO17
      have HO24 := Lib.hid (HO18.out.keep (Chg.of_below hk) (.inr (Nat.zero_le _)))
      clear HO18
      have HB25 := Lib.hid (bkept hk HB19.out)
      clear HB19
      have HB26 := Lib.hid (bkept hk HB15.out)
      clear HB15
      have Hb27 := Lib.hid (bnext Hb20.out hk : Below w.heap.size w W21)
      clear Hb20
      clear hk hb1
      obtain ⟨c28a, c28b, c28c, c28d, c28e, c28f, c28g⟩ := blk3 HB25.out
      obtain ⟨c29a, c29b, c29c, c29d, c29e, c29f, c29g⟩ := blk3 HB26.out
      go_wp2_with fail
      refine (sameMails_c (takeL xs env) (takeL xs env) u1 u2 _ (HO23.out.rd Mail.enc_len) (HO24.out.rd Mail.enc_len)).mono ?_
      rintro e W30 ⟨rfl, hb1⟩
      rw [decide_eq_true (rfl : (takeL xs env) = (takeL xs env))]
      clear c28a c28b c28c c28d c28e c28f c28g c29a c29b c29c c29d c29e c29f c29g
      have hk : Below W21.heap.size W21 W30 := hb1
      have HO31 := Lib.hid (HO22.out.keep (Chg.of_below hk) (.inr (Nat.zero_le _)))
      clear HO22
      have HO32 := Lib.hid (HO23.out.keep (Chg.of_below hk) (.inr (Nat.zero_le _)))
      clear HO23
      have HO33 := Lib.hid (HO24.out.keep (Chg.of_below hk) (.inr (Nat.zero_le _)))
      clear HO24
      have HB34 := Lib.hid (bkept hk HB25.out)
      clear HB25
      have HB35 := Lib.hid (bkept hk HB26.out)
      clear HB26
      have Hb36 := Lib.hid (bnext Hb27.out hk : Below w.heap.size w W30)
      clear Hb27
      clear hk hb1
      go_wp2
      go_ret
      exact ⟨rfl, Hb36.out⟩
    · have HV := Lib.hid hv
      have hcn : (cntW xs env 3 : Int) ≤ 0 := by have := cntW_zero hv HBk.out; omega
      have HL := Lib.hid (takeL_none hv HBk.out)
      clear hv
      go_wp2_with fail
      refine (specMailsValid_c xs u0 _ (HO16.out.rd Mail.enc_len)).mono ?_
      rintro e W37 ⟨rfl, hb1⟩
      rw [HV.out]
      have hk : Below W14.heap.size W14 W37 := hb1
      have HO38 := Lib.hid (HO16.out.keep (Chg.of_below hk) (.inr (Nat.zero_le _)))
      clear HO16
      have HO39 := Lib.hid (HO17.out.keep (Chg.of_below hk) (.inr (Nat.zero_le _)))
      clear HO17
      have HO40 := Lib.hid (HO18.out.keep (Chg.of_below hk) (.inr (Nat.zero_le _)))
      clear HO18
      have HB41 := Lib.hid (bkept hk HB19.out)
      clear HB19
      have HB42 := Lib.hid (bkept hk HB15.out)
      clear HB15
      have Hb43 := Lib.hid (bnext Hb20.out hk : Below w.heap.size w W37)
      clear Hb20
      clear hk hb1
      have R0 := Lib.hid (HO38.out.rd Mail.enc_len)
      have R1 := Lib.hid (HO39.out.rd Mail.enc_len)
      have HCN := Lib.hid hcn
      clear hcn
      go_wp2
      go_loopw [11, 12] (fun n i wr => ∃ k : Nat, k ≤ 3 ∧ i = .int .i64 k ∧ n = .int .i64 (cntW xs env k) ∧ Below W37.heap.size W37 wr) (fun _ i _ => 3 - (intOf i).toNat)
      case atStart => exact ⟨0, Nat.zero_le _, rfl, rfl, bref _⟩
      case round =>
        obtain ⟨k, hk, rfl, rfl, hbr⟩ := hrel
        have hcb := cntW_le xs env k
        have hcb2 : k * xs.length ≤ 30 := Nat.le_trans (Nat.mul_le_mul hk hxl) (by decide)
        by_cases hlt : k < 3
        · go_wp2_with fail
          refine (implMailWords_c xs (k : Int) env _ _ (R0.out.below hbr)).mono ?_
          rintro e w3 ⟨u3, rfl, ho3, hb3⟩
          have hb3' := bnext hbr hb3
          obtain ⟨a3, c3, hv3, p1, p2, -, -⟩ := ho3.rd encI_len
          subst hv3
          have hwl := mailWords_le xs (k : Int) env
          have hcs : ((cntW xs env k : Nat) : Int) + ((mailWords xs (k : Int) env).length : Int) = ((cntW xs env (k + 1) : Nat) : Int) := by simp [cntW]
          have HCS := Lib.hid hcs
          clear hcs ho3 hb3
          unfold maxLen at p2
          go_wp2
          go_roundw
          case rel => exact ⟨k + 1, by omega, by go_num, by rw [HCS.out], hb3'⟩
          case measure => simp [intOf]; omega
        · obtain rfl : k = 3 := by omega
          have hcn := HCN.out
      
          go_wp2_with fail
          refine (sameMails_c xs xs _ _ _ (by have := R1.out.below hbr; rw [HL.out] at this; exact this) (R0.out.below hbr)).mono ?_
          rintro e w3 ⟨rfl, hb3⟩
          rw [decide_eq_true (rfl : xs = xs)]
          have hb3' := bnext hbr hb3
          go_wp2
          go_ret
          first | exact ⟨rfl, bnext Hb43.out hb3'⟩ | exact ⟨ret_bool (by simp; omega), bnext Hb43.out hb3'⟩
  · have HBk := Lib.hid hB
    have HS := Lib.hid hB
    clear hB
    go_wp2_with fail
    refine (implMailTake_c xs env u0 _ (HU0.out.rd Mail.enc_len)).mono ?_
    rintro e W44 ⟨u1, rfl, ho_u1, hb1⟩
    rw [HS.out]
    rw [← HM.out]
    have hk : Below W1.heap.size W1 W44 := hb1
    have HO45 := Lib.hid (HU0.out.keep (Chg.of_below hk) (.inr (Nat.zero_le _)))
    clear HU0
    have Hb46 := Lib.hid (bnext Hb2.out hk : Below w.heap.size w W44)
    clear Hb2
    clear hk hb1
    have HO47 := Lib.hid (OwF.of ho_u1 (Nat.le_refl _))
    clear ho_u1
    unfold Mail.val
    go_wp2_with fail
    refine (specMailTake_c xs env u0 _ (RdT.below (HO45.out.rd Mail.enc_len) (balloc _ _))).mono ?_
    rintro e W48 ⟨u2, rfl, ho_u2, hb1⟩
    rw [HS.out]
    rw [← HM.out]
    have HB49 := Lib.hid (bkept hb1 (heap_alloc_new _ _))
    have hk : Below W44.heap.size W44 W48 := (bnext (balloc _ _) hb1)
    have HO50 := Lib.hid (HO45.out.keep (Chg.of_below hk) (.inr (Nat.zero_le _)))
    clear HO45
    have HO51 := Lib.hid (HO47.out.keep (Chg.of_below hk) (.inr (Nat.zero_le _)))
    clear HO47
    have Hb52 := Lib.hid (bnext Hb46.out hk : Below w.heap.size w W48)
    clear Hb46
    clear hk hb1
    have HO53 := Lib.hid (OwF.of ho_u2 (Nat.le_refl _))
    clear ho_u2
    unfold Mail.val
    obtain ⟨c54a, c54b, c54c, c54d, c54e, c54f, c54g⟩ := blk3 HB49.out
    go_wp2_with fail
    refine (sameMails_c (takeL xs env) (takeL xs env) u1 u2 _ (RdT.below (HO51.out.rd Mail.enc_len) (balloc _ _)) (RdT.below (HO53.out.rd Mail.enc_len) (balloc _ _))).mono ?_
    rintro e W55 ⟨rfl, hb1⟩
    rw [decide_eq_true (rfl : (takeL xs env) = (takeL xs env))]
    clear c54a c54b c54c c54d c54e c54f c54g
    have HB56 := Lib.hid (bkept hb1 (heap_alloc_new _ _))
    have hk : Below W48.heap.size W48 W55 := (bnext (balloc _ _) hb1)
    have HO57 := Lib.hid (HO50.out.keep (Chg.of_below hk) (.inr (Nat.zero_le _)))
    clear HO50
    have HO58 := Lib.hid (HO51.out.keep (Chg.of_below hk) (.inr (Nat.zero_le _)))
    clear HO51
    have HO59 := Lib.hid (HO53.out.keep (Chg.of_below hk) (.inr (Nat.zero_le _)))
    clear HO53
    have HB60 := Lib.hid (bkept hk HB49.out)
    clear HB49
    have Hb61 := Lib.hid (bnext Hb52.out hk : Below w.heap.size w W55)
    clear Hb52
    clear hk hb1
    cases hv : mailsOk xs
    · have HV := Lib.hid hv
      clear hv
      go_wp2_with fail
      refine (specMailsValid_c xs u0 _ (HO57.out.rd Mail.enc_len)).mono ?_
      rintro e W62 ⟨rfl, hb1⟩
      rw [HV.out]
      have hk : Below W55.heap.size W55 W62 := hb1
      have HO63 := Lib.hid (HO57.out.keep (Chg.of_below hk) (.inr (Nat.zero_le _)))
      clear HO57
      have HO64 := Lib.hid (HO58.out.keep (Chg.of_below hk) (.inr (Nat.zero_le _)))
      clear HO58
      have HO65 := Lib.hid (HO59.out.keep (Chg.of_below hk) (.inr (Nat.zero_le _)))
      clear HO59
      have HB66 := Lib.hid (bkept hk HB60.out)
      clear HB60
      have HB67 := Lib.hid (bkept hk HB56.out)
      clear HB56
      have Hb68 := Lib.hid (bnext Hb61.out hk : Below w.heap.size w W62)
      clear Hb61
      clear hk hb1
      obtain ⟨c69a, c69b, c69c, c69d, c69e, c69f, c69g⟩ := blk3 HB66.out
      obtain ⟨c70a, c70b, c70c, c70d, c70e, c70f, c70g⟩ := blk3 HB67.out
      go_wp2_with fail
      refine (sameMails_c (takeL xs env) (takeL xs env) u1 u2 _ (HO64.out.rd Mail.enc_len) (HO65.out.rd Mail.enc_len)).mono ?_
      rintro e W71 ⟨rfl, hb1⟩
      rw [decide_eq_true (rfl : (takeL xs env) = (takeL xs env))]
      clear c69a c69b c69c c69d c69e c69f c69g c70a c70b c70c c70d c70e c70f c70g
      have hk : Below W62.heap.size W62 W71 := hb1
      have HO72 := Lib.hid (HO63.out.keep (Chg.of_below hk) (.inr (Nat.zero_le _)))
      clear HO63
      have HO73 := Lib.hid (HO64.out.keep (Chg.of_below hk) (.inr (Nat.zero_le _)))
      clear HO64
      have HO74 := Lib.hid (HO65.out.keep (Chg.of_below hk) (.inr (Nat.zero_le _)))
      clear HO65
      have HB75 := Lib.hid (bkept hk HB66.out)
      clear HB66
      have HB76 := Lib.hid (bkept hk HB67.out)
      clear HB67
      have Hb77 := Lib.hid (bnext Hb68.out hk : Below w.heap.size w W71)
      clear Hb68
      clear hk hb1
      go_wp2
      go_ret
      exact ⟨rfl, Hb77.out⟩
    · have HV := Lib.hid hv
      have hcn : (0 : Int) < (cntW xs env 3 : Int) := by have := (cntW_pos hv).2 HBk.out; omega
      clear hv
      go_wp2_with fail
      refine (specMailsValid_c xs u0 _ (HO57.out.rd Mail.enc_len)).mono ?_
      rintro e W78 ⟨rfl, hb1⟩
      rw [HV.out]
      have hk : Below W55.heap.size W55 W78 := hb1
      have HO79 := Lib.hid (HO57.out.keep (Chg.of_below hk) (.inr (Nat.zero_le _)))
      clear HO57
      have HO80 := Lib.hid (HO58.out.keep (Chg.of_below hk) (.inr (Nat.zero_le _)))
      clear HO58
      have HO81 := Lib.hid (HO59.out.keep (Chg.of_below hk) (.inr (Nat.zero_le _)))
      clear HO59
      have HB82 := Lib.hid (bkept hk HB60.out)
      clear HB60
      have HB83 := Lib.hid (bkept hk HB56.out)
      clear HB56
      have Hb84 := Lib.hid (bnext Hb61.out hk : Below w.heap.size w W78)
      clear Hb61
      clear hk hb1
      have R0 := Lib.hid (HO79.out.rd Mail.enc_len)
      have R1 := Lib.hid (HO80.out.rd Mail.enc_len)
      have HCN := Lib.hid hcn
      clear hcn
      go_wp2
      go_loopw [11, 12] (fun n i wr => ∃ k : Nat, k ≤ 3 ∧ i = .int .i64 k ∧ n = .int .i64 (cntW xs env k) ∧ Below W78.heap.size W78 wr) (fun _ i _ => 3 - (intOf i).toNat)
      case atStart => exact ⟨0, Nat.zero_le _, rfl, rfl, bref _⟩
      case round =>
        obtain ⟨k, hk, rfl, rfl, hbr⟩ := hrel
        have hcb := cntW_le xs env k
        have hcb2 : k * xs.length ≤ 30 := Nat.le_trans (Nat.mul_le_mul hk hxl) (by decide)
        by_cases hlt : k < 3
        · go_wp2_with fail
          refine (implMailWords_c xs (k : Int) env _ _ (R0.out.below hbr)).mono ?_
          rintro e w3 ⟨u3, rfl, ho3, hb3⟩
          have hb3' := bnext hbr hb3
          obtain ⟨a3, c3, hv3, p1, p2, -, -⟩ := ho3.rd encI_len
          subst hv3
          have hwl := mailWords_le xs (k : Int) env
          have hcs : ((cntW xs env k : Nat) : Int) + ((mailWords xs (k : Int) env).length : Int) = ((cntW xs env (k + 1) : Nat) : Int) := by simp [cntW]
          have HCS := Lib.hid hcs
          clear hcs ho3 hb3
          unfold maxLen at p2
          go_wp2
          go_roundw
          case rel => exact ⟨k + 1, by omega, by go_num, by rw [HCS.out], hb3'⟩
          case measure => simp [intOf]; omega
        · obtain rfl : k = 3 := by omega
          have hcn := HCN.out
      
          go_wp2
          go_ret
          exact ⟨rfl, bnext Hb84.out hbr⟩

set_option maxRecDepth 100000 in
theorem fnMailNone_l (os : Os) (started : os.Started) (H : Type) (enc : TypeId × Value → H) :
    ReturnsInHanded {} Try.checked os 13 .any (Rows.fnMailNoneSpec.pre6 enc Try.prog Try.f13 Rows.fnMailNoneRow.domain false) (Rows.fnMailNoneSpec.post enc Try.prog Try.f13 false true false false) := by
  refine returnsInHanded_of_change (C := Try.checked) own started (by kernel_rfl) Try.func13
    (ChangeSpec.witness6 (enc := enc) (C := Try.checked) false ⟨#[], #[.slice none 0 0], []⟩ 8 (by kernel_rfl) (by kernel_rfl) (by kernel_rfl) (by kernel_rfl)) ?_
  intro W base args ds gs before hval0 hW _ _
  have hval : ∀ (j : Nat) t v, Try.f13.params[j]? = some t → args[j]? = some v → Value.okWide Try.prog W .any base t v := hval0
  have hW' := hW
  obtain ⟨p, q, hA0, hV, rfl, _, _⟩ := hW
  have hA : DataW.TrodAll enc Try.prog W 0 (fun _ => true) true Try.f13.params.toList args.toList ds p := hA0
  rw [Try.params13] at hA hval
  obtain ⟨v0, vs0, d0, ds0, p0, q0, hargs, rfl, rfl, h0, r0⟩ := trodAll_cons hA
  obtain ⟨rfl, rfl, rfl⟩ := trodAll_nil r0
  obtain rfl : args = #[v0] := by cases args; simp_all
  obtain ⟨rfl, rfl⟩ := trodVars_none hV
  clear hA0 hval0
  simp only [List.append_nil] at hW'
  have hl0 : ∀ x ∈ p0, x.block < W.heap.size := fun x hx => by simpa using hW'.lt x (by simp [hx])
  obtain ⟨x0, hx0, hg0⟩ := openBytes (hval 0 24 v0 rfl rfl) h0
  refine (fnMailNone_w x0 v0 W hx0 hg0).mono fun e W' ⟨he, hb⟩ => ?_
  subst he
  refine ⟨_, rfl, _, _, _, [], p0, [], hW', trodAll_cons_mk (shut_bool Try.underlying4 _) trodAll_mk0, ?_, rfl, hb.frame _, fun h => by cases h⟩
  have hk := trodAll_cons_mk (Below.trod laidOut (by kernel_rfl) (of_decide_eq_true (by kernel_rfl)) h0 hb hl0) (trodAll_mk0)
  simp only [List.append_nil] at hk
  exact hk

theorem fnMailNone_holds : Rows.FnMailNoneSaid :=
  OpenClaim.holds_of_wide 13 Try.f13 rfl rfl rfl rfl rfl rfl rfl ⟨rfl, rfl, rfl, rfl, rfl⟩ rfl rfl rfl rfl rfl (by kernel_rfl) Try.func13 (by kernel_rfl)
    (of_decide_eq_true (by kernel_rfl)) (by unfold Func.isWrapper; first | (rw [if_pos (by decide +kernel)]; kernel_rfl) | (rw [if_neg (by decide +kernel)]; exact ⟨rfl, rfl⟩))
    (fun os started H enc _ => fnMailNone_l os started H enc)

end Go.Proofs.Ytkpdjnfgmgnjdaa
