/- FnMailFull returns true for every code. No conditions. -/
import Derived.Test.YtkpdjnfgmgnjdaaLawMail
namespace Go.Proofs.Ytkpdjnfgmgnjdaa
open Go.ChangeShapes Go.WideShapes Go.ChangeAt Go.RowKit
set_option linter.all false
attribute [local go_sem ↓] Go.wp_at_zero Go.wp_at_succ

set_option maxHeartbeats 8000000 in
theorem fnMailFull_w (bs : List Int) (v : Value) (w : World) (hx : RdB w v bs) (hbs : ∀ b ∈ bs, 0 ≤ b ∧ b ≤ 255) :
    Calls Try.prog 8 #[v] w fun e w' => e = .returned (.bool true) ∧ Below w.heap.size w w' := by
  have hx' := Lib.hid hx
  have HBS := Lib.hid hbs
  clear hbs
  obtain ⟨a, c, rfl, h1, h2, -, -⟩ := hx
  unfold maxLen at h2
  by_cases hl : bs.length ≤ 1048576
  rotate_left
  · go_enter Try.func8, Try.ntmps8
    go_wp2
    go_ret
    exact ⟨rfl, bref _⟩
  go_enter Try.func8, Try.ntmps8
  go_wp2_with fail
  refine (drawMailSend_c bs _ _ hx'.out HBS.out).mono ?_
  rintro e W1 ⟨xs, u0, m, rfl, ho_u0, hxl, hb1⟩
  have hsl := sendL_le xs m
  have hk : Below w.heap.size w W1 := hb1
  have Hb2 := Lib.hid (hk : Below w.heap.size w W1)
  clear hk hb1
  have HU0 := Lib.hid (OwF.of ho_u0 (Nat.le_refl _))
  clear ho_u0
  unfold Mail.val
  have hc : (mailsOk xs = false) ∨ (mailsOk xs = true ∧ m.ok = false) ∨ (mailsOk xs = true ∧ m.ok = true ∧ xs.length < 8) ∨ (mailsOk xs = true ∧ m.ok = true ∧ xs.length = 8) := by
    cases hv : mailsOk xs
    · exact .inl rfl
    · have h8 : xs.length ≤ 8 := by simp [mailsOk] at hv; exact hv.1
      cases ho : m.ok
      · exact .inr (.inl ⟨rfl, rfl⟩)
      · by_cases h : xs.length < 8
        · exact .inr (.inr (.inl ⟨rfl, rfl, h⟩))
        · exact .inr (.inr (.inr ⟨rfl, rfl, by omega⟩))
  rcases hc with hv | ⟨hv, ho⟩ | ⟨hv, ho, h8⟩ | ⟨hv, ho, h8⟩
  · have HV := Lib.hid hv
    have HS := Lib.hid (show sendB xs m = false by simp [sendB, hv])
    clear hv
    go_wp2_with fail
    refine (implMailSend_c xs m u0 _ (RdT.below (HU0.out.rd Mail.enc_len) (balloc _ _))).mono ?_
    rintro e W3 ⟨u1, rfl, ho_u1, hb1⟩
    rw [HS.out]
    have HB4 := Lib.hid (bkept hb1 (heap_alloc_new _ _))
    have hk : Below W1.heap.size W1 W3 := (bnext (balloc _ _) hb1)
    have HO5 := Lib.hid (HU0.out.keep (Chg.of_below hk) (.inr (Nat.zero_le _)))
    clear HU0
    have Hb6 := Lib.hid (bnext Hb2.out hk : Below w.heap.size w W3)
    clear Hb2
    clear hk hb1
    have HO7 := Lib.hid (OwF.of ho_u1 (Nat.le_refl _))
    clear ho_u1
    obtain ⟨c8a, c8b, c8c, c8d, c8e, c8f, c8g⟩ := blk3 HB4.out
    go_wp2_with fail
    refine (specMailSend_c xs m u0 _ (HO5.out.rd Mail.enc_len)).mono ?_
    rintro e W9 ⟨u2, rfl, ho_u2, hb1⟩
    rw [HS.out]
    clear c8a c8b c8c c8d c8e c8f c8g
    have hk : Below W3.heap.size W3 W9 := hb1
    have HO10 := Lib.hid (HO5.out.keep (Chg.of_below hk) (.inr (Nat.zero_le _)))
    clear HO5
    have HO11 := Lib.hid (HO7.out.keep (Chg.of_below hk) (.inr (Nat.zero_le _)))
    clear HO7
    have HB12 := Lib.hid (bkept hk HB4.out)
    clear HB4
    have Hb13 := Lib.hid (bnext Hb6.out hk : Below w.heap.size w W9)
    clear Hb6
    clear hk hb1
    have HO14 := Lib.hid (OwF.of ho_u2 (Nat.le_refl _))
    clear ho_u2
    go_wp2_with fail
    refine (sameMails_c (sendL xs m) (sendL xs m) u1 u2 _ (HO11.out.rd Mail.enc_len) (HO14.out.rd Mail.enc_len)).mono ?_
    rintro e W15 ⟨rfl, hb1⟩
    rw [decide_eq_true (rfl : sendL xs m = sendL xs m)]
    have hk : Below W9.heap.size W9 W15 := hb1
    have HO16 := Lib.hid (HO10.out.keep (Chg.of_below hk) (.inr (Nat.zero_le _)))
    clear HO10
    have HO17 := Lib.hid (HO11.out.keep (Chg.of_below hk) (.inr (Nat.zero_le _)))
    clear HO11
    have HO18 := Lib.hid (HO14.out.keep (Chg.of_below hk) (.inr (Nat.zero_le _)))
    clear HO14
    have HB19 := Lib.hid (bkept hk HB12.out)
    clear HB12
    have Hb20 := Lib.hid (bnext Hb13.out hk : Below w.heap.size w W15)
    clear Hb13
    clear hk hb1
    go_wp2_with fail
    refine (specMailsValid_c xs u0 _ (HO16.out.rd Mail.enc_len)).mono ?_
    rintro e W21 ⟨rfl, hb1⟩
    rw [HV.out]
    have hk : Below W15.heap.size W15 W21 := hb1
    have HO22 := Lib.hid (HO16.out.keep (Chg.of_below hk) (.inr (Nat.zero_le _)))
    clear HO16
    have HO23 := Lib.hid (HO17.out.keep (Chg.of_below hk) (.inr (Nat.zero_le _)))
    clear HO17
    have HO24 := Lib.hid (HO18.out.keep (Chg.of_below hk) (.inr (Nat.zero_le _)))
    clear HO18
    have HB25 := Lib.hid (bkept hk HB19.out)
    clear HB19
    have Hb26 := Lib.hid (bnext Hb20.out hk : Below w.heap.size w W21)
    clear Hb20
    clear hk hb1
    go_wp2_with fail
    refine (sameMails_c (sendL xs m) (sendL xs m) u1 u2 _ (HO23.out.rd Mail.enc_len) (HO24.out.rd Mail.enc_len)).mono ?_
    rintro e W27 ⟨rfl, hb1⟩
    rw [decide_eq_true (rfl : sendL xs m = sendL xs m)]
    have hk : Below W21.heap.size W21 W27 := hb1
    have HO28 := Lib.hid (HO22.out.keep (Chg.of_below hk) (.inr (Nat.zero_le _)))
    clear HO22
    have HO29 := Lib.hid (HO23.out.keep (Chg.of_below hk) (.inr (Nat.zero_le _)))
    clear HO23
    have HO30 := Lib.hid (HO24.out.keep (Chg.of_below hk) (.inr (Nat.zero_le _)))
    clear HO24
    have HB31 := Lib.hid (bkept hk HB25.out)
    clear HB25
    have Hb32 := Lib.hid (bnext Hb26.out hk : Below w.heap.size w W27)
    clear Hb26
    clear hk hb1
    go_wp2
    go_ret
    exact ⟨rfl, Hb32.out⟩
  · have HV := Lib.hid hv
    have HO := Lib.hid ho
    have HM := Lib.hid (show mailsOk [m] = m.ok by cases h : m.ok <;> simp [mailsOk, h])
    have HS := Lib.hid (show sendB xs m = false by simp [sendB, ho])
    clear hv ho
    go_wp2_with fail
    refine (implMailSend_c xs m u0 _ (RdT.below (HU0.out.rd Mail.enc_len) (balloc _ _))).mono ?_
    rintro e W33 ⟨u1, rfl, ho_u1, hb1⟩
    rw [HS.out]
    have HB34 := Lib.hid (bkept hb1 (heap_alloc_new _ _))
    have hk : Below W1.heap.size W1 W33 := (bnext (balloc _ _) hb1)
    have HO35 := Lib.hid (HU0.out.keep (Chg.of_below hk) (.inr (Nat.zero_le _)))
    clear HU0
    have Hb36 := Lib.hid (bnext Hb2.out hk : Below w.heap.size w W33)
    clear Hb2
    clear hk hb1
    have HO37 := Lib.hid (OwF.of ho_u1 (Nat.le_refl _))
    clear ho_u1
    obtain ⟨c38a, c38b, c38c, c38d, c38e, c38f, c38g⟩ := blk3 HB34.out
    go_wp2_with fail
    refine (specMailSend_c xs m u0 _ (HO35.out.rd Mail.enc_len)).mono ?_
    rintro e W39 ⟨u2, rfl, ho_u2, hb1⟩
    rw [HS.out]
    clear c38a c38b c38c c38d c38e c38f c38g
    have hk : Below W33.heap.size W33 W39 := hb1
    have HO40 := Lib.hid (HO35.out.keep (Chg.of_below hk) (.inr (Nat.zero_le _)))
    clear HO35
    have HO41 := Lib.hid (HO37.out.keep (Chg.of_below hk) (.inr (Nat.zero_le _)))
    clear HO37
    have HB42 := Lib.hid (bkept hk HB34.out)
    clear HB34
    have Hb43 := Lib.hid (bnext Hb36.out hk : Below w.heap.size w W39)
    clear Hb36
    clear hk hb1
    have HO44 := Lib.hid (OwF.of ho_u2 (Nat.le_refl _))
    clear ho_u2
    go_wp2_with fail
    refine (sameMails_c (sendL xs m) (sendL xs m) u1 u2 _ (HO41.out.rd Mail.enc_len) (HO44.out.rd Mail.enc_len)).mono ?_
    rintro e W45 ⟨rfl, hb1⟩
    rw [decide_eq_true (rfl : sendL xs m = sendL xs m)]
    have hk : Below W39.heap.size W39 W45 := hb1
    have HO46 := Lib.hid (HO40.out.keep (Chg.of_below hk) (.inr (Nat.zero_le _)))
    clear HO40
    have HO47 := Lib.hid (HO41.out.keep (Chg.of_below hk) (.inr (Nat.zero_le _)))
    clear HO41
    have HO48 := Lib.hid (HO44.out.keep (Chg.of_below hk) (.inr (Nat.zero_le _)))
    clear HO44
    have HB49 := Lib.hid (bkept hk HB42.out)
    clear HB42
    have Hb50 := Lib.hid (bnext Hb43.out hk : Below w.heap.size w W45)
    clear Hb43
    clear hk hb1
    go_wp2_with fail
    refine (specMailsValid_c xs u0 _ (HO46.out.rd Mail.enc_len)).mono ?_
    rintro e W51 ⟨rfl, hb1⟩
    rw [HV.out]
    have hk : Below W45.heap.size W45 W51 := hb1
    have HO52 := Lib.hid (HO46.out.keep (Chg.of_below hk) (.inr (Nat.zero_le _)))
    clear HO46
    have HO53 := Lib.hid (HO47.out.keep (Chg.of_below hk) (.inr (Nat.zero_le _)))
    clear HO47
    have HO54 := Lib.hid (HO48.out.keep (Chg.of_below hk) (.inr (Nat.zero_le _)))
    clear HO48
    have HB55 := Lib.hid (bkept hk HB49.out)
    clear HB49
    have Hb56 := Lib.hid (bnext Hb50.out hk : Below w.heap.size w W51)
    clear Hb50
    clear hk hb1
    obtain ⟨c57a, c57b, c57c, c57d, c57e, c57f, c57g⟩ := blk3 HB55.out
    go_wp2_with fail
    refine (specMailsValid_c [m] _ _ (RdT.of_block Mail.enc_len (xs := [m]) (heap_alloc_new _ _) rfl (by simp))).mono ?_
    rintro e W58 ⟨rfl, hb1⟩
    rw [HM.out]
    rw [HO.out]
    clear c57a c57b c57c c57d c57e c57f c57g
    have HB59 := Lib.hid (bkept hb1 (heap_alloc_new _ _))
    have hk : Below W51.heap.size W51 W58 := (bnext (balloc _ _) hb1)
    have HO60 := Lib.hid (HO52.out.keep (Chg.of_below hk) (.inr (Nat.zero_le _)))
    clear HO52
    have HO61 := Lib.hid (HO53.out.keep (Chg.of_below hk) (.inr (Nat.zero_le _)))
    clear HO53
    have HO62 := Lib.hid (HO54.out.keep (Chg.of_below hk) (.inr (Nat.zero_le _)))
    clear HO54
    have HB63 := Lib.hid (bkept hk HB55.out)
    clear HB55
    have Hb64 := Lib.hid (bnext Hb56.out hk : Below w.heap.size w W58)
    clear Hb56
    clear hk hb1
    go_wp2_with fail
    refine (sameMails_c (sendL xs m) (sendL xs m) u1 u2 _ (HO61.out.rd Mail.enc_len) (HO62.out.rd Mail.enc_len)).mono ?_
    rintro e W65 ⟨rfl, hb1⟩
    rw [decide_eq_true (rfl : sendL xs m = sendL xs m)]
    have hk : Below W58.heap.size W58 W65 := hb1
    have HO66 := Lib.hid (HO60.out.keep (Chg.of_below hk) (.inr (Nat.zero_le _)))
    clear HO60
    have HO67 := Lib.hid (HO61.out.keep (Chg.of_below hk) (.inr (Nat.zero_le _)))
    clear HO61
    have HO68 := Lib.hid (HO62.out.keep (Chg.of_below hk) (.inr (Nat.zero_le _)))
    clear HO62
    have HB69 := Lib.hid (bkept hk HB63.out)
    clear HB63
    have HB70 := Lib.hid (bkept hk HB59.out)
    clear HB59
    have Hb71 := Lib.hid (bnext Hb64.out hk : Below w.heap.size w W65)
    clear Hb64
    clear hk hb1
    go_wp2
    go_ret
    exact ⟨rfl, Hb71.out⟩
  · have HV := Lib.hid hv
    have HO := Lib.hid ho
    have HM := Lib.hid (show mailsOk [m] = m.ok by cases h : m.ok <;> simp [mailsOk, h])
    have HS := Lib.hid (show sendB xs m = true by simp [sendB, hv, ho]; omega)
    clear hv ho
    obtain ⟨a0, c0, hv0, -, s4, -, -⟩ := HU0.out.rd Mail.enc_len
    subst hv0
    unfold maxLen at s4
    go_wp2_with fail
    refine (implMailSend_c xs m _ _ (RdT.below (HU0.out.rd Mail.enc_len) (balloc _ _))).mono ?_
    rintro e W72 ⟨u1, rfl, ho_u1, hb1⟩
    rw [HS.out]
    have HB73 := Lib.hid (bkept hb1 (heap_alloc_new _ _))
    have hk : Below W1.heap.size W1 W72 := (bnext (balloc _ _) hb1)
    have HO74 := Lib.hid (HU0.out.keep (Chg.of_below hk) (.inr (Nat.zero_le _)))
    clear HU0
    have Hb75 := Lib.hid (bnext Hb2.out hk : Below w.heap.size w W72)
    clear Hb2
    clear hk hb1
    have HO76 := Lib.hid (OwF.of ho_u1 (Nat.le_refl _))
    clear ho_u1
    obtain ⟨c77a, c77b, c77c, c77d, c77e, c77f, c77g⟩ := blk3 HB73.out
    go_wp2_with fail
    refine (specMailSend_c xs m _ _ (HO74.out.rd Mail.enc_len)).mono ?_
    rintro e W78 ⟨u2, rfl, ho_u2, hb1⟩
    rw [HS.out]
    clear c77a c77b c77c c77d c77e c77f c77g
    have hk : Below W72.heap.size W72 W78 := hb1
    have HO79 := Lib.hid (HO74.out.keep (Chg.of_below hk) (.inr (Nat.zero_le _)))
    clear HO74
    have HO80 := Lib.hid (HO76.out.keep (Chg.of_below hk) (.inr (Nat.zero_le _)))
    clear HO76
    have HB81 := Lib.hid (bkept hk HB73.out)
    clear HB73
    have Hb82 := Lib.hid (bnext Hb75.out hk : Below w.heap.size w W78)
    clear Hb75
    clear hk hb1
    have HO83 := Lib.hid (OwF.of ho_u2 (Nat.le_refl _))
    clear ho_u2
    go_wp2_with fail
    refine (sameMails_c (sendL xs m) (sendL xs m) u1 u2 _ (HO80.out.rd Mail.enc_len) (HO83.out.rd Mail.enc_len)).mono ?_
    rintro e W84 ⟨rfl, hb1⟩
    rw [decide_eq_true (rfl : sendL xs m = sendL xs m)]
    have hk : Below W78.heap.size W78 W84 := hb1
    have HO85 := Lib.hid (HO79.out.keep (Chg.of_below hk) (.inr (Nat.zero_le _)))
    clear HO79
    have HO86 := Lib.hid (HO80.out.keep (Chg.of_below hk) (.inr (Nat.zero_le _)))
    clear HO80
    have HO87 := Lib.hid (HO83.out.keep (Chg.of_below hk) (.inr (Nat.zero_le _)))
    clear HO83
    have HB88 := Lib.hid (bkept hk HB81.out)
    clear HB81
    have Hb89 := Lib.hid (bnext Hb82.out hk : Below w.heap.size w W84)
    clear Hb82
    clear hk hb1
    go_wp2_with fail
    refine (specMailsValid_c xs _ _ (HO85.out.rd Mail.enc_len)).mono ?_
    rintro e W90 ⟨rfl, hb1⟩
    rw [HV.out]
    have hk : Below W84.heap.size W84 W90 := hb1
    have HO91 := Lib.hid (HO85.out.keep (Chg.of_below hk) (.inr (Nat.zero_le _)))
    clear HO85
    have HO92 := Lib.hid (HO86.out.keep (Chg.of_below hk) (.inr (Nat.zero_le _)))
    clear HO86
    have HO93 := Lib.hid (HO87.out.keep (Chg.of_below hk) (.inr (Nat.zero_le _)))
    clear HO87
    have HB94 := Lib.hid (bkept hk HB88.out)
    clear HB88
    have Hb95 := Lib.hid (bnext Hb89.out hk : Below w.heap.size w W90)
    clear Hb89
    clear hk hb1
    obtain ⟨c96a, c96b, c96c, c96d, c96e, c96f, c96g⟩ := blk3 HB94.out
    go_wp2_with fail
    refine (specMailsValid_c [m] _ _ (RdT.of_block Mail.enc_len (xs := [m]) (heap_alloc_new _ _) rfl (by simp))).mono ?_
    rintro e W97 ⟨rfl, hb1⟩
    rw [HM.out]
    rw [HO.out]
    clear c96a c96b c96c c96d c96e c96f c96g
    have HB98 := Lib.hid (bkept hb1 (heap_alloc_new _ _))
    have hk : Below W90.heap.size W90 W97 := (bnext (balloc _ _) hb1)
    have HO99 := Lib.hid (HO91.out.keep (Chg.of_below hk) (.inr (Nat.zero_le _)))
    clear HO91
    have HO100 := Lib.hid (HO92.out.keep (Chg.of_below hk) (.inr (Nat.zero_le _)))
    clear HO92
    have HO101 := Lib.hid (HO93.out.keep (Chg.of_below hk) (.inr (Nat.zero_le _)))
    clear HO93
    have HB102 := Lib.hid (bkept hk HB94.out)
    clear HB94
    have Hb103 := Lib.hid (bnext Hb95.out hk : Below w.heap.size w W97)
    clear Hb95
    clear hk hb1
    go_wp2
    go_ret
    exact ⟨rfl, Hb103.out⟩
  · have HV := Lib.hid hv
    have HO := Lib.hid ho
    have HM := Lib.hid (show mailsOk [m] = m.ok by cases h : m.ok <;> simp [mailsOk, h])
    have HS := Lib.hid (show sendB xs m = false by simp [sendB, h8])
    have HL := Lib.hid (show sendL xs m = xs by simp [sendL, hv, ho, h8])
    have h8g : 8 ≤ xs.length := by omega
    clear h8
    clear hv ho
    obtain ⟨a0, c0, hv0, -, s4, -, -⟩ := HU0.out.rd Mail.enc_len
    subst hv0
    unfold maxLen at s4
    go_wp2_with fail
    refine (implMailSend_c xs m _ _ (RdT.below (HU0.out.rd Mail.enc_len) (balloc _ _))).mono ?_
    rintro e W104 ⟨u1, rfl, ho_u1, hb1⟩
    rw [HS.out]
    have HB105 := Lib.hid (bkept hb1 (heap_alloc_new _ _))
    have hk : Below W1.heap.size W1 W104 := (bnext (balloc _ _) hb1)
    have HO106 := Lib.hid (HU0.out.keep (Chg.of_below hk) (.inr (Nat.zero_le _)))
    clear HU0
    have Hb107 := Lib.hid (bnext Hb2.out hk : Below w.heap.size w W104)
    clear Hb2
    clear hk hb1
    have HO108 := Lib.hid (OwF.of ho_u1 (Nat.le_refl _))
    clear ho_u1
    obtain ⟨c109a, c109b, c109c, c109d, c109e, c109f, c109g⟩ := blk3 HB105.out
    go_wp2_with fail
    refine (specMailSend_c xs m _ _ (HO106.out.rd Mail.enc_len)).mono ?_
    rintro e W110 ⟨u2, rfl, ho_u2, hb1⟩
    rw [HS.out]
    clear c109a c109b c109c c109d c109e c109f c109g
    have hk : Below W104.heap.size W104 W110 := hb1
    have HO111 := Lib.hid (HO106.out.keep (Chg.of_below hk) (.inr (Nat.zero_le _)))
    clear HO106
    have HO112 := Lib.hid (HO108.out.keep (Chg.of_below hk) (.inr (Nat.zero_le _)))
    clear HO108
    have HB113 := Lib.hid (bkept hk HB105.out)
    clear HB105
    have Hb114 := Lib.hid (bnext Hb107.out hk : Below w.heap.size w W110)
    clear Hb107
    clear hk hb1
    have HO115 := Lib.hid (OwF.of ho_u2 (Nat.le_refl _))
    clear ho_u2
    go_wp2_with fail
    refine (sameMails_c (sendL xs m) (sendL xs m) u1 u2 _ (HO112.out.rd Mail.enc_len) (HO115.out.rd Mail.enc_len)).mono ?_
    rintro e W116 ⟨rfl, hb1⟩
    rw [decide_eq_true (rfl : sendL xs m = sendL xs m)]
    have hk : Below W110.heap.size W110 W116 := hb1
    have HO117 := Lib.hid (HO111.out.keep (Chg.of_below hk) (.inr (Nat.zero_le _)))
    clear HO111
    have HO118 := Lib.hid (HO112.out.keep (Chg.of_below hk) (.inr (Nat.zero_le _)))
    clear HO112
    have HO119 := Lib.hid (HO115.out.keep (Chg.of_below hk) (.inr (Nat.zero_le _)))
    clear HO115
    have HB120 := Lib.hid (bkept hk HB113.out)
    clear HB113
    have Hb121 := Lib.hid (bnext Hb114.out hk : Below w.heap.size w W116)
    clear Hb114
    clear hk hb1
    go_wp2_with fail
    refine (specMailsValid_c xs _ _ (HO117.out.rd Mail.enc_len)).mono ?_
    rintro e W122 ⟨rfl, hb1⟩
    rw [HV.out]
    have hk : Below W116.heap.size W116 W122 := hb1
    have HO123 := Lib.hid (HO117.out.keep (Chg.of_below hk) (.inr (Nat.zero_le _)))
    clear HO117
    have HO124 := Lib.hid (HO118.out.keep (Chg.of_below hk) (.inr (Nat.zero_le _)))
    clear HO118
    have HO125 := Lib.hid (HO119.out.keep (Chg.of_below hk) (.inr (Nat.zero_le _)))
    clear HO119
    have HB126 := Lib.hid (bkept hk HB120.out)
    clear HB120
    have Hb127 := Lib.hid (bnext Hb121.out hk : Below w.heap.size w W122)
    clear Hb121
    clear hk hb1
    obtain ⟨c128a, c128b, c128c, c128d, c128e, c128f, c128g⟩ := blk3 HB126.out
    go_wp2_with fail
    refine (specMailsValid_c [m] _ _ (RdT.of_block Mail.enc_len (xs := [m]) (heap_alloc_new _ _) rfl (by simp))).mono ?_
    rintro e W129 ⟨rfl, hb1⟩
    rw [HM.out]
    rw [HO.out]
    clear c128a c128b c128c c128d c128e c128f c128g
    have HB130 := Lib.hid (bkept hb1 (heap_alloc_new _ _))
    have hk : Below W122.heap.size W122 W129 := (bnext (balloc _ _) hb1)
    have HO131 := Lib.hid (HO123.out.keep (Chg.of_below hk) (.inr (Nat.zero_le _)))
    clear HO123
    have HO132 := Lib.hid (HO124.out.keep (Chg.of_below hk) (.inr (Nat.zero_le _)))
    clear HO124
    have HO133 := Lib.hid (HO125.out.keep (Chg.of_below hk) (.inr (Nat.zero_le _)))
    clear HO125
    have HB134 := Lib.hid (bkept hk HB126.out)
    clear HB126
    have Hb135 := Lib.hid (bnext Hb127.out hk : Below w.heap.size w W129)
    clear Hb127
    clear hk hb1
    go_wp2_with fail
    refine (sameMails_c xs xs u1 _ _ (by rw [← HL.out]; rw [HL.out]; have := HO132.out.rd Mail.enc_len; rw [HL.out] at this; exact this) (HO131.out.rd Mail.enc_len)).mono ?_
    rintro e W136 ⟨rfl, hb1⟩
    rw [decide_eq_true (rfl : xs = xs)]
    have hk : Below W129.heap.size W129 W136 := hb1
    have HO137 := Lib.hid (HO131.out.keep (Chg.of_below hk) (.inr (Nat.zero_le _)))
    clear HO131
    have HO138 := Lib.hid (HO132.out.keep (Chg.of_below hk) (.inr (Nat.zero_le _)))
    clear HO132
    have HO139 := Lib.hid (HO133.out.keep (Chg.of_below hk) (.inr (Nat.zero_le _)))
    clear HO133
    have HB140 := Lib.hid (bkept hk HB134.out)
    clear HB134
    have HB141 := Lib.hid (bkept hk HB130.out)
    clear HB130
    have Hb142 := Lib.hid (bnext Hb135.out hk : Below w.heap.size w W136)
    clear Hb135
    clear hk hb1
    go_wp2
    go_ret
    exact ⟨ret_bool (by simp; omega), Hb142.out⟩

set_option maxRecDepth 100000 in
theorem fnMailFull_l (os : Os) (started : os.Started) (H : Type) (enc : TypeId × Value → H) :
    ReturnsInHanded {} Try.checked os 8 .any (Rows.fnMailFullSpec.pre6 enc Try.prog Try.f8 Rows.fnMailFullRow.domain false) (Rows.fnMailFullSpec.post enc Try.prog Try.f8 false true false false) := by
  refine returnsInHanded_of_change (C := Try.checked) own started (by kernel_rfl) Try.func8
    (ChangeSpec.witness6 (enc := enc) (C := Try.checked) false ⟨#[], #[.slice none 0 0], []⟩ 8 (by kernel_rfl) (by kernel_rfl) (by kernel_rfl) (by kernel_rfl)) ?_
  intro W base args ds gs before hval0 hW _ _
  have hval : ∀ (j : Nat) t v, Try.f8.params[j]? = some t → args[j]? = some v → Value.okWide Try.prog W .any base t v := hval0
  have hW' := hW
  obtain ⟨p, q, hA0, hV, rfl, _, _⟩ := hW
  have hA : DataW.TrodAll enc Try.prog W 0 (fun _ => true) true Try.f8.params.toList args.toList ds p := hA0
  rw [Try.params8] at hA hval
  obtain ⟨v0, vs0, d0, ds0, p0, q0, hargs, rfl, rfl, h0, r0⟩ := trodAll_cons hA
  obtain ⟨rfl, rfl, rfl⟩ := trodAll_nil r0
  obtain rfl : args = #[v0] := by cases args; simp_all
  obtain ⟨rfl, rfl⟩ := trodVars_none hV
  clear hA0 hval0
  simp only [List.append_nil] at hW'
  have hl0 : ∀ x ∈ p0, x.block < W.heap.size := fun x hx => by simpa using hW'.lt x (by simp [hx])
  obtain ⟨x0, hx0, hg0⟩ := openBytes (hval 0 24 v0 rfl rfl) h0
  refine (fnMailFull_w x0 v0 W hx0 hg0).mono fun e W' ⟨he, hb⟩ => ?_
  subst he
  refine ⟨_, rfl, _, _, _, [], p0, [], hW', trodAll_cons_mk (shut_bool Try.underlying4 _) trodAll_mk0, ?_, rfl, hb.frame _, fun h => by cases h⟩
  have hk := trodAll_cons_mk (Below.trod laidOut (by kernel_rfl) (of_decide_eq_true (by kernel_rfl)) h0 hb hl0) (trodAll_mk0)
  simp only [List.append_nil] at hk
  exact hk

theorem fnMailFull_holds : Rows.FnMailFullSaid :=
  OpenClaim.holds_of_wide 8 Try.f8 rfl rfl rfl rfl rfl rfl rfl ⟨rfl, rfl, rfl, rfl, rfl⟩ rfl rfl rfl rfl rfl (by kernel_rfl) Try.func8 (by kernel_rfl)
    (of_decide_eq_true (by kernel_rfl)) (by unfold Func.isWrapper; first | (rw [if_pos (by decide +kernel)]; kernel_rfl) | (rw [if_neg (by decide +kernel)]; exact ⟨rfl, rfl⟩))
    (fun os started H enc _ => fnMailFull_l os started H enc)

end Go.Proofs.Ytkpdjnfgmgnjdaa
