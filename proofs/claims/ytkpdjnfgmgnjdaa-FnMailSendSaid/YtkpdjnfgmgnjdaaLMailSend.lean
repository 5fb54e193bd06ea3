/- FnMailSend returns true for every code. No conditions. -/
import Derived.Test.YtkpdjnfgmgnjdaaLawMail
namespace Go.Proofs.Ytkpdjnfgmgnjdaa
open Go.ChangeShapes Go.WideShapes Go.ChangeAt Go.RowKit
set_option linter.all false
attribute [local go_sem ↓] Go.wp_at_zero Go.wp_at_succ

set_option maxHeartbeats 8000000 in
theorem fnMailSend_w (bs : List Int) (v : Value) (w : World) (hx : RdB w v bs) (hbs : ∀ b ∈ bs, 0 ≤ b ∧ b ≤ 255) :
    Calls Try.prog 9 #[v] w fun e w' => e = .returned (.bool true) ∧ Below w.heap.size w w' := by
  have hx' := Lib.hid hx
  have HBS := Lib.hid hbs
  clear hbs
  obtain ⟨a, c, rfl, h1, h2, -, -⟩ := hx
  unfold maxLen at h2
  by_cases hl : bs.length ≤ 1048576
  rotate_left
  · go_enter Try.func9, Try.ntmps9
    go_wp2
    go_ret
    exact ⟨rfl, bref _⟩
  go_enter Try.func9, Try.ntmps9
  go_wp2_with fail
  refine (drawMailSend_c bs _ _ hx'.out HBS.out).mono ?_
  rintro e W143 ⟨xs, u0, m, rfl, ho_u0, hxl, hb1⟩
  have hsl := sendL_le xs m
  have hk : Below w.heap.size w W143 := hb1
  have Hb144 := Lib.hid (hk : Below w.heap.size w W143)
  clear hk hb1
  have HU0 := Lib.hid (OwF.of ho_u0 (Nat.le_refl _))
  clear ho_u0
  unfold Mail.val
  cases hB : sendB xs m
  · have HS := Lib.hid hB
    clear hB
    go_wp2_with fail
    refine (implMailSend_c xs m u0 _ (RdT.below (HU0.out.rd Mail.enc_len) (balloc _ _))).mono ?_
    rintro e W145 ⟨u1, rfl, ho_u1, hb1⟩
    rw [HS.out]
    have HB146 := Lib.hid (bkept hb1 (heap_alloc_new _ _))
    have hk : Below W143.heap.size W143 W145 := (bnext (balloc _ _) hb1)
    have HO147 := Lib.hid (HU0.out.keep (Chg.of_below hk) (.inr (Nat.zero_le _)))
    clear HU0
    have Hb148 := Lib.hid (bnext Hb144.out hk : Below w.heap.size w W145)
    clear Hb144
    clear hk hb1
    have HO149 := Lib.hid (OwF.of ho_u1 (Nat.le_refl _))
    clear ho_u1
    obtain ⟨c150a, c150b, c150c, c150d, c150e, c150f, c150g⟩ := blk3 HB146.out
    go_wp2_with fail
    refine (specMailSend_c xs m u0 _ (HO147.out.rd Mail.enc_len)).mono ?_
    rintro e W151 ⟨u2, rfl, ho_u2, hb1⟩
    rw [HS.out]
    clear c150a c150b c150c c150d c150e c150f c150g
    have hk : Below W145.heap.size W145 W151 := hb1
    have HO152 := Lib.hid (HO147.out.keep (Chg.of_below hk) (.inr (Nat.zero_le _)))
    clear HO147
    have HO153 := Lib.hid (HO149.out.keep (Chg.of_below hk) (.inr (Nat.zero_le _)))
    clear HO149
    have HB154 := Lib.hid (bkept hk HB146.out)
    clear HB146
    have Hb155 := Lib.hid (bnext Hb148.out hk : Below w.heap.size w W151)
    clear Hb148
    clear hk hb1
    have HO156 := Lib.hid (OwF.of ho_u2 (Nat.le_refl _))
    clear ho_u2
    go_wp2_with fail
    refine (sameMails_c (sendL xs m) (sendL xs m) u1 u2 _ (HO153.out.rd Mail.enc_len) (HO156.out.rd Mail.enc_len)).mono ?_
    rintro e W157 ⟨rfl, hb1⟩
    rw [decide_eq_true (rfl : sendL xs m = sendL xs m)]
    have hk : Below W151.heap.size W151 W157 := hb1
    have HO158 := Lib.hid (HO152.out.keep (Chg.of_below hk) (.inr (Nat.zero_le _)))
    clear HO152
    have HO159 := Lib.hid (HO153.out.keep (Chg.of_below hk) (.inr (Nat.zero_le _)))
    clear HO153
    have HO160 := Lib.hid (HO156.out.keep (Chg.of_below hk) (.inr (Nat.zero_le _)))
    clear HO156
    have HB161 := Lib.hid (bkept hk HB154.out)
    clear HB154
    have Hb162 := Lib.hid (bnext Hb155.out hk : Below w.heap.size w W157)
    clear Hb155
    clear hk hb1
    go_wp2_with fail
    refine (sameMails_c (sendL xs m) (sendL xs m) u1 u2 _ (HO159.out.rd Mail.enc_len) (HO160.out.rd Mail.enc_len)).mono ?_
    rintro e W163 ⟨rfl, hb1⟩
    rw [decide_eq_true (rfl : sendL xs m = sendL xs m)]
    have hk : Below W157.heap.size W157 W163 := hb1
    have HO164 := Lib.hid (HO158.out.keep (Chg.of_below hk) (.inr (Nat.zero_le _)))
    clear HO158
    have HO165 := Lib.hid (HO159.out.keep (Chg.of_below hk) (.inr (Nat.zero_le _)))
    clear HO159
    have HO166 := Lib.hid (HO160.out.keep (Chg.of_below hk) (.inr (Nat.zero_le _)))
    clear HO160
    have HB167 := Lib.hid (bkept hk HB161.out)
    clear HB161
    have Hb168 := Lib.hid (bnext Hb162.out hk : Below w.heap.size w W163)
    clear Hb162
    clear hk hb1
    go_wp2
    go_ret
    exact ⟨rfl, Hb168.out⟩
  · have HS := Lib.hid hB
    clear hB
    go_wp2_with fail
    refine (implMailSend_c xs m u0 _ (RdT.below (HU0.out.rd Mail.enc_len) (balloc _ _))).mono ?_
    rintro e W169 ⟨u1, rfl, ho_u1, hb1⟩
    rw [HS.out]
    have HB170 := Lib.hid (bkept hb1 (heap_alloc_new _ _))
    have hk : Below W143.heap.size W143 W169 := (bnext (balloc _ _) hb1)
    have HO171 := Lib.hid (HU0.out.keep (Chg.of_below hk) (.inr (Nat.zero_le _)))
    clear HU0
    have Hb172 := Lib.hid (bnext Hb144.out hk : Below w.heap.size w W169)
    clear Hb144
    clear hk hb1
    have HO173 := Lib.hid (OwF.of ho_u1 (Nat.le_refl _))
    clear ho_u1
    obtain ⟨c174a, c174b, c174c, c174d, c174e, c174f, c174g⟩ := blk3 HB170.out
    go_wp2_with fail
    refine (specMailSend_c xs m u0 _ (HO171.out.rd Mail.enc_len)).mono ?_
    rintro e W175 ⟨u2, rfl, ho_u2, hb1⟩
    rw [HS.out]
    clear c174a c174b c174c c174d c174e c174f c174g
    have hk : Below W169.heap.size W169 W175 := hb1
    have HO176 := Lib.hid (HO171.out.keep (Chg.of_below hk) (.inr (Nat.zero_le _)))
    clear HO171
    have HO177 := Lib.hid (HO173.out.keep (Chg.of_below hk) (.inr (Nat.zero_le _)))
    clear HO173
    have HB178 := Lib.hid (bkept hk HB170.out)
    clear HB170
    have Hb179 := Lib.hid (bnext Hb172.out hk : Below w.heap.size w W175)
    clear Hb172
    clear hk hb1
    have HO180 := Lib.hid (OwF.of ho_u2 (Nat.le_refl _))
    clear ho_u2
    go_wp2_with fail
    refine (sameMails_c (sendL xs m) (sendL xs m) u1 u2 _ (HO177.out.rd Mail.enc_len) (HO180.out.rd Mail.enc_len)).mono ?_
    rintro e W181 ⟨rfl, hb1⟩
    rw [decide_eq_true (rfl : sendL xs m = sendL xs m)]
    have hk : Below W175.heap.size W175 W181 := hb1
    have HO182 := Lib.hid (HO176.out.keep (Chg.of_below hk) (.inr (Nat.zero_le _)))
    clear HO176
    have HO183 := Lib.hid (HO177.out.keep (Chg.of_below hk) (.inr (Nat.zero_le _)))
    clear HO177
    have HO184 := Lib.hid (HO180.out.keep (Chg.of_below hk) (.inr (Nat.zero_le _)))
    clear HO180
    have HB185 := Lib.hid (bkept hk HB178.out)
    clear HB178
    have Hb186 := Lib.hid (bnext Hb179.out hk : Below w.heap.size w W181)
    clear Hb179
    clear hk hb1
    obtain ⟨c187a, c187b, c187c, c187d, c187e, c187f, c187g⟩ := blk3 HB185.out
    go_wp2_with fail
    refine (implMailWords_c (sendL xs m) m.fr m.tu u1 _ (HO183.out.rd Mail.enc_len)).mono ?_
    rintro e W188 ⟨u3, rfl, ho_u3, hb1⟩
    clear c187a c187b c187c c187d c187e c187f c187g
    have hk : Below W181.heap.size W181 W188 := hb1
    have HO189 := Lib.hid (HO182.out.keep (Chg.of_below hk) (.inr (Nat.zero_le _)))
    clear HO182
    have HO190 := Lib.hid (HO183.out.keep (Chg.of_below hk) (.inr (Nat.zero_le _)))
    clear HO183
    have HO191 := Lib.hid (HO184.out.keep (Chg.of_below hk) (.inr (Nat.zero_le _)))
    clear HO184
    have HB192 := Lib.hid (bkept hk HB185.out)
    clear HB185
    have Hb193 := Lib.hid (bnext Hb186.out hk : Below w.heap.size w W188)
    clear Hb186
    clear hk hb1
    have HO194 := Lib.hid (OwF.of ho_u3 (Nat.le_refl _))
    clear ho_u3
    obtain ⟨ws, hws, hsl2⟩ := send_true HS.out
    have HW := Lib.hid hws
    have HL2 := Lib.hid hsl2
    clear hws hsl2
    have r3 := HO194.out.rd encI_len
    rw [HW.out] at r3
    have r1 := HO190.out.rd Mail.enc_len
    rw [HL2.out] at r1
    have r0 := HO189.out.rd Mail.enc_len
    have r1' := r1
    obtain ⟨a3, c3, hv3, p1, p2, -, p3⟩ := r3
    obtain ⟨b3, o3, hb3, hlt3, hc3⟩ := p3 ws.length m.wd (by simp)
    have q3 := hc3 0 _ rfl
    simp only [Nat.mul_one, Nat.add_zero] at q3
    rw [hb3, show (ws ++ [m.wd]).length = ws.length + 1 by simp] at hv3
    subst hv3
    obtain ⟨a1, c1, hv1, s1, s2, -, -⟩ := r1
    rw [show (xs ++ [m]).length = xs.length + 1 by simp] at hv1 s1
    subst hv1
    obtain ⟨a0, c0, hv0, s3, s4, -, -⟩ := r0
    subst hv0
    have R0 := Lib.hid (HO189.out.rd Mail.enc_len)
    have R1 := (RdT.take (i := xs.length) r1' (by simp))
    rw [List.take_left' rfl] at R1
    simp only [List.length_append, List.length_singleton] at p1
    unfold maxLen at p2 s2 s4
    obtain ⟨x0, x1, x2, -, -, -, xlt⟩ := blk3 HB192.out
    have i0 : (0 : Int) ≤ (ws.length : Int) := by omega
    have i1 : (ws.length : Int) < (ws.length : Int) + 1 := by omega
    have i2 : (0 : Int) ≤ (xs.length : Int) := by omega
    have i3 : (xs.length : Int) ≤ (c1 : Int) := by omega
    have i4 : IntKind.i64.wrap ((ws.length : Int) + 1 - 1) = (ws.length : Int) := Go.IntWalk.i64_in _ (by omega) |>.trans (by omega)
    have i6 : IntKind.i64.wrap (ws.length : Int) = (ws.length : Int) := Go.IntWalk.i64_in _ (by omega)
    have j1 : IntKind.i64.wrap ((xs.length : Int) + 1) = (xs.length : Int) + 1 := Go.IntWalk.i64_in _ (by omega)
    have i5 : IntKind.i64.wrap (((ws.length + 1 : Nat) : Int) - 1) = (ws.length : Int) := Go.IntWalk.i64_in _ (by omega) |>.trans (by omega)
    clear r1' p3 hc3 hb3
    go_wp2
    trace_state
    go_region_held3 (fun w' => w'.cell? ⟨b3, o3 + ws.length, none⟩ = some (.int .i64 m.wd) ∧ w'.cell? ⟨W143.heap.size, 2, none⟩ = some (.int .i64 m.wd)) (go_keep)
      ((go_at_call 33; refine (sameMails_c xs xs _ _ _ (by exact R1) (by exact R0.out)).mono ?_; rintro e W' ⟨rfl, hb1⟩; rw [decide_eq_true (rfl : xs = xs)]; have e1 := (hb1.cell (p := ⟨b3, o3 + ws.length, none⟩) hlt3).trans q3; have e2 := (hb1.cell (p := ⟨W143.heap.size, 2, none⟩) xlt).trans x2))
    go_wp2
    go_ret
    exact ⟨rfl, bdrew Hb193.out hb1⟩

set_option maxRecDepth 100000 in
theorem fnMailSend_l (os : Os) (started : os.Started) (H : Type) (enc : TypeId × Value → H) :
    ReturnsInHanded {} Try.checked os 9 .any (Rows.fnMailSendSpec.pre6 enc Try.prog Try.f9 Rows.fnMailSendRow.domain false) (Rows.fnMailSendSpec.post enc Try.prog Try.f9 false true false false) := by
  refine returnsInHanded_of_change (C := Try.checked) own started (by kernel_rfl) Try.func9
    (ChangeSpec.witness6 (enc := enc) (C := Try.checked) false ⟨#[], #[.slice none 0 0], []⟩ 8 (by kernel_rfl) (by kernel_rfl) (by kernel_rfl) (by kernel_rfl)) ?_
  intro W base args ds gs before hval0 hW _ _
  have hval : ∀ (j : Nat) t v, Try.f9.params[j]? = some t → args[j]? = some v → Value.okWide Try.prog W .any base t v := hval0
  have hW' := hW
  obtain ⟨p, q, hA0, hV, rfl, _, _⟩ := hW
  have hA : DataW.TrodAll enc Try.prog W 0 (fun _ => true) true Try.f9.params.toList args.toList ds p := hA0
  rw [Try.params9] at hA hval
  obtain ⟨v0, vs0, d0, ds0, p0, q0, hargs, rfl, rfl, h0, r0⟩ := trodAll_cons hA
  obtain ⟨rfl, rfl, rfl⟩ := trodAll_nil r0
  obtain rfl : args = #[v0] := by cases args; simp_all
  obtain ⟨rfl, rfl⟩ := trodVars_none hV
  clear hA0 hval0
  simp only [List.append_nil] at hW'
  have hl0 : ∀ x ∈ p0, x.block < W.heap.size := fun x hx => by simpa using hW'.lt x (by simp [hx])
  obtain ⟨x0, hx0, hg0⟩ := openBytes (hval 0 24 v0 rfl rfl) h0
  refine (fnMailSend_w x0 v0 W hx0 hg0).mono fun e W' ⟨he, hb⟩ => ?_
  subst he
  refine ⟨_, rfl, _, _, _, [], p0, [], hW', trodAll_cons_mk (shut_bool Try.underlying4 _) trodAll_mk0, ?_, rfl, hb.frame _, fun h => by cases h⟩
  have hk := trodAll_cons_mk (Below.trod laidOut (by kernel_rfl) (of_decide_eq_true (by kernel_rfl)) h0 hb hl0) (trodAll_mk0)
  simp only [List.append_nil] at hk
  exact hk

theorem fnMailSend_holds : Rows.FnMailSendSaid :=
  OpenClaim.holds_of_wide 9 Try.f9 rfl rfl rfl rfl rfl rfl rfl ⟨rfl, rfl, rfl, rfl, rfl⟩ rfl rfl rfl rfl rfl (by kernel_rfl) Try.func9 (by kernel_rfl)
    (of_decide_eq_true (by kernel_rfl)) (by unfold Func.isWrapper; first | (rw [if_pos (by decide +kernel)]; kernel_rfl) | (rw [if_neg (by decide +kernel)]; exact ⟨rfl, rfl⟩))
    (fun os started H enc _ => fnMailSend_l os started H enc)

end Go.Proofs.Ytkpdjnfgmgnjdaa
