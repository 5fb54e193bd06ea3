/- FnMailTake returns true for every code. No conditions. -/
import Derived.Test.YtkpdjnfgmgnjdaaLawMail
namespace Go.Proofs.Ytkpdjnfgmgnjdaa
open Go.ChangeShapes Go.WideShapes Go.ChangeAt Go.RowKit
set_option linter.all false
attribute [local go_sem ↓] Go.wp_at_zero Go.wp_at_succ

set_option maxHeartbeats 8000000 in
theorem fnMailTake_w (bs : List Int) (v : Value) (w : World) (hx : RdB w v bs) (hbs : ∀ b ∈ bs, 0 ≤ b ∧ b ≤ 255) :
    Calls Try.prog 10 #[v] w fun e w' => e = .returned (.bool true) ∧ Below w.heap.size w w' := by
  have hx' := Lib.hid hx
  have HBS := Lib.hid hbs
  clear hbs
  obtain ⟨a, c, rfl, h1, h2, -, -⟩ := hx
  unfold maxLen at h2
  by_cases hl : bs.length ≤ 1048576
  rotate_left
  · go_enter Try.func10, Try.ntmps10
    go_wp2
    go_ret
    exact ⟨rfl, bref _⟩
  go_enter Try.func10, Try.ntmps10
  go_wp2_with fail
  refine (drawMailTake_c bs _ _ hx'.out HBS.out).mono ?_
  rintro e W195 ⟨xs, u0, env, rfl, ho_u0, hxl, hb1⟩
  have htl := takeL_le xs env
  have hk : Below w.heap.size w W195 := hb1
  have Hb196 := Lib.hid (hk : Below w.heap.size w W195)
  clear hk hb1
  have HU0 := Lib.hid (OwF.of ho_u0 (Nat.le_refl _))
  clear ho_u0
  obtain ⟨m, hM⟩ : ∃ m, m = takeM xs env := ⟨_, rfl⟩
  have HM := Lib.hid hM
  clear hM
  have hne : ∀ w, _ := fun w => neqMail m m w
  have hneq := fun w => (neqMail m m w).trans (by rw [decide_eq_true (rfl : m = m)]; rfl : _ = .ok (.bool false) w)
  have heql := fun w => (eqlMail m m w).trans (by rw [decide_eq_true (rfl : m = m)] : _ = .ok (.bool true) w)
  have hgd := guardMail
  cases hB : takeB xs env
  · have HS := Lib.hid hB
    clear hB
    go_wp2_with fail
    refine (implMailTake_c xs env u0 _ (HU0.out.rd Mail.enc_len)).mono ?_
    rintro e W197 ⟨u1, rfl, ho_u1, hb1⟩
    rw [HS.out]
    rw [← HM.out]
    have hk : Below W195.heap.size W195 W197 := hb1
    have HO198 := Lib.hid (HU0.out.keep (Chg.of_below hk) (.inr (Nat.zero_le _)))
    clear HU0
    have Hb199 := Lib.hid (bnext Hb196.out hk : Below w.heap.size w W197)
    clear Hb196
    clear hk hb1
    have HO200 := Lib.hid (OwF.of ho_u1 (Nat.le_refl _))
    clear ho_u1
    unfold Mail.val
    go_wp2_with fail
    refine (specMailTake_c xs env u0 _ (RdT.below (HO198.out.rd Mail.enc_len) (balloc _ _))).mono ?_
    rintro e W201 ⟨u2, rfl, ho_u2, hb1⟩
    rw [HS.out]
    rw [← HM.out]
    have HB202 := Lib.hid (bkept hb1 (heap_alloc_new _ _))
    have hk : Below W197.heap.size W197 W201 := (bnext (balloc _ _) hb1)
    have HO203 := Lib.hid (HO198.out.keep (Chg.of_below hk) (.inr (Nat.zero_le _)))
    clear HO198
    have HO204 := Lib.hid (HO200.out.keep (Chg.of_below hk) (.inr (Nat.zero_le _)))
    clear HO200
    have Hb205 := Lib.hid (bnext Hb199.out hk : Below w.heap.size w W201)
    clear Hb199
    clear hk hb1
    have HO206 := Lib.hid (OwF.of ho_u2 (Nat.le_refl _))
    clear ho_u2
    unfold Mail.val
    obtain ⟨c207a, c207b, c207c, c207d, c207e, c207f, c207g⟩ := blk3 HB202.out
    go_wp2_with fail
    refine (sameMails_c (takeL xs env) (takeL xs env) u1 u2 _ (RdT.below (HO204.out.rd Mail.enc_len) (balloc _ _)) (RdT.below (HO206.out.rd Mail.enc_len) (balloc _ _))).mono ?_
    rintro e W208 ⟨rfl, hb1⟩
    rw [decide_eq_true (rfl : (takeL xs env) = (takeL xs env))]
    clear c207a c207b c207c c207d c207e c207f c207g
    have HB209 := Lib.hid (bkept hb1 (heap_alloc_new _ _))
    have hk : Below W201.heap.size W201 W208 := (bnext (balloc _ _) hb1)
    have HO210 := Lib.hid (HO203.out.keep (Chg.of_below hk) (.inr (Nat.zero_le _)))
    clear HO203
    have HO211 := Lib.hid (HO204.out.keep (Chg.of_below hk) (.inr (Nat.zero_le _)))
    clear HO204
    have HO212 := Lib.hid (HO206.out.keep (Chg.of_below hk) (.inr (Nat.zero_le _)))
    clear HO206
    have HB213 := Lib.hid (bkept hk HB202.out)
    clear HB202
    have Hb214 := Lib.hid (bnext Hb205.out hk : Below w.heap.size w W208)
    clear Hb205
    clear hk hb1
    obtain ⟨c215a, c215b, c215c, c215d, c215e, c215f, c215g⟩ := blk3 HB213.out
    obtain ⟨c216a, c216b, c216c, c216d, c216e, c216f, c216g⟩ := blk3 HB209.out
    go_wp2_with fail
    refine (sameMails_c (takeL xs env) (takeL xs env) u1 u2 _ (HO211.out.rd Mail.enc_len) (HO212.out.rd Mail.enc_len)).mono ?_
    rintro e W217 ⟨rfl, hb1⟩
    rw [decide_eq_true (rfl : (takeL xs env) = (takeL xs env))]
    clear c215a c215b c215c c215d c215e c215f c215g c216a c216b c216c c216d c216e c216f c216g
    have hk : Below W208.heap.size W208 W217 := hb1
    have HO218 := Lib.hid (HO210.out.keep (Chg.of_below hk) (.inr (Nat.zero_le _)))
    clear HO210
    have HO219 := Lib.hid (HO211.out.keep (Chg.of_below hk) (.inr (Nat.zero_le _)))
    clear HO211
    have HO220 := Lib.hid (HO212.out.keep (Chg.of_below hk) (.inr (Nat.zero_le _)))
    clear HO212
    have HB221 := Lib.hid (bkept hk HB213.out)
    clear HB213
    have HB222 := Lib.hid (bkept hk HB209.out)
    clear HB209
    have Hb223 := Lib.hid (bnext Hb214.out hk : Below w.heap.size w W217)
    clear Hb214
    clear hk hb1
    go_wp2
    go_ret
    exact ⟨rfl, Hb223.out⟩
  · have HS := Lib.hid hB
    clear hB
    go_wp2_with fail
    refine (implMailTake_c xs env u0 _ (HU0.out.rd Mail.enc_len)).mono ?_
    rintro e W224 ⟨u1, rfl, ho_u1, hb1⟩
    rw [HS.out]
    rw [← HM.out]
    have hk : Below W195.heap.size W195 W224 := hb1
    have HO225 := Lib.hid (HU0.out.keep (Chg.of_below hk) (.inr (Nat.zero_le _)))
    clear HU0
    have Hb226 := Lib.hid (bnext Hb196.out hk : Below w.heap.size w W224)
    clear Hb196
    clear hk hb1
    have HO227 := Lib.hid (OwF.of ho_u1 (Nat.le_refl _))
    clear ho_u1
    unfold Mail.val
    go_wp2_with fail
    refine (specMailTake_c xs env u0 _ (RdT.below (HO225.out.rd Mail.enc_len) (balloc _ _))).mono ?_
    rintro e W228 ⟨u2, rfl, ho_u2, hb1⟩
    rw [HS.out]
    rw [← HM.out]
    have HB229 := Lib.hid (bkept hb1 (heap_alloc_new _ _))
    have hk : Below W224.heap.size W224 W228 := (bnext (balloc _ _) hb1)
    have HO230 := Lib.hid (HO225.out.keep (Chg.of_below hk) (.inr (Nat.zero_le _)))
    clear HO225
    have HO231 := Lib.hid (HO227.out.keep (Chg.of_below hk) (.inr (Nat.zero_le _)))
    clear HO227
    have Hb232 := Lib.hid (bnext Hb226.out hk : Below w.heap.size w W228)
    clear Hb226
    clear hk hb1
    have HO233 := Lib.hid (OwF.of ho_u2 (Nat.le_refl _))
    clear ho_u2
    unfold Mail.val
    obtain ⟨c234a, c234b, c234c, c234d, c234e, c234f, c234g⟩ := blk3 HB229.out
    go_wp2_with fail
    refine (sameMails_c (takeL xs env) (takeL xs env) u1 u2 _ (RdT.below (HO231.out.rd Mail.enc_len) (balloc _ _)) (RdT.below (HO233.out.rd Mail.enc_len) (balloc _ _))).mono ?_
    rintro e W235 ⟨rfl, hb1⟩
    rw [decide_eq_true (rfl : (takeL xs env) = (takeL xs env))]
    clear c234a c234b c234c c234d c234e c234f c234g
    have HB236 := Lib.hid (bkept hb1 (heap_alloc_new _ _))
    have hk : Below W228.heap.size W228 W235 := (bnext (balloc _ _) hb1)
    have HO237 := Lib.hid (HO230.out.keep (Chg.of_below hk) (.inr (Nat.zero_le _)))
    clear HO230
    have HO238 := Lib.hid (HO231.out.keep (Chg.of_below hk) (.inr (Nat.zero_le _)))
    clear HO231
    have HO239 := Lib.hid (HO233.out.keep (Chg.of_below hk) (.inr (Nat.zero_le _)))
    clear HO233
    have HB240 := Lib.hid (bkept hk HB229.out)
    clear HB229
    have Hb241 := Lib.hid (bnext Hb232.out hk : Below w.heap.size w W235)
    clear Hb232
    clear hk hb1
    obtain ⟨hv, hany⟩ := takeB_true HS.out
    have HV := Lib.hid hv
    have HA := Lib.hid hany
    clear hv hany
    have R0 := Lib.hid (HO237.out.rd Mail.enc_len)
    obtain ⟨a0, cc, hv0, s3, s4, -, h3⟩ := HO237.out.rd Mail.enc_len
    subst hv0
    have H3 := Lib.hid h3
    clear h3
    unfold maxLen at s4
    go_wp2
    go_loop [11] (fun i => ∃ k : Nat, k ≤ xs.length ∧ i = .int .i64 k ∧ Hid ((xs.take k).any (fun m => decide (m.tu = env)) = false)) (fun i => xs.length - (intOf i).toNat)
    case atStart => exact ⟨0, Nat.zero_le _, rfl, by simp [Hid]⟩
    case round =>
      obtain ⟨k, hk, rfl, heq⟩ := hrel
      by_cases hlt : k < xs.length
      · obtain ⟨p, hp⟩ : ∃ p, xs[k]? = some p := ⟨_, List.getElem?_eq_getElem hlt⟩
        obtain ⟨b, o, rfl, hbl, hc⟩ := H3.out k p hp
        have c0 : W235.cell? ⟨b, o + k * 3, none⟩ = some (.int .i64 p.fr) := hc 0 _ rfl
        have c1 : W235.cell? ⟨b, o + k * 3 + 1, none⟩ = some (.int .i64 p.tu) := hc 1 _ rfl
        have c2 : W235.cell? ⟨b, o + k * 3 + 2, none⟩ = some (.int .i64 p.wd) := hc 2 _ rfl
        clear hc
        by_cases he : p.tu = env
        · obtain ⟨t1, t2, t3⟩ := take_some HV.out hp heq.out he
          have hpm : p = m := by rw [← t2]; exact HM.out.symm
          subst hpm
          have HT := Lib.hid t3
          have heb : (p.tu == env) = true := beq_iff_eq.2 he
          clear t1 t2 t3 he hp
          obtain ⟨x0, x1, x2, -, -, -, xlt⟩ := blk3 HB240.out
          have k0 : (0 : Int) ≤ (k : Int) := by omega
          have k1 : (k : Int) ≤ (cc : Int) := by omega
          have k2 : (0 : Int) ≤ (k : Int) + 1 := by omega
          have k3 : (k : Int) + 1 ≤ (xs.length : Int) := by omega
          have k4 : (xs.length : Int) ≤ (cc : Int) := by omega
          have k5 : IntKind.i64.wrap ((k : Int) + 1) = (k : Int) + 1 := Go.IntWalk.i64_in _ (by omega)
          have k6 : ((k : Int) + 1).toNat = k + 1 := by omega
          have R1 := Lib.hid (HO238.out.rd Mail.enc_len)
          have hsz := Hb241.out.size
          have hbl2 : b < W235.heap.size := hbl
          have RD := Lib.hid (RdT.dropIf (j := k + 1) R0.out hlt)
          have hcc : (cc = k + 1) = True ∨ (cc = k + 1) = False := by by_cases h : cc = k + 1 <;> simp [h]
          rcases hcc with hcc | hcc
          all_goals
           simp only [hcc, if_true, if_false] at RD
           go_wp2
           go_region_held3 (fun w' => w'.cell? ⟨b, o + k * 3, none⟩ = some (.int .i64 p.fr) ∧ w'.cell? ⟨b, o + k * 3 + 1, none⟩ = some (.int .i64 p.tu) ∧ w'.cell? ⟨b, o + k * 3 + 2, none⟩ = some (.int .i64 p.wd) ∧ w'.cell? ⟨W224.heap.size, 0, none⟩ = some (.int .i64 p.fr) ∧ w'.cell? ⟨W224.heap.size, 1, none⟩ = some (.int .i64 p.tu) ∧ w'.cell? ⟨W224.heap.size, 2, none⟩ = some (.int .i64 p.wd))
             (first | go_keep | exact ⟨e0, e1, e2, e3, e4, e5⟩ | exact ⟨f0, f1, f2, f3, f4, f5⟩ | exact ⟨g0, g1, g2, g3, g4, g5⟩ | fail)
             (first
               | (refine step_append_G eltMail (by rfl) _ _ (by rfl) W235.heap.size _ _ [] (xs.take k) (by rfl) (by rfl) (by exact OwT.of_block eltMail (heap_alloc_new W235 _) rfl (by simp) (Nat.le_refl _)) (by exact (R0.out.below (by go_grown)).take hk) (by simp; omega) (by simp) ?_; intro v' w' ho hg hat hnil; have hb2 : Below W235.heap.size W235 w' := (by refine bgrown ?_ hg ?_; go_grown; intro q hq; simp [Act.eval, Value.ownBlock] at hq; omega); have e0 := (hb2.cell (p := ⟨b, o + k * 3, none⟩) hbl2).trans c0; have e1 := (hb2.cell (p := ⟨b, o + k * 3 + 1, none⟩) hbl2).trans c1; have e2 := (hb2.cell (p := ⟨b, o + k * 3 + 2, none⟩) hbl2).trans c2; have e3 := (hb2.cell (p := ⟨W224.heap.size, 0, none⟩) xlt).trans x0; have e4 := (hb2.cell (p := ⟨W224.heap.size, 1, none⟩) xlt).trans x1; have e5 := (hb2.cell (p := ⟨W224.heap.size, 2, none⟩) xlt).trans x2)
               | (refine step_append_G eltMail (by rfl) _ _ (by rfl) W235.heap.size _ _ (xs.take k) (xs.drop (k + 1)) (by rfl) (by rfl) (by exact ho) (by first | exact RD.out.below hb2 | (have := RD.out.below hb2; simpa [hcc] using this)) (by simp; omega) (by exact hb2.size) ?_; intro v'' w'' ho2 hg2 hat2 hnil2; have hb3 : Below W235.heap.size W235 w'' := bgrown hb2 hg2 (fun q hq => (World.ownsRow.lt ho q hq).1); have f0 := (hb3.cell (p := ⟨b, o + k * 3, none⟩) hbl2).trans c0; have f1 := (hb3.cell (p := ⟨b, o + k * 3 + 1, none⟩) hbl2).trans c1; have f2 := (hb3.cell (p := ⟨b, o + k * 3 + 2, none⟩) hbl2).trans c2; have f3 := (hb3.cell (p := ⟨W224.heap.size, 0, none⟩) xlt).trans x0; have f4 := (hb3.cell (p := ⟨W224.heap.size, 1, none⟩) xlt).trans x1; have f5 := (hb3.cell (p := ⟨W224.heap.size, 2, none⟩) xlt).trans x2)
               | (go_at_call 33; refine (sameMails_c (takeL xs env) (takeL xs env) _ _ _ (by exact R1.out.below hb3) (by rw [HT.out]; exact ho2.rd Mail.enc_len)).mono ?_; rintro e w4 ⟨rfl, hb4⟩; rw [decide_eq_true (rfl : takeL xs env = takeL xs env)]; have hb5 := bnext hb3 hb4; have g0 := (hb5.cell (p := ⟨b, o + k * 3, none⟩) hbl2).trans c0; have g1 := (hb5.cell (p := ⟨b, o + k * 3 + 1, none⟩) hbl2).trans c1; have g2 := (hb5.cell (p := ⟨b, o + k * 3 + 2, none⟩) hbl2).trans c2; have g3 := (hb5.cell (p := ⟨W224.heap.size, 0, none⟩) xlt).trans x0; have g4 := (hb5.cell (p := ⟨W224.heap.size, 1, none⟩) xlt).trans x1; have g5 := (hb5.cell (p := ⟨W224.heap.size, 2, none⟩) xlt).trans x2))
           go_wp2
           all_goals go_ret
           all_goals exact ⟨rfl, bnext Hb241.out hb5⟩
        · have heb : (p.tu == env) = false := beq_eq_false_iff_ne.2 he
          have HP := Lib.hid hp
          have HE := Lib.hid he
          clear he hp
          go_wp2
          go_round
          case rel => exact ⟨k + 1, by omega, by go_num, any_take_succ HP.out heq.out (by simp [HE.out])⟩
          case measure => simp [intOf]; omega
      · exfalso
        have h4 := heq.out
        rw [List.take_of_length_le (by omega), HA.out] at h4
        cases h4

set_option maxRecDepth 100000 in
theorem fnMailTake_l (os : Os) (started : os.Started) (H : Type) (enc : TypeId × Value → H) :
    ReturnsInHanded {} Try.checked os 10 .any (Rows.fnMailTakeSpec.pre6 enc Try.prog Try.f10 Rows.fnMailTakeRow.domain false) (Rows.fnMailTakeSpec.post enc Try.prog Try.f10 false true false false) := by
  refine returnsInHanded_of_change (C := Try.checked) own started (by kernel_rfl) Try.func10
    (ChangeSpec.witness6 (enc := enc) (C := Try.checked) false ⟨#[], #[.slice none 0 0], []⟩ 8 (by kernel_rfl) (by kernel_rfl) (by kernel_rfl) (by kernel_rfl)) ?_
  intro W base args ds gs before hval0 hW _ _
  have hval : ∀ (j : Nat) t v, Try.f10.params[j]? = some t → args[j]? = some v → Value.okWide Try.prog W .any base t v := hval0
  have hW' := hW
  obtain ⟨p, q, hA0, hV, rfl, _, _⟩ := hW
  have hA : DataW.TrodAll enc Try.prog W 0 (fun _ => true) true Try.f10.params.toList args.toList ds p := hA0
  rw [Try.params10] at hA hval
  obtain ⟨v0, vs0, d0, ds0, p0, q0, hargs, rfl, rfl, h0, r0⟩ := trodAll_cons hA
  obtain ⟨rfl, rfl, rfl⟩ := trodAll_nil r0
  obtain rfl : args = #[v0] := by cases args; simp_all
  obtain ⟨rfl, rfl⟩ := trodVars_none hV
  clear hA0 hval0
  simp only [List.append_nil] at hW'
  have hl0 : ∀ x ∈ p0, x.block < W.heap.size := fun x hx => by simpa using hW'.lt x (by simp [hx])
  obtain ⟨x0, hx0, hg0⟩ := openBytes (hval 0 24 v0 rfl rfl) h0
  refine (fnMailTake_w x0 v0 W hx0 hg0).mono fun e W' ⟨he, hb⟩ => ?_
  subst he
  refine ⟨_, rfl, _, _, _, [], p0, [], hW', trodAll_cons_mk (shut_bool Try.underlying4 _) trodAll_mk0, ?_, rfl, hb.frame _, fun h => by cases h⟩
  have hk := trodAll_cons_mk (Below.trod laidOut (by kernel_rfl) (of_decide_eq_true (by kernel_rfl)) h0 hb hl0) (trodAll_mk0)
  simp only [List.append_nil] at hk
  exact hk

theorem fnMailTake_holds : Rows.FnMailTakeSaid :=
  OpenClaim.holds_of_wide 10 Try.f10 rfl rfl rfl rfl rfl rfl rfl ⟨rfl, rfl, rfl, rfl, rfl⟩ rfl rfl rfl rfl rfl (by kernel_rfl) Try.func10 (by kernel_rfl)
    (of_decide_eq_true (by kernel_rfl)) (by unfold Func.isWrapper; first | (rw [if_pos (by decide +kernel)]; kernel_rfl) | (rw [if_neg (by decide +kernel)]; exact ⟨rfl, rfl⟩))
    (fun os started H enc _ => fnMailTake_l os started H enc)

end Go.Proofs.Ytkpdjnfgmgnjdaa
