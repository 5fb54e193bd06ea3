/- FnMailPart returns true for all codes. No conditions. -/
import Derived.Test.YtkpdjnfgmgnjdaaLawMail
import Derived.Test.YtkpdjnfgmgnjdaaBun
namespace Go.Proofs.Ytkpdjnfgmgnjdaa
open Go.ChangeShapes Go.WideShapes Go.ChangeAt Go.RowKit
set_option linter.all false
attribute [local go_sem ↓] Go.wp_at_zero Go.wp_at_succ

theorem mailsOk_bad {xs : List Mail} {k : Nat} {m : Mail} (hk : k < xs.length) (hm : m.tu = 3) : mailsOk (xs.set k m) = false := by
  have hmem : m ∈ xs.set k m := List.mem_of_getElem? (i := k) (by simp [hk])
  cases h : mailsOk (xs.set k m)
  · rfl
  · simp [mailsOk] at h
    have := h.2 m hmem
    simp [Mail.ok, btw, hm] at this

set_option maxHeartbeats 8000000 in
theorem fnMailPart_w (bs : List Int) (v : Value) (bs2 : List Int) (v2 : Value) (w : World) (hx : RdB w v bs) (hbs : ∀ b ∈ bs, 0 ≤ b ∧ b ≤ 255) (hx2 : RdB w v2 bs2) (hbs2 : ∀ b ∈ bs2, 0 ≤ b ∧ b ≤ 255) :
    Calls Try.prog 5 #[v, v2] w fun e w' => e = .returned (.bool true) ∧ Below w.heap.size w w' := by
  have hx' := Lib.hid hx
  have HBS := Lib.hid hbs
  clear hbs hbs2
  obtain ⟨a, c, rfl, h1, h2, -, -⟩ := hx
  obtain ⟨a2, c2, rfl, h12, h22, -, -⟩ := hx2
  unfold maxLen at h2 h22
  by_cases hl : bs.length ≤ 1048576
  rotate_left
  · go_enter Try.func5, Try.ntmps5
    go_wp2
    go_ret
    exact ⟨rfl, bref _⟩
  by_cases hl2 : bs2.length ≤ 1048576
  rotate_left
  · go_enter Try.func5, Try.ntmps5
    go_wp2
    go_ret
    exact ⟨rfl, bref _⟩
  go_enter Try.func5, Try.ntmps5
  go_wp2_with fail
  refine (drawMailsValid_c bs _ _ hx'.out HBS.out).mono ?_
  rintro e W1 ⟨xs, u, rfl, ho, hxl, hb1⟩
  have H1 := Lib.hid ((Bun.refl w none).addT ho hb1)
  clear ho hb1
  go_wp2_with fail
  refine (implMailsValid_c xs u _ (H1.out.rd 0 rfl Mail.enc_len)).mono ?_
  rintro e W2 ⟨rfl, hb2⟩
  have H2 := Lib.hid (H1.out.call hb2)
  clear H1 hb2
  go_wp2_with fail
  refine (specMailsValid_c xs u _ (H2.out.rd 0 rfl Mail.enc_len)).mono ?_
  rintro e W3 ⟨rfl, hb3⟩
  have H3 := Lib.hid (H2.out.call hb3)
  clear H2 hb3
  cases hv : mailsOk xs
  · go_wp2
    go_ret
    exact ⟨rfl, H3.out.below⟩
  have HV := Lib.hid hv
  clear hv
  by_cases hz : xs.length = 0
  · obtain ⟨a3, c3, rfl, -, s4, -, -⟩ := H3.out.rd 0 rfl Mail.enc_len
    have hzb : ((xs.length : Int) == 0) = true := by simp [hz]
    unfold maxLen at s4
    clear hz
    go_wp2
    go_ret
    exact ⟨rfl, H3.out.below⟩
  · have hzb : ((xs.length : Int) == 0) = false := by rw [beq_eq_false_iff_ne]; omega
    have hpos : 0 < xs.length := by omega
    obtain ⟨m, hm⟩ : ∃ m, xs[bs2.length % xs.length]? = some m := ⟨_, List.getElem?_eq_getElem (Nat.mod_lt _ hpos)⟩
    obtain ⟨g, cc, rfl, hk, s3, s4, s5, -, -⟩ := H3.out.at 0 rfl Mail.enc_len hm
    have hkk : ((bs2.length : Int)).tmod (xs.length : Int) = ((bs2.length % xs.length : Nat) : Int) := by
      rw [Int.tmod_eq_emod_of_nonneg (by omega)]; push_cast; rfl
    have HM := Lib.hid hm
    unfold maxLen at s4
    generalize bs2.length % xs.length = k at *
    have k0 : (0 : Int) ≤ (k : Int) := by omega
    have k1 : (k : Int) ≤ (cc : Int) := by omega
    have k2 : (0 : Int) ≤ (k : Int) + 1 := by omega
    have k3 : (k : Int) + 1 ≤ (xs.length : Int) := by omega
    have k4 : (xs.length : Int) ≤ (cc : Int) := by omega
    have k5 : IntKind.i64.wrap ((k : Int) + 1) = (k : Int) + 1 := Go.IntWalk.i64_in _ (by omega)
    have k6 : ((k : Int) + 1).toNat = k + 1 := by omega
    have R0 := Lib.hid (H3.out.rd 0 rfl Mail.enc_len)
    have RD := Lib.hid (RdT.dropIf (j := k + 1) R0.out hk)
    have hcc : (cc = k + 1) = True ∨ (cc = k + 1) = False := by by_cases h : cc = k + 1 <;> simp [h]
    clear hm hz
    rcases hcc with hcc | hcc
    all_goals
      simp only [hcc, if_true, if_false] at RD
      go_wp2
      go_region_held3 (fun w' => True) (first | exact trivial | fail)
        (first
         | (refine step_t eltMail (by rfl) _ _ (by rfl) _ _ (xs.take k) (by rfl) (by rfl) (H3.out.lit eltMail #[] [] rfl (by simp)).drew (by exact (R0.out.below (balloc _ _).drew).take (by omega)) (by simp; omega) ?_; intro v' w' H4 hnil)
         | (refine step_t eltMail (by rfl) _ _ (by rfl) _ _ (xs.drop (k + 1)) (by rfl) (by rfl) H4 (by have h9 := RdT.dropIf (j := k + 1) (H4.rd 1 rfl Mail.enc_len) hk; simp only [hcc, if_true, if_false] at h9; first | exact h9 | (simp only [Nat.zero_add] at h9; exact h9)) (by simp; omega) ?_; intro v'' w'' H5 hnil2))
      have H5' := Lib.hid H5
      have HE := Lib.hid (mailsOk_erase k HV.out)
      have HBD := Lib.hid (mailsOk_bad (m := ⟨m.fr, 3, m.wd⟩) hk rfl)
      clear H4 H5 RD R0
      go_wp2_with (at_builtin; refine append_b eltMail rfl _ _ rfl _ _ xs rfl rfl (H5'.out.lit eltMail #[] [] rfl (by simp)) ((H5'.out.over _).rd 1 rfl Mail.enc_len) (by simp; omega) ?_; intro v3 w3 H6 hnil3; obtain ⟨g3, c3, rfl, -, t3, t4, t5, t6, t7⟩ := H6.at 0 rfl Mail.enc_len HM.out; have d1 := t7 1 _ rfl; have f1 := t6 (k * 3 + 1); have H7 := Lib.hid (H6.store Mail.enc_len (j := 1) (x' := ⟨m.fr, 3, m.wd⟩) (u := .int .i64 3) HM.out (by omega) rfl); unfold maxLen at t4; clear H6 t6 t7 H5'; simp only [List.nil_append] at t3 t4 H7 ⊢)
      go_wp2_with fail
      refine (implMailsValid_c (xs.take k ++ xs.drop (k + 1)) _ _ (H7.out.rd 1 rfl Mail.enc_len)).mono ?_
      rintro e W8 ⟨rfl, hb8⟩
      rw [HE.out]
      have H8 := Lib.hid (H7.out.call hb8)
      go_wp2_with fail
      refine (implMailsValid_c (xs.set k ⟨m.fr, 3, m.wd⟩) _ _ (H8.out.rd 0 rfl Mail.enc_len)).mono ?_
      rintro e W9 ⟨rfl, hb9⟩
      rw [HBD.out]
      go_wp2
      go_ret
      exact ⟨rfl, (H8.out.call hb9).below⟩

set_option maxRecDepth 100000 in
theorem fnMailPart_l (os : Os) (started : os.Started) (H : Type) (enc : TypeId × Value → H) :
    ReturnsInHanded {} Try.checked os 5 .any (Rows.fnMailPartSpec.pre6 enc Try.prog Try.f5 Rows.fnMailPartRow.domain false) (Rows.fnMailPartSpec.post enc Try.prog Try.f5 false true false false) := by
  refine returnsInHanded_of_change (C := Try.checked) own started (by kernel_rfl) Try.func5
    (ChangeSpec.witness6 (enc := enc) (C := Try.checked) false ⟨#[], #[.slice none 0 0, .slice none 0 0], []⟩ 8 (by kernel_rfl) (by kernel_rfl) (by kernel_rfl) (by kernel_rfl)) ?_
  intro W base args ds gs before hval0 hW _ _
  have hval : ∀ (j : Nat) t v, Try.f5.params[j]? = some t → args[j]? = some v → Value.okWide Try.prog W .any base t v := hval0
  have hW' := hW
  obtain ⟨p, q, hA0, hV, rfl, _, _⟩ := hW
  have hA : DataW.TrodAll enc Try.prog W 0 (fun _ => true) true Try.f5.params.toList args.toList ds p := hA0
  rw [Try.params5] at hA hval
  obtain ⟨v0, vs0, d0, ds0, p0, q0, hargs, rfl, rfl, h0, r0⟩ := trodAll_cons hA
  obtain ⟨v1, vs1, d1, ds1, p1, q1, rfl, rfl, rfl, h1, r1⟩ := trodAll_cons r0
  obtain ⟨rfl, rfl, rfl⟩ := trodAll_nil r1
  obtain rfl : args = #[v0, v1] := by cases args; simp_all
  obtain ⟨rfl, rfl⟩ := trodVars_none hV
  clear hA0 hval0
  simp only [List.append_nil] at hW'
  have hl0 : ∀ x ∈ p0, x.block < W.heap.size := fun x hx => by simpa using hW'.lt x (by simp [hx])
  have hl1 : ∀ x ∈ p1, x.block < W.heap.size := fun x hx => by simpa using hW'.lt x (by simp [hx])
  obtain ⟨x0, hx0, hg0⟩ := openBytes (hval 0 24 v0 rfl rfl) h0
  obtain ⟨x1, hx1, hg1⟩ := openBytes (hval 1 24 v1 rfl rfl) h1
  refine (fnMailPart_w x0 v0 x1 v1 W hx0 hg0 hx1 hg1).mono fun e W' ⟨he, hb⟩ => ?_
  subst he
  refine ⟨_, rfl, _, _, _, [], p0 ++ p1, [], hW', trodAll_cons_mk (shut_bool Try.underlying4 _) trodAll_mk0, ?_, rfl, hb.frame _, fun h => by cases h⟩
  have hk := trodAll_cons_mk (Below.trod laidOut (by kernel_rfl) (of_decide_eq_true (by kernel_rfl)) h0 hb hl0) (trodAll_cons_mk (Below.trod laidOut (by kernel_rfl) (of_decide_eq_true (by kernel_rfl)) h1 hb hl1) (trodAll_mk0))
  simp only [List.append_nil] at hk
  exact hk

theorem fnMailPart_holds : Rows.FnMailPartSaid :=
  OpenClaim.holds_of_wide 5 Try.f5 rfl rfl rfl rfl rfl rfl rfl ⟨rfl, rfl, rfl, rfl, rfl⟩ rfl rfl rfl rfl rfl (by kernel_rfl) Try.func5 (by kernel_rfl)
    (of_decide_eq_true (by kernel_rfl)) (by unfold Func.isWrapper; first | (rw [if_pos (by decide +kernel)]; kernel_rfl) | (rw [if_neg (by decide +kernel)]; exact ⟨rfl, rfl⟩))
    (fun os started H enc _ => fnMailPart_l os started H enc)

end Go.Proofs.Ytkpdjnfgmgnjdaa
