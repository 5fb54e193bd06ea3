/- FnInfosPart returns true for all codes. No conditions. -/
import Derived.Test.YtdeempkiffdlnaaDoorInfoI
import Derived.Test.YtdeempkiffdlnaaDoorOpen
import Derived.Test.YtdeempkiffdlnaaDoorTie
import Derived.Test.YtdeempkiffdlnaaDoorCards
import Derived.Lay
import Derived.LaidOnce
import Derived.SevenTiedAt
namespace Go.Proofs.YtdeempkiffdlnaaDoor
open Go.ChangeShapes Go.WideShapes Go.ChangeAt Go.RowKit
set_option linter.all false
attribute [local go_sem ↓] Go.wp_at_zero Go.wp_at_succ

theorem Bun.litAt {α : Type} {enc : α → List Value} {K : Nat} {e t : TypeId} {z : α} {P : Program} {w0 w : World} {row : Option Nat} {rs : List Res} (h : Bun w0 row w rs) (a : Nat) (E : Elt P enc K e t z) (cs : Array Value) (xs : List α) (n : Nat) (hc : cs.toList = xs.flatMap enc) (hn : xs.length = n) (hb : n ≤ 1000000000) (ha : a = w.heap.size) :
    Bun w0 row (w.alloc (.cells cs e)) (Res.row enc K e (.slice (some ⟨a, 0, none⟩) n n) xs :: rs) := by subst ha; exact h.lits E cs xs n hc hn hb

set_option maxRecDepth 100000 in
set_option maxHeartbeats 8000000 in
theorem fnInfosPart_w (bs : List Int) (v : Value) (bs2 : List Int) (v2 : Value) (w : World) (hx : RdB w v bs) (hbs : ∀ b ∈ bs, 0 ≤ b ∧ b ≤ 255) (hx2 : RdB w v2 bs2) (hbs2 : ∀ b ∈ bs2, 0 ≤ b ∧ b ≤ 255) :
    Calls Tryd.prog 3 #[v, v2] w fun e w' => e = .returned (.bool true) ∧ Below w.heap.size w w' := by
  have hx' := Lib.hid hx
  have HBS := Lib.hid hbs
  clear hbs
  obtain ⟨a, c, rfl, h1, h2, -, -⟩ := hx
  clear hbs2
  obtain ⟨a2, c2, rfl, h12, h22, -, -⟩ := hx2
  unfold maxLen at h22
  unfold maxLen at h2
  by_cases hlbs : bs.length ≤ 1048576
  rotate_left
  · go_enter Tryd.func3, Tryd.ntmps3
    go_wp2
    go_ret
    exact ⟨rfl, bref _⟩
  by_cases hlbs2 : bs2.length ≤ 1048576
  rotate_left
  · go_enter Tryd.func3, Tryd.ntmps3
    go_wp2
    go_ret
    exact ⟨rfl, bref _⟩
  go_enter Tryd.func3, Tryd.ntmps3
  go_wp2_with fail
  refine (drawInfosValid_b hx'.out HBS.out).mono ?_
  rintro e W1 ⟨u, xs, rfl, hl12, hsh, hB⟩
  have H1 := Lib.hid hB
  have HSH := Lib.hid hsh
  clear hB hsh
  go_wp2_with fail
  refine (implInfosValid_c xs u _ (H1.out.rd 0 rfl Info.enc_len) HSH.out.fit).mono ?_
  rintro e WH2 ⟨rfl, hb⟩
  have H2 := Lib.hid (H1.out.call hb)
  clear hb H1
  go_wp2_with fail
  refine (specInfosValid_c xs u _ (H2.out.rd 0 rfl Info.enc_len) HSH.out.fit).mono ?_
  rintro e WH3 ⟨rfl, hb⟩
  have H3 := Lib.hid (H2.out.call hb)
  clear hb H2
  cases hv : infosOk xs
  · go_wp2
    go_ret
    exact ⟨rfl, H3.out.below⟩
  have HV := Lib.hid hv
  have HL := Lib.hid (infosOk_len hv)
  clear hv
  have hkl : bs2.length % 12 < 12 := Nat.mod_lt _ (by omega)
  obtain ⟨m, hm⟩ : ∃ m, xs[bs2.length % 12]? = some m := ⟨_, List.getElem?_eq_getElem (by have := HL.out; omega)⟩
  obtain ⟨g, cc, rfl, hk, s3, s4, s5, -, -⟩ := H3.out.at 0 rfl Info.enc_len hm
  rw [HL.out] at hk s3 H3 ⊢
  have hkk : ((bs2.length : Int)).tmod 12 = ((bs2.length % 12 : Nat) : Int) := by
    rw [Int.tmod_eq_emod_of_nonneg (by omega)]; push_cast; rfl
  have hkk2 : ((bs2.length : Int)) % 12 = ((bs2.length % 12 : Nat) : Int) := by push_cast; rfl
  have HM := Lib.hid hm
  unfold maxLen at s4
  clear hm hkl
  generalize bs2.length % 12 = k at *
  have k0 : (0 : Int) ≤ (k : Int) := by omega
  have k1 : (k : Int) ≤ (cc : Int) := by omega
  have k2 : (0 : Int) ≤ (k : Int) + 1 := by omega
  have k3 : (k : Int) + 1 ≤ 12 := by omega
  have k4 : (12 : Int) ≤ (cc : Int) := by omega
  have k5 : IntKind.i64.wrap ((k : Int) + 1) = (k : Int) + 1 := Go.IntWalk.i64_in _ (by omega)
  have k6 : ((k : Int) + 1).toNat = k + 1 := by omega
  have k7 : (k : Int) + 1 ≤ (cc : Int) := by omega
  have k8 : (k : Int) ≤ 12 := by omega
  have R0 := Lib.hid (H3.out.rd 0 rfl Info.enc_len)
  have RD := Lib.hid (RdT.dropIf (j := k + 1) R0.out (by omega))
  have hcc : (cc = k + 1) = True ∨ (cc = k + 1) = False := by by_cases h : cc = k + 1 <;> simp [h]
  have HFX := Lib.hid (show shortF (xs.take k ++ xs.drop (k + 1)) from fun x hx => HSH.out x (by rcases List.mem_append.1 hx with h | h; exact List.mem_of_mem_take h; exact List.mem_of_mem_drop h))
  have HX := Lib.hid (show infosOk (xs.take k ++ xs.drop (k + 1)) = false by
    have : (xs.take k ++ xs.drop (k + 1)).length ≠ 12 := by have := HL.out; simp; omega
    simp only [infosOk, decide_eq_false this, Bool.false_and])
  have HY := Lib.hid (show infosOk (xs.set k ⟨1, [], -1⟩) = false from infosOk_bad (k := k) (m := ⟨1, [], -1⟩) (by simp [HL.out, hk]) (by decide))
  have HZ := Lib.hid (infosOk_set (k := k) HV.out infoZero_ok)
  have HFY := Lib.hid (shortF_set (k := k) (m := (⟨1, [], -1⟩ : Info)) HSH.out (by simp))
  have HFZ := Lib.hid (shortF_set (k := k) (m := Info.zero) HSH.out (by simp [Info.zero]))
  rcases hcc with hcc | hcc
  all_goals
    simp only [hcc, if_true, if_false] at RD
    go_wp2
    go_region_held3 (fun w' => True) (first | exact trivial | fail)
      (first
       | (refine step_t eltInfo (by rfl) _ _ (by rfl) _ _ (xs.take k) (by rfl) (by rfl) (H3.out.lit eltInfo #[] [] rfl (by simp)).drew (by exact (R0.out.below (balloc _ _).drew).take (by omega)) (by simp; omega) ?_; intro v' w' H4 hnil)
       | (refine step_t eltInfo (by rfl) _ _ (by rfl) _ _ (xs.drop (k + 1)) (by rfl) (by rfl) H4 (by have h9 := RdT.dropIf (j := k + 1) (H4.rd 1 rfl Info.enc_len) (by omega); simp only [hcc, if_true, if_false, Nat.zero_add] at h9; first | exact h9 | (rw [show 12 - (k + 1) = 11 - k by omega] at h9; exact h9) | (simp only [Nat.reduceSubDiff] at h9; exact h9)) (by simp; omega) ?_; intro v'' w'' H5 hnil2))
    have H5' := Lib.hid H5
    clear H4 H5 RD R0
    simp only [List.nil_append] at H5'
    go_upto_region 12 with (at_builtin; refine append_b eltInfo rfl _ _ rfl _ _ xs rfl rfl (H5'.out.lit eltInfo #[] [] rfl (by simp)) ((H5'.out.over _).rd 1 rfl Info.enc_len) (by have := HL.out; simp; omega) ?_; intro v3 w3 h6 hnil3; simp only [List.nil_append] at h6; obtain ⟨g3, c3, rfl, j1, t3, t4, t5, t6, t7⟩ := h6.at 0 rfl Info.enc_len HM.out; have d0 := t7 0 _ rfl; have d1 := t7 1 _ rfl; have d2 := t7 2 _ rfl; have f0 := t6 (k * 3); have f1 := t6 (k * 3 + 1); have f2 := t6 (k * 3 + 2); simp only [Nat.add_zero] at d0; have H7 := Lib.hid (h6.store3 Info.enc_len (x := ⟨1, [], -1⟩) (a1 := .int .i64 1) (a2 := .string ⟨#[]⟩) (a3 := .int .i64 (-1)) j1 rfl); unfold maxLen at t4; rw [HL.out] at H7 j1 t3 ⊢; clear h6 t6 t7 H5')
    go_wp2_with (at_builtin; refine append_b eltInfo rfl _ _ rfl _ _ xs rfl rfl (H7.out.litAt w3.heap.size eltInfo #[] [] 0 rfl rfl (by omega) (by simp)) ((H7.out.over _).rd 2 rfl Info.enc_len) (by have := HL.out; simp; omega) ?_; intro v4 w4 h8 hnil4; simp only [List.nil_append] at h8; obtain ⟨g4, c4, rfl, l1, q3, q4, q5, q6, q7⟩ := h8.at 0 rfl Info.enc_len HM.out; have e0 := q7 0 _ rfl; have e1 := q7 1 _ rfl; have e2 := q7 2 _ rfl; have r0 := q6 (k * 3); have r1 := q6 (k * 3 + 1); have r2 := q6 (k * 3 + 2); simp only [Nat.add_zero] at e0; have H9 := Lib.hid (h8.store3 Info.enc_len (x := Info.zero) (a1 := .int .i64 0) (a2 := .string ⟨#[]⟩) (a3 := .int .i64 0) l1 rfl); unfold maxLen at q4; rw [HL.out] at H9 l1 q3 ⊢; clear h8 q6 q7 H7 d0 d1 d2 f0 f1 f2)
    clear e0 e1 e2 r0 r1 r2
    go_wp2_with fail
    refine (implInfosValid_c (xs.take k ++ xs.drop (k + 1)) _ _ (H9.out.rd 2 rfl Info.enc_len) HFX.out.fit).mono ?_
    rintro e WH10 ⟨rfl, hb⟩
    rw [HX.out]
    have H10 := Lib.hid (H9.out.call hb)
    clear hb H9
    go_wp2_with fail
    refine (implInfosValid_c (xs.set k ⟨1, [], -1⟩) _ _ (H10.out.rd 1 rfl Info.enc_len) HFY.out.fit).mono ?_
    rintro e WH11 ⟨rfl, hb⟩
    rw [HY.out]
    have H11 := Lib.hid (H10.out.call hb)
    clear hb H10
    go_wp2_with fail
    refine (implInfosValid_c (xs.set k Info.zero) _ _ (H11.out.rd 0 rfl Info.enc_len) HFZ.out.fit).mono ?_
    rintro e WH12 ⟨rfl, hb⟩
    rw [HZ.out]
    have H12 := Lib.hid (H11.out.call hb)
    clear hb H11
    go_wp2
    go_ret
    exact ⟨rfl, H12.out.below⟩

set_option maxRecDepth 100000 in
theorem fnInfosPart_l (os : Os) (started : os.Started) (H : Type) (enc : TypeId × Value → H) :
    ReturnsInHanded {} Tryd.checked os 3 .any (fun w args => (Rows.fnInfosPartSpec.pre enc Tryd.prog Tryd.f3 [] false w args ∧ laidMetH Tryd.prog Rows.fnInfosPartRow.laid w) ∧ sizedMet enc Tryd.prog Tryd.f3 (OpenSpec.ofChange Rows.fnInfosPartSpec) false w args)
      (Rows.fnInfosPartSpec.post enc Tryd.prog Tryd.f3 false true false false) := by
  refine returnsInHanded_of_change_and (C := Tryd.checked) (X := fun w _ => laidMetH Tryd.prog Rows.fnInfosPartRow.laid w) (fun _ _ _ hh h => h.of_heap hh) own started (by kernel_rfl) Tryd.func3
    (ChangeSpec.witness_shaped (enc := enc) (C := Tryd.checked) (os := os) (X := fun w _ => laidMetH Tryd.prog Rows.fnInfosPartRow.laid w) false (World.laidAll Tryd.prog os Rows.fnInfosPartRow.laid) #[.slice none 0 0, .slice none 0 0] 8 (World.laidAll_os _ _ _)
      (World.shaped_of_ZipB (by kernel_rfl) (by kernel_rfl)) (by kernel_rfl) (by kernel_rfl) (by kernel_rfl)
      (by rw [MakeChecks.laidMetH_plain _ _ _ (by kernel_rfl)]; exact laidMet_laidAll _ (by kernel_rfl) (by kernel_rfl))) ?_
  intro W base args ds gs before hval0 hW _ _ _ _
  have hval : ∀ (j : Nat) t v, Tryd.f3.params[j]? = some t → args[j]? = some v → Value.okWide Tryd.prog W .any base t v := hval0
  have hW' := hW
  obtain ⟨p, q, hA0, hV, rfl, _, _⟩ := hW
  have hA : DataW.TrodAll enc Tryd.prog W 0 (fun _ => true) true Tryd.f3.params.toList args.toList ds p := hA0
  rw [Tryd.params3] at hA hval
  obtain ⟨v0, vs0, d0, ds0, p0, q0, hargs, rfl, rfl, h0, r0⟩ := trodAll_cons hA
  obtain ⟨v1, vs1, d1, ds1, p1, q1, rfl, rfl, rfl, h1, r1⟩ := trodAll_cons r0
  obtain ⟨rfl, rfl, rfl⟩ := trodAll_nil r1
  obtain rfl : args = #[v0, v1] := by cases args; simp_all
  obtain ⟨rfl, rfl⟩ := trodVars_none hV
  clear hA0 hval0
  simp only [List.append_nil] at hW'
  have hl0 : ∀ x ∈ p0, x.block < W.heap.size := fun x hx => by simpa using hW'.lt x (by simp [hx])
  have hl1 : ∀ x ∈ p1, x.block < W.heap.size := fun x hx => by simpa using hW'.lt x (by simp [hx])
  obtain ⟨x0, hx0, hg0⟩ := openBytes (hval 0 22 v0 rfl rfl) h0
  obtain ⟨x1, hx1, hg1⟩ := openBytes (hval 1 22 v1 rfl rfl) h1
  refine (fnInfosPart_w x0 v0 x1 v1 W hx0 hg0 hx1 hg1).mono fun e W' ⟨he, hb⟩ => ?_
  subst he
  refine ⟨_, rfl, _, _, _, [], p0 ++ p1, [], hW', trodAll_cons_mk (shut_bool Tryd.underlying4 _) trodAll_mk0, ?_, rfl, hb.frame _, fun h => by cases h⟩
  have hk := trodAll_cons_mk (Below.trod laidOut (by kernel_rfl) (of_decide_eq_true (by kernel_rfl)) h0 hb hl0) (trodAll_cons_mk (Below.trod laidOut (by kernel_rfl) (of_decide_eq_true (by kernel_rfl)) h1 hb hl1) (trodAll_mk0))
  simp only [List.append_nil] at hk
  exact hk

theorem fnInfosPart_row : Rows.FnInfosPartSaid :=
  OpenClaim.holds_of_wide 3 Tryd.f3 rfl rfl rfl rfl rfl rfl rfl ⟨rfl, rfl, rfl, rfl, rfl⟩ rfl rfl rfl rfl rfl (by kernel_rfl) Tryd.func3 (by kernel_rfl)
    (of_decide_eq_true (by kernel_rfl)) (by unfold Func.isWrapper; first | (rw [if_pos (by decide +kernel)]; kernel_rfl) | (rw [if_neg (by decide +kernel)]; exact ⟨rfl, rfl⟩))
    (fun os started H enc _ => fnInfosPart_l os started H enc)

theorem fnInfosPart_holds : Rows.FnInfosPartCardSaid :=
  Claim7.holds_tied_plain_at .later [] [.data, .pinned] true Rows.fnInfosPartCard.stood.harness false fnInfosPart_row (fun _ h => by cases h) (by kernel_rfl) (fun _ h => by cases h) fnInfosPart_row_tie rfl ⟨rfl, rfl⟩ (by kernel_rfl) rfl
    (fun f fn hf hfn => by
      obtain rfl : f = 3 := Option.some.inj ((show Tryd.prog.funcNamed "loop.example/exopager/laws.FnInfosPart" = some 3 by kernel_rfl).symm.trans hf) |>.symm
      obtain rfl : fn = Tryd.f3 := (Option.some.inj (Tryd.func3.symm.trans hfn)).symm
      exact ⟨by kernel_rfl, fun j t ht => by
        rw [Tryd.params3] at ht
        have hm : t ∈ [22, 22] := by simpa using Array.mem_of_getElem? ht
        have hall : ([22, 22].all fun u => !Tryd.prog.wantsStandIn u) = true := by kernel_rfl
        exact (show Tryd.prog.wantsStandIn t = false by simpa using List.all_eq_true.1 hall t hm)⟩)
    (by kernel_rfl)

end Go.Proofs.YtdeempkiffdlnaaDoor
