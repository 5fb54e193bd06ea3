/- FnPin returns true for all arguments. No conditions. -/
import Derived.Test.YtklphfmjdgnpnaaDoorTabS
import Derived.Test.YtklphfmjdgnpnaaDoorTabL
import Derived.Test.YtklphfmjdgnpnaaDoorTabF
import Derived.Test.YtklphfmjdgnpnaaDoorTabH
import Derived.Test.YtklphfmjdgnpnaaDoorTie
import Derived.Test.YtklphfmjdgnpnaaDoorCards
import Derived.Lay
import Derived.LaidOnce
import Derived.SevenTiedAt
namespace Go.Proofs.YtklphfmjdgnpnaaDoor
open Go.ChangeShapes Go.WideShapes Go.ChangeAt Go.RowKit
set_option linter.all false
set_option maxRecDepth 100000
attribute [local go_sem ↓] Go.wp_at_zero Go.wp_at_succ

set_option maxRecDepth 100000 in
set_option maxHeartbeats 8000000 in
theorem fnPin_w (bs : List Int) (v : Value) (w : World) (hx : RdB w v bs) (hbs : ∀ b ∈ bs, 0 ≤ b ∧ b ≤ 255) :
    Calls Tryd.prog 12 #[v] w fun e w' => e = .returned (.bool true) ∧ Below w.heap.size w w' := by
  have hx' := Lib.hid hx
  have HBS := Lib.hid hbs
  clear hbs
  obtain ⟨a, c, rfl, h1, h2, -, -⟩ := hx
  unfold maxLen at h2
  by_cases hlbs : bs.length ≤ 1048576
  rotate_left
  · go_enter Tryd.func12, Tryd.ntmps12
    go_wp2
    go_ret
    exact ⟨rfl, bref _⟩
  go_enter Tryd.func12, Tryd.ntmps12
  go_wp2_with fail
  refine (drawTablePin_b hx'.out HBS.out).mono ?_
  rintro e W1 ⟨q1, ss, m, q2, xs, q3, rs, f, kind, rfl, hdm, hl12, hshf, hlr, hshr, hf0, hf1, hk0, hk1, hB⟩
  have H1 := Lib.hid hB
  have HSF := Lib.hid hshf
  have HSR := Lib.hid hshr
  clear hB hshf hshr hdm
  go_wp2_with fail
  refine (implTablePin_c m xs q1 q2 q3 f kind rs _ (H1.out.rdN 2 3 rfl rfl encI_len) (H1.out.rd 1 rfl Info.enc_len) HSF.out.fit (H1.out.rd 0 rfl encS_len) HSR.out.fit).mono ?_
  rintro e WH2 ⟨p2, rfl, ho, hb⟩
  have H2 := Lib.hid (H1.out.addT ho hb)
  clear ho hb H1
  go_wp2_with fail
  refine (specTablePin_c m xs q1 q2 q3 f kind rs _ (H2.out.rdN 3 4 rfl rfl encI_len) (H2.out.rd 2 rfl Info.enc_len) HSF.out.fit (H2.out.rd 1 rfl encS_len) HSR.out.fit).mono ?_
  rintro e WH3 ⟨p3, rfl, ho, hb⟩
  have H3 := Lib.hid (H2.out.addT ho hb)
  clear ho hb H2
  obtain ⟨c0, hc0⟩ : ∃ c0, c0 = pinC m xs f kind rs := ⟨_, rfl⟩
  have HC0 := Lib.hid hc0
  rw [← hc0]
  clear hc0
  have hcc : (c0 != c0) = false := by simp
  have hce : (c0 == c0) = true := by simp
  by_cases hc : c0 = 0
  rotate_left
  · have hcb : (c0 != 0) = true := bne_iff_ne.2 hc
    clear hc
    go_wp2_with fail
    refine (sameInfos_c (pinL m xs f kind rs) (pinL m xs f kind rs) p2 p3 _ (H3.out.rd 1 rfl Info.enc_len) (H3.out.rd 0 rfl Info.enc_len)).mono ?_
    rintro e WH4 ⟨rfl, hb⟩
    rw [decide_eq_true (rfl : (pinL m xs f kind rs) = (pinL m xs f kind rs))]
    have H4 := Lib.hid (H3.out.call hb)
    clear hb H3
    go_wp2_with fail
    refine (sameInfos_c (pinL m xs f kind rs) (pinL m xs f kind rs) p2 p3 _ (H4.out.rd 1 rfl Info.enc_len) (H4.out.rd 0 rfl Info.enc_len)).mono ?_
    rintro e WH5 ⟨rfl, hb⟩
    rw [decide_eq_true (rfl : (pinL m xs f kind rs) = (pinL m xs f kind rs))]
    have H5 := Lib.hid (H4.out.call hb)
    clear hb H4
    go_wp2
    go_ret
    exact ⟨rfl, H5.out.below⟩
  subst hc
  have hdone := HC0.out.symm
  obtain ⟨hA, -, -, hio, hpl⟩ := pin_done hdone
  have HPL := Lib.hid hpl
  have HIO := Lib.hid hio
  go_wp2_with fail
  refine (sameInfos_c (pinL m xs f kind rs) (pinL m xs f kind rs) p2 p3 _ (H3.out.rd 1 rfl Info.enc_len) (H3.out.rd 0 rfl Info.enc_len)).mono ?_
  rintro e WH4 ⟨rfl, hb⟩
  rw [decide_eq_true (rfl : (pinL m xs f kind rs) = (pinL m xs f kind rs))]
  have H4 := Lib.hid (H3.out.call hb)
  clear hb H3
  rw [HPL.out] at H4
  obtain ⟨k, y, rfl, hk12, hy, hca, hcb, htok, hpk, hall⟩ := pin_count hdone
  have HL := Lib.hid (infosOk_len (arg_parts (pinA_arg hA).1).2.1)
  have HY := Lib.hid hy
  have HPK := Lib.hid hpk
  have HALL := Lib.hid hall
  have HCA := Lib.hid hca
  have HCB := Lib.hid hcb
  have HTK := Lib.hid htok
  have HSP := Lib.hid (shortF_pinned (m := m) (f := (k : Int)) (kind := kind) HSF.out)
  have hmo := (arg_parts (pinA_arg hA).1).1
  have HMR := Lib.hid (fun ws (hw : ws ∈ m) => (show ws.length ≤ 4 by rw [wordsOk_len (memOk_all hmo hw)]; exact Nat.le_refl _))
  have HREF := Lib.hid (fun y (hy : y ∈ xs) => infoOk_refs (infosOk_all (arg_parts (pinA_arg hA).1).2.1 hy))
  have HREP := Lib.hid (fun y (hy : y ∈ (pinned m xs k kind)) => infoOk_refs (infosOk_all hio hy))
  clear hdone hA hio hpl hy hpk hall hca hcb htok hmo
  go_wp2_with fail
  refine (implTableCount_c m xs q1 q2 _ (H4.out.rdN 4 5 rfl rfl encI_len) (H4.out.rd 3 rfl Info.enc_len) HSF.out.fit).mono ?_
  rintro e WH5 ⟨pa, rfl, ho, hb⟩
  have H5 := Lib.hid (H4.out.addT ho hb)
  clear ho hb H4
  rw [HCA.out] at H5
  go_wp2_with fail
  refine (implTableCount_c m (pinned m xs k kind) q1 p2 _ (H5.out.rdN 5 6 rfl rfl encI_len) (H5.out.rd 2 rfl Info.enc_len) HSP.out.fit).mono ?_
  rintro e WH6 ⟨pb, rfl, ho, hb⟩
  have H6 := Lib.hid (H5.out.addT ho hb)
  clear ho hb H5
  rw [HCB.out] at H6
  obtain ⟨gq, cq, rfl, -, s3, s4, -, -, -⟩ := H6.out.at 5 rfl Info.enc_len HY.out
  obtain ⟨gp, cp, rfl, -, r3, r4, -, -, tp⟩ := H6.out.at 3 rfl Info.enc_len HPK.out
  have dp0 := tp 0 _ rfl
  simp only [Nat.add_zero, Nat.zero_add] at dp0
  obtain ⟨ga, ca, rfl, -, t3, t4, -, -, -⟩ := H6.out.at 1 rfl encI_len (tab_get (cntTo m xs 12) (f := 0) (by omega))
  obtain ⟨gb, cb, rfl, -, u3, u4, -, -, -⟩ := H6.out.at 0 rfl encI_len (tab_get (cntTo m (pinned m xs k kind) 12) (f := 0) (by omega))
  simp only [pinned_len, HL.out, show (cnt m xs).length = 12 from tab_len _, show (cnt m (pinned m xs k kind)).length = 12 from tab_len _] at s3 r3 t3 u3 H6 ⊢
  unfold maxLen at s4 r4 t4 u4
  have hk0 : (0 : Int) ≤ (k : Int) := by omega
  have hk1 : (k : Int) < 12 := by omega
  have hkk : (kind != kind) = false := by simp
  clear tp
  go_wp2_with fail
  refine (implTableOk_c m xs q1 _ q3 k kind rs _ (H6.out.rdN 6 7 rfl rfl encI_len) (H6.out.rd 5 rfl Info.enc_len) HSF.out.fit (H6.out.rd 4 rfl encS_len) HSR.out.fit).mono ?_
  rintro e WH7 ⟨rfl, hb⟩
  rw [HTK.out]
  have H7 := Lib.hid (H6.out.call hb)
  clear hb H6
  clear dp0
  obtain ⟨gy, cy, egy, -, -, -, -, -, tgy⟩ := H7.out.at 3 rfl Info.enc_len HPK.out
  have dp0 := tgy 0 _ rfl
  simp only [Value.slice.injEq, Option.some.injEq, Addr.mk.injEq, and_true] at egy
  obtain ⟨rfl, -, rfl⟩ := egy
  (try simp only [Nat.add_zero, Nat.zero_add, Nat.mul_one] at dp0)
  clear tgy
  go_wp2
  go_loopw [14] (fun i wr => ∃ (j : Nat), j ≤ 12 ∧ i = .int .i64 j ∧ Bun w none wr [rowI (.slice (some ⟨gb, 0, none⟩) 12 cb) (cnt m (pinned m xs k kind)), rowI (.slice (some ⟨ga, 0, none⟩) 12 ca) (cnt m xs), rowF p3 (pinned m xs k kind), rowF (.slice (some ⟨gp, 0, none⟩) 12 cp) (pinned m xs k kind), rowT q3 rs, rowF (.slice (some ⟨gq, 0, none⟩) 12 cq) xs, rowS q1 ss, rowsI ss m]) (fun i _ => 12 - (intOf i).toNat)
  case atStart => exact ⟨0, Nat.zero_le _, rfl, H7.out⟩
  case round =>
    obtain ⟨j, hj, rfl, hB⟩ := hrel
    have HB := Lib.hid hB
    clear hB H7 dp0
    by_cases hlt : j < 12
    · have hj0 : (0 : Int) ≤ (j : Int) := by omega
      have hj1 : (j : Int) < 12 := by omega
      obtain ⟨y2, hy2⟩ : ∃ z, xs[j]? = some z := ⟨_, List.getElem?_eq_getElem (by have := HL.out; omega)⟩
      obtain ⟨z, hz, -, -, hdf⟩ := HALL.out j y2 hy2
      obtain ⟨g1, c1, eg1, -, -, -, -, -, tg1⟩ := HB.out.at 0 rfl encI_len (tab_get (cntTo m (pinned m xs k kind) 12) hlt)
      have b0 := tg1 0 _ rfl
      simp only [Value.slice.injEq, Option.some.injEq, Addr.mk.injEq, and_true] at eg1
      obtain ⟨rfl, -, rfl⟩ := eg1
      (try simp only [Nat.add_zero, Nat.zero_add, Nat.mul_one] at b0)
      clear tg1
      obtain ⟨g2, c2, eg2, -, -, -, -, -, tg2⟩ := HB.out.at 1 rfl encI_len (tab_get (cntTo m xs 12) hlt)
      have a0 := tg2 0 _ rfl
      simp only [Value.slice.injEq, Option.some.injEq, Addr.mk.injEq, and_true] at eg2
      obtain ⟨rfl, -, rfl⟩ := eg2
      (try simp only [Nat.add_zero, Nat.zero_add, Nat.mul_one] at a0)
      clear tg2
      obtain ⟨g3, c3, eg3, -, -, -, -, -, tg3⟩ := HB.out.at 3 rfl Info.enc_len hz
      have z2 := tg3 2 _ rfl
      simp only [Value.slice.injEq, Option.some.injEq, Addr.mk.injEq, and_true] at eg3
      obtain ⟨rfl, -, rfl⟩ := eg3
      (try simp only [Nat.add_zero, Nat.zero_add, Nat.mul_one] at z2)
      clear tg3
      obtain ⟨g4, c4, eg4, -, -, -, -, -, tg4⟩ := HB.out.at 5 rfl Info.enc_len hy2
      have yy2 := tg4 2 _ rfl
      simp only [Value.slice.injEq, Option.some.injEq, Addr.mk.injEq, and_true] at eg4
      obtain ⟨rfl, -, rfl⟩ := eg4
      (try simp only [Nat.add_zero, Nat.zero_add, Nat.mul_one] at yy2)
      clear tg4
      have r1 := HREF.out y2 (List.mem_of_getElem? hy2)
      have r2 := HREP.out z (List.mem_of_getElem? hz)
      have r3 := cntTo_in m xs HMR.out j 12
      have r4 := cntTo_in m (pinned m xs k kind) HMR.out j 12
      generalize cntTo m (pinned m xs k kind) 12 j = B at *
      generalize cntTo m xs 12 j = A at *
      generalize z.rf = Z at *
      generalize y2.rf = Y at *
      obtain ⟨r10, r11⟩ := r1
      obtain ⟨r20, r21⟩ := r2
      obtain ⟨r30, r31⟩ := r3
      obtain ⟨r40, r41⟩ := r4
      have hne : (Z - Y != B - A) = false := by simp [hdf]
      clear hdf hy2 hz
      go_wp2
      go_quiet (fail)
      go_wp2
      go_roundw
      case rel => exact ⟨j + 1, by omega, by go_num, HB.out.call (below_drewN (bref _) _)⟩
      case measure => simp [intOf]; omega
    · have HIO2 := HIO.out
      go_wp2_with fail
      refine (implInfosValid_c (pinned m xs k kind) _ _ (HB.out.rd 3 rfl Info.enc_len) HSP.out.fit).mono ?_
      rintro e Wz ⟨rfl, hb⟩
      rw [HIO.out]
      have HB2 := Lib.hid (HB.out.call hb)
      clear hb HB
      go_wp2
      go_ret
      exact ⟨rfl, HB2.out.below⟩

set_option maxRecDepth 100000 in
theorem fnPin_l (os : Os) (started : os.Started) (H : Type) (enc : TypeId × Value → H) :
    ReturnsInHanded {} Tryd.checked os 12 .any (fun w args => (Rows.fnPinSpec.pre enc Tryd.prog Tryd.f12 [] false w args ∧ laidMetH Tryd.prog Rows.fnPinRow.laid w) ∧ sizedMet enc Tryd.prog Tryd.f12 (OpenSpec.ofChange Rows.fnPinSpec) false w args)
      (Rows.fnPinSpec.post enc Tryd.prog Tryd.f12 false true false false) := by
  refine returnsInHanded_of_change_and (C := Tryd.checked) (X := fun w _ => laidMetH Tryd.prog Rows.fnPinRow.laid w) (fun _ _ _ hh h => h.of_heap hh) own started (by kernel_rfl) Tryd.func12
    (ChangeSpec.witness_shaped (enc := enc) (C := Tryd.checked) (os := os) (X := fun w _ => laidMetH Tryd.prog Rows.fnPinRow.laid w) false (World.laidAll Tryd.prog os Rows.fnPinRow.laid) #[.slice none 0 0] 8 (World.laidAll_os _ _ _)
      (World.shaped_of_ZipB (by kernel_rfl) (by kernel_rfl)) (by kernel_rfl) (by kernel_rfl) (by kernel_rfl)
      (by rw [MakeChecks.laidMetH_plain _ _ _ (by kernel_rfl)]; exact laidMet_laidAll _ (by kernel_rfl) (by kernel_rfl))) ?_
  intro W base args ds gs before hval0 hW _ _ _ _
  have hval : ∀ (j : Nat) t v, Tryd.f12.params[j]? = some t → args[j]? = some v → Value.okWide Tryd.prog W .any base t v := hval0
  have hW' := hW
  obtain ⟨p, q, hA0, hV, rfl, _, _⟩ := hW
  have hA : DataW.TrodAll enc Tryd.prog W 0 (fun _ => true) true Tryd.f12.params.toList args.toList ds p := hA0
  rw [Tryd.params12] at hA hval
  obtain ⟨v0, vs0, d0, ds0, p0, q0, hargs, rfl, rfl, h0, r0⟩ := trodAll_cons hA
  obtain ⟨rfl, rfl, rfl⟩ := trodAll_nil r0
  obtain rfl : args = #[v0] := by cases args; simp_all
  obtain ⟨rfl, rfl⟩ := trodVars_none hV
  clear hA0 hval0
  simp only [List.append_nil] at hW'
  have hl0 : ∀ x ∈ p0, x.block < W.heap.size := fun x hx => by simpa using hW'.lt x (by simp [hx])
  obtain ⟨x0, hx0, hg0⟩ := openBytes (hval 0 22 v0 rfl rfl) h0
  refine (fnPin_w x0 v0 W hx0 hg0).mono fun e W' ⟨he, hb⟩ => ?_
  subst he
  refine ⟨_, rfl, _, _, _, [], p0, [], hW', trodAll_cons_mk (shut_bool Tryd.underlying4 _) trodAll_mk0, ?_, rfl, hb.frame _, fun h => by cases h⟩
  have hk := trodAll_cons_mk (Below.trod laidOut (by kernel_rfl) (of_decide_eq_true (by kernel_rfl)) h0 hb hl0) (trodAll_mk0)
  simp only [List.append_nil] at hk
  exact hk

theorem fnPin_row : Rows.FnPinSaid :=
  OpenClaim.holds_of_wide 12 Tryd.f12 rfl rfl rfl rfl rfl rfl rfl ⟨rfl, rfl, rfl, rfl, rfl⟩ rfl rfl rfl rfl rfl (by kernel_rfl) Tryd.func12 (by kernel_rfl)
    (of_decide_eq_true (by kernel_rfl)) (by unfold Func.isWrapper; first | (rw [if_pos (by decide +kernel)]; kernel_rfl) | (rw [if_neg (by decide +kernel)]; exact ⟨rfl, rfl⟩))
    (fun os started H enc _ => fnPin_l os started H enc)

theorem fnPin_holds : Rows.FnPinCardSaid :=
  Claim7.holds_tied_plain_at .later [] [.data, .pinned] true Rows.fnPinCard.stood.harness false fnPin_row (fun _ h => by cases h) (by kernel_rfl) (fun _ h => by cases h) fnPin_row_tie rfl ⟨rfl, rfl⟩ (by kernel_rfl) rfl
    (fun f fn hf hfn => by
      obtain rfl : f = 12 := Option.some.inj ((show Tryd.prog.funcNamed "loop.example/exopager/laws.FnPin" = some 12 by kernel_rfl).symm.trans hf) |>.symm
      obtain rfl : fn = Tryd.f12 := (Option.some.inj (Tryd.func12.symm.trans hfn)).symm
      exact ⟨by kernel_rfl, fun j t ht => by
        rw [Tryd.params12] at ht
        have hm : t ∈ [22] := by simpa using Array.mem_of_getElem? ht
        have hall : ([22].all fun u => !Tryd.prog.wantsStandIn u) = true := by kernel_rfl
        exact (show Tryd.prog.wantsStandIn t = false by simpa using List.all_eq_true.1 hall t hm)⟩)
    (by kernel_rfl)

end Go.Proofs.YtklphfmjdgnpnaaDoor
