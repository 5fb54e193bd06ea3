/- FnTableEmpty returns true for all arguments. No conditions. -/
import Derived.Test.YtklphfmjdgnpnaaDoorTabS
import Derived.Test.YtklphfmjdgnpnaaDoorTabF
import Derived.Test.YtklphfmjdgnpnaaDoorTabG
import Derived.Test.YtklphfmjdgnpnaaDoorTie
import Derived.Test.YtklphfmjdgnpnaaDoorCards
import Derived.Lay
import Derived.LaidOnce
import Derived.SevenTiedAt
namespace Go.Proofs.YtklphfmjdgnpnaaDoor
open Go.ChangeShapes Go.WideShapes Go.ChangeAt Go.RowKit
set_option linter.all false
set_option maxRecDepth 100000
attribute [local go_sem ↓] Go.wp_at_zero Go.wp_at_succ

set_option maxRecDepth 100000 in
set_option maxHeartbeats 8000000 in
theorem fnTableEmpty_w (bs : List Int) (v : Value) (w : World) (hx : RdB w v bs) (hbs : ∀ b ∈ bs, 0 ≤ b ∧ b ≤ 255) :
    Calls Tryd.prog 5 #[v] w fun e w' => e = .returned (.bool true) ∧ Below w.heap.size w w' := by
  have hx' := Lib.hid hx
  have HBS := Lib.hid hbs
  clear hbs
  obtain ⟨a, c, rfl, h1, h2, -, -⟩ := hx
  unfold maxLen at h2
  by_cases hlbs : bs.length ≤ 1048576
  rotate_left
  · go_enter Tryd.func5, Tryd.ntmps5
    go_wp2
    go_ret
    exact ⟨rfl, bref _⟩
  go_enter Tryd.func5, Tryd.ntmps5
  go_wp2_with fail
  refine (drawTableOk_b hx'.out HBS.out).mono ?_
  rintro e W1 ⟨q1, ss, m, q2, xs, q3, rs, f, kind, rfl, hdm, hl12, hshf, hlr, hshr, hf0, hf1, hk0, hk1, hB⟩
  have H1 := Lib.hid hB
  have HSF := Lib.hid hshf
  have HSR := Lib.hid hshr
  clear hB hshf hshr hdm
  go_wp2_with fail
  refine (implTableOk_c m xs q1 q2 q3 f kind rs _ (H1.out.rdN 2 3 rfl rfl encI_len) (H1.out.rd 1 rfl Info.enc_len) HSF.out.fit (H1.out.rd 0 rfl encS_len) HSR.out.fit).mono ?_
  rintro e WH2 ⟨rfl, hb⟩
  have H2 := Lib.hid (H1.out.call hb)
  clear hb H1
  go_wp2_with fail
  refine (specTableOk_c m xs q1 q2 q3 f kind rs _ (H2.out.rdN 2 3 rfl rfl encI_len) (H2.out.rd 1 rfl Info.enc_len) HSF.out.fit (H2.out.rd 0 rfl encS_len) HSR.out.fit).mono ?_
  rintro e WH3 ⟨rfl, hb⟩
  have H3 := Lib.hid (H2.out.call hb)
  clear hb H2
  cases hxo : infosOk xs
  · have HXO := Lib.hid hxo
    clear hxo
    go_wp2_with fail
    refine (specInfosValid_c xs q2 _ (H3.out.rd 1 rfl Info.enc_len) HSF.out.fit).mono ?_
    rintro e WH4 ⟨rfl, hb⟩
    rw [HXO.out]
    have H4 := Lib.hid (H3.out.call hb)
    clear hb H3
    go_wp2
    go_ret
    exact ⟨rfl, H4.out.below⟩
  cases hro : rightsOk rs
  · have HXO := Lib.hid hxo
    have HRO := Lib.hid hro
    clear hxo hro
    go_wp2_with fail
    refine (specInfosValid_c xs q2 _ (H3.out.rd 1 rfl Info.enc_len) HSF.out.fit).mono ?_
    rintro e WH4 ⟨rfl, hb⟩
    rw [HXO.out]
    have H4 := Lib.hid (H3.out.call hb)
    clear hb H3
    go_wp2_with fail
    refine (specRightsValid_c rs q3 _ (H4.out.rd 0 rfl encS_len) HSR.out.fit).mono ?_
    rintro e WH5 ⟨rfl, hb⟩
    rw [HRO.out]
    have H5 := Lib.hid (H4.out.call hb)
    clear hb H4
    go_wp2
    go_ret
    exact ⟨rfl, H5.out.below⟩
  have HXO := Lib.hid hxo
  have HRO := Lib.hid hro
  clear hxo hro
  go_wp2_with fail
  refine (specInfosValid_c xs q2 _ (H3.out.rd 1 rfl Info.enc_len) HSF.out.fit).mono ?_
  rintro e WH4 ⟨rfl, hb⟩
  rw [HXO.out]
  have H4 := Lib.hid (H3.out.call hb)
  clear hb H3
  go_wp2_with fail
  refine (specRightsValid_c rs q3 _ (H4.out.rd 0 rfl encS_len) HSR.out.fit).mono ?_
  rintro e WH5 ⟨rfl, hb⟩
  rw [HRO.out]
  have H5 := Lib.hid (H4.out.call hb)
  clear hb H4
  go_wp2_with fail
  refine (implMemoryClear_c m q1 f _ (H5.out.rdN 2 3 rfl rfl encI_len)).mono ?_
  rintro e W6 ⟨p6, rfl, ho, hb⟩
  cases hc : memClrB m f
  · have HC := Lib.hid hc
    have H6 := Lib.hid (H5.out.call hb)
    clear hb ho hc
    go_wp2
    go_ret
    exact ⟨rfl, H6.out.below⟩
  obtain ⟨hmo, hf⟩ : memOk m = true ∧ btw 0 f 11 = true := by simpa [memClrB] using hc
  have hff := hf
  simp only [btw, decide_eq_true_eq] at hff
  obtain ⟨k, rfl⟩ := Int.eq_ofNat_of_zero_le hff.1
  have hk12 : k < 12 := by omega
  have HCL := Lib.hid (show memClrL m k = clearM m k by simp only [memClrL, hc, if_true]; rfl)
  have HT := fun kd (hkd : tabK kd = true) => Lib.hid (show tokB (clearM m k) xs k kd rs = true by
    have h1 := clear_good (xs := xs) (kind := kd) (rs := rs) (memOk_len hmo) hk12
    simp [tokB, argB, clear_ok hmo, hf, HXO.out, hkd, HRO.out, h1])
  have HT2 := HT 2 (by decide)
  have HT3 := HT 3 (by decide)
  rw [HCL.out] at ho
  obtain ⟨ss6, h6⟩ := H5.out.addN neSl ho hb
  have H6 := Lib.hid h6
  clear h6 ho hb H5 HT hc hmo hf hff
  go_wp2_with fail
  refine (implTableOk_c (clearM m k) xs p6 q2 q3 k 2 rs _ (H6.out.rdN 0 1 rfl rfl encI_len) (H6.out.rd 3 rfl Info.enc_len) HSF.out.fit (H6.out.rd 2 rfl encS_len) HSR.out.fit).mono ?_
  rintro e WH7 ⟨rfl, hb⟩
  rw [HT2.out]
  have H7 := Lib.hid (H6.out.call hb)
  clear hb H6
  go_wp2_with fail
  refine (implTableOk_c (clearM m k) xs p6 q2 q3 k 3 rs _ (H7.out.rdN 0 1 rfl rfl encI_len) (H7.out.rd 3 rfl Info.enc_len) HSF.out.fit (H7.out.rd 2 rfl encS_len) HSR.out.fit).mono ?_
  rintro e WH8 ⟨rfl, hb⟩
  rw [HT3.out]
  have H8 := Lib.hid (H7.out.call hb)
  clear hb H7
  go_wp2
  go_ret
  exact ⟨rfl, H8.out.below⟩

set_option maxRecDepth 100000 in
theorem fnTableEmpty_l (os : Os) (started : os.Started) (H : Type) (enc : TypeId × Value → H) :
    ReturnsInHanded {} Tryd.checked os 5 .any (fun w args => (Rows.fnTableEmptySpec.pre enc Tryd.prog Tryd.f5 [] false w args ∧ laidMetH Tryd.prog Rows.fnTableEmptyRow.laid w) ∧ sizedMet enc Tryd.prog Tryd.f5 (OpenSpec.ofChange Rows.fnTableEmptySpec) false w args)
      (Rows.fnTableEmptySpec.post enc Tryd.prog Tryd.f5 false true false false) := by
  refine returnsInHanded_of_change_and (C := Tryd.checked) (X := fun w _ => laidMetH Tryd.prog Rows.fnTableEmptyRow.laid w) (fun _ _ _ hh h => h.of_heap hh) own started (by kernel_rfl) Tryd.func5
    (ChangeSpec.witness_shaped (enc := enc) (C := Tryd.checked) (os := os) (X := fun w _ => laidMetH Tryd.prog Rows.fnTableEmptyRow.laid w) false (World.laidAll Tryd.prog os Rows.fnTableEmptyRow.laid) #[.slice none 0 0] 8 (World.laidAll_os _ _ _)
      (World.shaped_of_ZipB (by kernel_rfl) (by kernel_rfl)) (by kernel_rfl) (by kernel_rfl) (by kernel_rfl)
      (by rw [MakeChecks.laidMetH_plain _ _ _ (by kernel_rfl)]; exact laidMet_laidAll _ (by kernel_rfl) (by kernel_rfl))) ?_
  intro W base args ds gs before hval0 hW _ _ _ _
  have hval : ∀ (j : Nat) t v, Tryd.f5.params[j]? = some t → args[j]? = some v → Value.okWide Tryd.prog W .any base t v := hval0
  have hW' := hW
  obtain ⟨p, q, hA0, hV, rfl, _, _⟩ := hW
  have hA : DataW.TrodAll enc Tryd.prog W 0 (fun _ => true) true Tryd.f5.params.toList args.toList ds p := hA0
  rw [Tryd.params5] at hA hval
  obtain ⟨v0, vs0, d0, ds0, p0, q0, hargs, rfl, rfl, h0, r0⟩ := trodAll_cons hA
  obtain ⟨rfl, rfl, rfl⟩ := trodAll_nil r0
  obtain rfl : args = #[v0] := by cases args; simp_all
  obtain ⟨rfl, rfl⟩ := trodVars_none hV
  clear hA0 hval0
  simp only [List.append_nil] at hW'
  have hl0 : ∀ x ∈ p0, x.block < W.heap.size := fun x hx => by simpa using hW'.lt x (by simp [hx])
  obtain ⟨x0, hx0, hg0⟩ := openBytes (hval 0 22 v0 rfl rfl) h0
  refine (fnTableEmpty_w x0 v0 W hx0 hg0).mono fun e W' ⟨he, hb⟩ => ?_
  subst he
  refine ⟨_, rfl, _, _, _, [], p0, [], hW', trodAll_cons_mk (shut_bool Tryd.underlying4 _) trodAll_mk0, ?_, rfl, hb.frame _, fun h => by cases h⟩
  have hk := trodAll_cons_mk (Below.trod laidOut (by kernel_rfl) (of_decide_eq_true (by kernel_rfl)) h0 hb hl0) (trodAll_mk0)
  simp only [List.append_nil] at hk
  exact hk

theorem fnTableEmpty_row : Rows.FnTableEmptySaid :=
  OpenClaim.holds_of_wide 5 Tryd.f5 rfl rfl rfl rfl rfl rfl rfl ⟨rfl, rfl, rfl, rfl, rfl⟩ rfl rfl rfl rfl rfl (by kernel_rfl) Tryd.func5 (by kernel_rfl)
    (of_decide_eq_true (by kernel_rfl)) (by unfold Func.isWrapper; first | (rw [if_pos (by decide +kernel)]; kernel_rfl) | (rw [if_neg (by decide +kernel)]; exact ⟨rfl, rfl⟩))
    (fun os started H enc _ => fnTableEmpty_l os started H enc)

theorem fnTableEmpty_holds : Rows.FnTableEmptyCardSaid :=
  Claim7.holds_tied_plain_at .later [] [.data, .pinned] true Rows.fnTableEmptyCard.stood.harness false fnTableEmpty_row (fun _ h => by cases h) (by kernel_rfl) (fun _ h => by cases h) fnTableEmpty_row_tie rfl ⟨rfl, rfl⟩ (by kernel_rfl) rfl
    (fun f fn hf hfn => by
      obtain rfl : f = 5 := Option.some.inj ((show Tryd.prog.funcNamed "loop.example/exopager/laws.FnTableEmpty" = some 5 by kernel_rfl).symm.trans hf) |>.symm
      obtain rfl : fn = Tryd.f5 := (Option.some.inj (Tryd.func5.symm.trans hfn)).symm
      exact ⟨by kernel_rfl, fun j t ht => by
        rw [Tryd.params5] at ht
        have hm : t ∈ [22] := by simpa using Array.mem_of_getElem? ht
        have hall : ([22].all fun u => !Tryd.prog.wantsStandIn u) = true := by kernel_rfl
        exact (show Tryd.prog.wantsStandIn t = false by simpa using List.all_eq_true.1 hall t hm)⟩)
    (by kernel_rfl)

end Go.Proofs.YtklphfmjdgnpnaaDoor
