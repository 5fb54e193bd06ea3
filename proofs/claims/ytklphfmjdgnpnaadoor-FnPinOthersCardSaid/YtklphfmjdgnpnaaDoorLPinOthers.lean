/- FnPinOthers returns true for all arguments. No conditions. -/
import Derived.Test.YtklphfmjdgnpnaaDoorTabS
import Derived.Test.YtklphfmjdgnpnaaDoorTabL
import Derived.Test.YtklphfmjdgnpnaaDoorTie
import Derived.Test.YtklphfmjdgnpnaaDoorCards
import Derived.Lay
import Derived.LaidOnce
import Derived.SevenTiedAt
namespace Go.Proofs.YtklphfmjdgnpnaaDoor
open Go.ChangeShapes Go.WideShapes Go.ChangeAt Go.RowKit
set_option linter.all false
set_option maxRecDepth 100000
attribute [local go_sem ↓] Go.wp_at_zero Go.wp_at_succ

set_option maxRecDepth 100000 in
set_option maxHeartbeats 8000000 in
theorem fnPinOthers_w (bs : List Int) (v : Value) (w : World) (hx : RdB w v bs) (hbs : ∀ b ∈ bs, 0 ≤ b ∧ b ≤ 255) :
    Calls Tryd.prog 9 #[v] w fun e w' => e = .returned (.bool true) ∧ Below w.heap.size w w' := by
  have hx' := Lib.hid hx
  have HBS := Lib.hid hbs
  clear hbs
  obtain ⟨a, c, rfl, h1, h2, -, -⟩ := hx
  unfold maxLen at h2
  by_cases hlbs : bs.length ≤ 1048576
  rotate_left
  · go_enter Tryd.func9, Tryd.ntmps9
    go_wp2
    go_ret
    exact ⟨rfl, bref _⟩
  go_enter Tryd.func9, Tryd.ntmps9
  go_wp2_with fail
  refine (drawTablePin_b hx'.out HBS.out).mono ?_
  rintro e W1 ⟨q1, ss, m, q2, xs, q3, rs, f, kind, rfl, hdm, hl12, hshf, hlr, hshr, hf0, hf1, hk0, hk1, hB⟩
  have H1 := Lib.hid hB
  have HSF := Lib.hid hshf
  have HSR := Lib.hid hshr
  clear hB hshf hshr hdm
  go_wp2_with fail
  refine (implTablePin_c m xs q1 q2 q3 f kind rs _ (H1.out.rdN 2 3 rfl rfl encI_len) (H1.out.rd 1 rfl Info.enc_len) HSF.out.fit (H1.out.rd 0 rfl encS_len) HSR.out.fit).mono ?_
  rintro e WH2 ⟨p2, rfl, ho, hb⟩
  have H2 := Lib.hid (H1.out.addT ho hb)
  clear ho hb H1
  go_wp2_with fail
  refine (specTablePin_c m xs q1 q2 q3 f kind rs _ (H2.out.rdN 3 4 rfl rfl encI_len) (H2.out.rd 2 rfl Info.enc_len) HSF.out.fit (H2.out.rd 1 rfl encS_len) HSR.out.fit).mono ?_
  rintro e WH3 ⟨p3, rfl, ho, hb⟩
  have H3 := Lib.hid (H2.out.addT ho hb)
  clear ho hb H2
  obtain ⟨c0, hc0⟩ : ∃ c0, c0 = pinC m xs f kind rs := ⟨_, rfl⟩
  have HC0 := Lib.hid hc0
  rw [← hc0]
  clear hc0
  have hcc : (c0 != c0) = false := by simp
  have hce : (c0 == c0) = true := by simp
  by_cases hc : c0 = 0
  rotate_left
  · have hcb : (c0 != 0) = true := bne_iff_ne.2 hc
    clear hc
    go_wp2_with fail
    refine (sameInfos_c (pinL m xs f kind rs) (pinL m xs f kind rs) p2 p3 _ (H3.out.rd 1 rfl Info.enc_len) (H3.out.rd 0 rfl Info.enc_len)).mono ?_
    rintro e WH4 ⟨rfl, hb⟩
    rw [decide_eq_true (rfl : (pinL m xs f kind rs) = (pinL m xs f kind rs))]
    have H4 := Lib.hid (H3.out.call hb)
    clear hb H3
    go_wp2_with fail
    refine (sameInfos_c (pinL m xs f kind rs) (pinL m xs f kind rs) p2 p3 _ (H4.out.rd 1 rfl Info.enc_len) (H4.out.rd 0 rfl Info.enc_len)).mono ?_
    rintro e WH5 ⟨rfl, hb⟩
    rw [decide_eq_true (rfl : (pinL m xs f kind rs) = (pinL m xs f kind rs))]
    have H5 := Lib.hid (H4.out.call hb)
    clear hb H4
    go_wp2
    go_ret
    exact ⟨rfl, H5.out.below⟩
  subst hc
  have hdone := HC0.out.symm
  obtain ⟨hA, -, -, hio, hpl⟩ := pin_done hdone
  have HPL := Lib.hid hpl
  have HIO := Lib.hid hio
  go_wp2_with fail
  refine (sameInfos_c (pinL m xs f kind rs) (pinL m xs f kind rs) p2 p3 _ (H3.out.rd 1 rfl Info.enc_len) (H3.out.rd 0 rfl Info.enc_len)).mono ?_
  rintro e WH4 ⟨rfl, hb⟩
  rw [decide_eq_true (rfl : (pinL m xs f kind rs) = (pinL m xs f kind rs))]
  have H4 := Lib.hid (H3.out.call hb)
  clear hb H3
  rw [HPL.out] at H4
  obtain ⟨k, y, rfl, hk12, hy, hca, hcb, htok, hpk, hall⟩ := pin_count hdone
  have HL := Lib.hid (infosOk_len (arg_parts (pinA_arg hA).1).2.1)
  have HY := Lib.hid hy
  have HPK := Lib.hid hpk
  have HALL := Lib.hid hall
  clear hdone hA hio hpl hy hpk hall hca hcb htok
  obtain ⟨gq, cq, rfl, -, s3, s4, -, -, -⟩ := H4.out.at 3 rfl Info.enc_len HY.out
  obtain ⟨gp, cp, rfl, -, r3, r4, -, -, -⟩ := H4.out.at 1 rfl Info.enc_len HPK.out
  simp only [pinned_len, HL.out] at s3 r3 H4 ⊢
  unfold maxLen at s4 r4
  go_wp2
  go_loopw [12] (fun i wr => ∃ (j : Nat), j ≤ 12 ∧ i = .int .i64 j ∧ Bun w none wr [Res.row Info.enc 3 36 p3 (pinL m xs k kind rs), rowF (.slice (some ⟨gp, 0, none⟩) 12 cp) (pinned m xs k kind), rowT q3 rs, rowF (.slice (some ⟨gq, 0, none⟩) 12 cq) xs, rowS q1 ss, rowsI ss m]) (fun i _ => 12 - (intOf i).toNat)
  case atStart => exact ⟨0, Nat.zero_le _, rfl, by rw [HPL.out]; exact H4.out⟩
  case round =>
    obtain ⟨j, hj, rfl, hB⟩ := hrel
    have HB := Lib.hid hB
    clear hB
    by_cases hlt : j < 12
    · have hj0 : (0 : Int) ≤ (j : Int) := by omega
      have hj1 : (j : Int) < 12 := by omega
      obtain ⟨y2, hy2⟩ : ∃ z, xs[j]? = some z := ⟨_, List.getElem?_eq_getElem (by have := HL.out; omega)⟩
      obtain ⟨z, hz, hzg, hzk, -⟩ := HALL.out j y2 hy2
      obtain ⟨ga, ca, ea, -, -, -, -, -, ta⟩ := HB.out.at 1 rfl Info.enc_len hz
      have da0 := ta 0 _ rfl
      have da1 := ta 1 _ rfl
      have da2 := ta 2 _ rfl
      simp only [Value.slice.injEq, Option.some.injEq, Addr.mk.injEq, and_true] at ea
      obtain ⟨rfl, -, rfl⟩ := ea
      simp only [Nat.add_zero, Nat.zero_add] at da0
      clear ta
      obtain ⟨gb, cb, eb, -, -, -, -, -, tb⟩ := HB.out.at 3 rfl Info.enc_len hy2
      have db0 := tb 0 _ rfl
      have db1 := tb 1 _ rfl
      have db2 := tb 2 _ rfl
      simp only [Value.slice.injEq, Option.some.injEq, Addr.mk.injEq, and_true] at eb
      obtain ⟨rfl, -, rfl⟩ := eb
      simp only [Nat.add_zero, Nat.zero_add] at db0
      clear tb
      rw [hzg] at da1
      have hgg : (y2.gd != y2.gd) = false := by simp
      have hgg2 : (y2.gd == y2.gd) = true := by simp
      by_cases hjk : j = k
      · have hjn : ((j : Int) != (k : Int)) = false := by simp [hjk]
        have hje : ((j : Int) == (k : Int)) = true := by simp [hjk]
        clear hjk hzk hzg hz hy2
        go_wp2
        go_quiet (fail)
        go_wp2
        go_roundw
        case rel => exact ⟨j + 1, by omega, by go_num, HB.out.call (below_drewN (bref _) _)⟩
        case measure => simp [intOf]; omega
      · have hjn : ((j : Int) != (k : Int)) = true := by rw [bne_iff_ne]; omega
        have hje : ((j : Int) == (k : Int)) = false := by rw [beq_eq_false_iff_ne]; omega
        have hkk := hzk hjk
        rw [hkk] at da0
        have hk1 : (y2.kd != y2.kd) = false := by simp
        have hk2 : (y2.kd == y2.kd) = true := by simp
        clear hjk hzk hzg hz hy2 hkk
        go_wp2
        go_quiet (fail)
        go_wp2
        go_roundw
        case rel => exact ⟨j + 1, by omega, by go_num, HB.out.call (below_drewN (bref _) _)⟩
        case measure => simp [intOf]; omega
    · go_wp2
      go_ret
      exact ⟨rfl, HB.out.below⟩

set_option maxRecDepth 100000 in
theorem fnPinOthers_l (os : Os) (started : os.Started) (H : Type) (enc : TypeId × Value → H) :
    ReturnsInHanded {} Tryd.checked os 9 .any (fun w args => (Rows.fnPinOthersSpec.pre enc Tryd.prog Tryd.f9 [] false w args ∧ laidMetH Tryd.prog Rows.fnPinOthersRow.laid w) ∧ sizedMet enc Tryd.prog Tryd.f9 (OpenSpec.ofChange Rows.fnPinOthersSpec) false w args)
      (Rows.fnPinOthersSpec.post enc Tryd.prog Tryd.f9 false true false false) := by
  refine returnsInHanded_of_change_and (C := Tryd.checked) (X := fun w _ => laidMetH Tryd.prog Rows.fnPinOthersRow.laid w) (fun _ _ _ hh h => h.of_heap hh) own started (by kernel_rfl) Tryd.func9
    (ChangeSpec.witness_shaped (enc := enc) (C := Tryd.checked) (os := os) (X := fun w _ => laidMetH Tryd.prog Rows.fnPinOthersRow.laid w) false (World.laidAll Tryd.prog os Rows.fnPinOthersRow.laid) #[.slice none 0 0] 8 (World.laidAll_os _ _ _)
      (World.shaped_of_ZipB (by kernel_rfl) (by kernel_rfl)) (by kernel_rfl) (by kernel_rfl) (by kernel_rfl)
      (by rw [MakeChecks.laidMetH_plain _ _ _ (by kernel_rfl)]; exact laidMet_laidAll _ (by kernel_rfl) (by kernel_rfl))) ?_
  intro W base args ds gs before hval0 hW _ _ _ _
  have hval : ∀ (j : Nat) t v, Tryd.f9.params[j]? = some t → args[j]? = some v → Value.okWide Tryd.prog W .any base t v := hval0
  have hW' := hW
  obtain ⟨p, q, hA0, hV, rfl, _, _⟩ := hW
  have hA : DataW.TrodAll enc Tryd.prog W 0 (fun _ => true) true Tryd.f9.params.toList args.toList ds p := hA0
  rw [Tryd.params9] at hA hval
  obtain ⟨v0, vs0, d0, ds0, p0, q0, hargs, rfl, rfl, h0, r0⟩ := trodAll_cons hA
  obtain ⟨rfl, rfl, rfl⟩ := trodAll_nil r0
  obtain rfl : args = #[v0] := by cases args; simp_all
  obtain ⟨rfl, rfl⟩ := trodVars_none hV
  clear hA0 hval0
  simp only [List.append_nil] at hW'
  have hl0 : ∀ x ∈ p0, x.block < W.heap.size := fun x hx => by simpa using hW'.lt x (by simp [hx])
  obtain ⟨x0, hx0, hg0⟩ := openBytes (hval 0 22 v0 rfl rfl) h0
  refine (fnPinOthers_w x0 v0 W hx0 hg0).mono fun e W' ⟨he, hb⟩ => ?_
  subst he
  refine ⟨_, rfl, _, _, _, [], p0, [], hW', trodAll_cons_mk (shut_bool Tryd.underlying4 _) trodAll_mk0, ?_, rfl, hb.frame _, fun h => by cases h⟩
  have hk := trodAll_cons_mk (Below.trod laidOut (by kernel_rfl) (of_decide_eq_true (by kernel_rfl)) h0 hb hl0) (trodAll_mk0)
  simp only [List.append_nil] at hk
  exact hk

theorem fnPinOthers_row : Rows.FnPinOthersSaid :=
  OpenClaim.holds_of_wide 9 Tryd.f9 rfl rfl rfl rfl rfl rfl rfl ⟨rfl, rfl, rfl, rfl, rfl⟩ rfl rfl rfl rfl rfl (by kernel_rfl) Tryd.func9 (by kernel_rfl)
    (of_decide_eq_true (by kernel_rfl)) (by unfold Func.isWrapper; first | (rw [if_pos (by decide +kernel)]; kernel_rfl) | (rw [if_neg (by decide +kernel)]; exact ⟨rfl, rfl⟩))
    (fun os started H enc _ => fnPinOthers_l os started H enc)

theorem fnPinOthers_holds : Rows.FnPinOthersCardSaid :=
  Claim7.holds_tied_plain_at .later [] [.data, .pinned] true Rows.fnPinOthersCard.stood.harness false fnPinOthers_row (fun _ h => by cases h) (by kernel_rfl) (fun _ h => by cases h) fnPinOthers_row_tie rfl ⟨rfl, rfl⟩ (by kernel_rfl) rfl
    (fun f fn hf hfn => by
      obtain rfl : f = 9 := Option.some.inj ((show Tryd.prog.funcNamed "loop.example/exopager/laws.FnPinOthers" = some 9 by kernel_rfl).symm.trans hf) |>.symm
      obtain rfl : fn = Tryd.f9 := (Option.some.inj (Tryd.func9.symm.trans hfn)).symm
      exact ⟨by kernel_rfl, fun j t ht => by
        rw [Tryd.params9] at ht
        have hm : t ∈ [22] := by simpa using Array.mem_of_getElem? ht
        have hall : ([22].all fun u => !Tryd.prog.wantsStandIn u) = true := by kernel_rfl
        exact (show Tryd.prog.wantsStandIn t = false by simpa using List.all_eq_true.1 hall t hm)⟩)
    (by kernel_rfl)

end Go.Proofs.YtklphfmjdgnpnaaDoor
