/- FnInfosTake returns true for all codes. No conditions. -/
import Derived.Test.YtdeempkiffdlnaaDoorInfoI
import Derived.Test.YtdeempkiffdlnaaDoorOpen
import Derived.Test.YtdeempkiffdlnaaDoorTie
import Derived.Test.YtdeempkiffdlnaaDoorCards
import Derived.Lay
import Derived.LaidOnce
import Derived.SevenTiedAt
namespace Go.Proofs.YtdeempkiffdlnaaDoor
open Go.ChangeShapes Go.WideShapes Go.ChangeAt Go.RowKit
set_option linter.all false
attribute [local go_sem ↓] Go.wp_at_zero Go.wp_at_succ

set_option maxRecDepth 100000 in
set_option maxHeartbeats 8000000 in
theorem fnInfosTake_w (bs : List Int) (v : Value) (w : World) (hx : RdB w v bs) (hbs : ∀ b ∈ bs, 0 ≤ b ∧ b ≤ 255) :
    Calls Tryd.prog 10 #[v] w fun e w' => e = .returned (.bool true) ∧ Below w.heap.size w w' := by
  have hx' := Lib.hid hx
  have HBS := Lib.hid hbs
  clear hbs
  obtain ⟨a, c, rfl, h1, h2, -, -⟩ := hx
  unfold maxLen at h2
  by_cases hlbs : bs.length ≤ 1048576
  rotate_left
  · go_enter Tryd.func10, Tryd.ntmps10
    go_wp2
    go_ret
    exact ⟨rfl, bref _⟩
  go_enter Tryd.func10, Tryd.ntmps10
  go_wp2_with fail
  refine (drawInfosTake_b hx'.out HBS.out).mono ?_
  rintro e W1 ⟨u, xs, s, rfl, hl12, hsh, hs5, hB⟩
  have H1 := Lib.hid hB
  have HSH := Lib.hid hsh
  clear hB hsh
  go_wp2_with fail
  refine (implInfosTake_c xs u s _ (H1.out.rd 0 rfl Info.enc_len) HSH.out.fit (by omega)).mono ?_
  rintro e WH2 ⟨p2, rfl, ho, hb⟩
  have H2 := Lib.hid (H1.out.addT ho hb)
  clear ho hb H1
  go_wp2_with fail
  refine (specInfosTake_c xs u s _ (H2.out.rd 1 rfl Info.enc_len) HSH.out.fit (by omega)).mono ?_
  rintro e WH3 ⟨p3, rfl, ho, hb⟩
  have H3 := Lib.hid (H2.out.addT ho hb)
  clear ho hb H2
  cases hab : takB xs s
  all_goals
    have HAB := Lib.hid hab
    clear hab
    go_wp2_with fail
    refine (sameInfos_c (takL xs s) (takL xs s) p2 p3 _ (H3.out.rd 1 rfl Info.enc_len) (H3.out.rd 0 rfl Info.enc_len)).mono ?_
    rintro e WH4 ⟨rfl, hb⟩
    rw [decide_eq_true (rfl : (takL xs s) = (takL xs s))]
    have H4 := Lib.hid (H3.out.call hb)
    clear hb H3
  · go_wp2_with fail
    refine (sameInfos_c (takL xs s) (takL xs s) p2 p3 _ (H4.out.rd 1 rfl Info.enc_len) (H4.out.rd 0 rfl Info.enc_len)).mono ?_
    rintro e WH5 ⟨rfl, hb⟩
    rw [decide_eq_true (rfl : (takL xs s) = (takL xs s))]
    have H5 := Lib.hid (H4.out.call hb)
    clear hb H4
    go_wp2
    go_ret
    exact ⟨rfl, H5.out.below⟩
  · have HT3 := Lib.hid HAB.out
    obtain ⟨h1, h2, h3⟩ : infosOk xs = true ∧ rightOk s = true ∧ xs.any isFree0 = true := by have := HAB.out; simp only [takB, Bool.and_eq_true] at this; exact ⟨this.1.1, this.1.2, this.2⟩
    obtain ⟨k, hk, hfi, -, hA2, hA3, hz, hnone⟩ := takB_t h1 h2 h3
    have HA2 := Lib.hid hA2
    have HA3 := Lib.hid hA3
    have HZ := Lib.hid hz
    have HNO := Lib.hid hnone
    have HOK := Lib.hid h1
    have HRK := Lib.hid h2
    have HL := Lib.hid (infosOk_len h1)
    have HSO := Lib.hid (infosOk_set (k := k) h1 (infoData_ok h2))
    have HSF := Lib.hid (shortF_set (k := k) (m := (⟨1, s, 0⟩ : Info)) HSH.out hs5)
    clear h1 h2 h3 hfi hA2 hA3 hz hnone
    rw [HA3.out] at H4
    rw [HA2.out]
    have HFN := Lib.hid (show freeN (xs.set k ⟨1, s, 0⟩) = freeN xs - 1 by
      simp only [freeN, HSO.out, HOK.out, if_true]
      rw [count_set HZ.out]
      simp [isFree0, Info.zero])
    have HFB := Lib.hid (show 0 ≤ freeN xs ∧ freeN xs ≤ 12 by
      have := count_le xs
      simp only [freeN, HOK.out, if_true]
      rw [HL.out] at this
      omega)
    have HGK := Lib.hid (show (xs.set k ⟨1, s, 0⟩)[k]? = some ⟨1, s, 0⟩ by simp [HL.out, hk])
    obtain ⟨g, c, rfl, -, s3, s4, -, -, -⟩ := H4.out.at 2 rfl Info.enc_len HZ.out
    obtain ⟨g', c', rfl, -, s3', s4', -, -, -⟩ := H4.out.at 1 rfl Info.enc_len HGK.out
    simp only [List.length_set, HL.out] at s3 s3' H4 ⊢
    unfold maxLen at s4 s4'
    have hgd := guardInfo
    go_wp2
    go_loopw [11] (fun i wr => ∃ (j : Nat), j ≤ 12 ∧ i = .int .i64 j ∧ Bun w none wr [rowF p3 (xs.set k ⟨1, s, 0⟩), rowF (.slice (some ⟨g', 0, none⟩) 12 c') (xs.set k ⟨1, s, 0⟩), rowF (.slice (some ⟨g, 0, none⟩) 12 c) xs]) (fun i _ => 12 - (intOf i).toNat)
    case atStart => exact ⟨0, Nat.zero_le _, rfl, H4.out⟩
    case round =>
      obtain ⟨j, hj, rfl, hB⟩ := hrel
      have HB := Lib.hid hB
      clear hB
      by_cases hlt : j < 12
      · have hj0 : (0 : Int) ≤ (j : Int) := by omega
        have hj1 : (j : Int) < 12 := by omega
        by_cases hjk : j = k
        · subst hjk
          have hne := neqInfo ⟨1, s, 0⟩ ⟨1, s, 0⟩
          rw [decide_eq_true (rfl : (⟨1, s, 0⟩ : Info) = ⟨1, s, 0⟩)] at hne
          dsimp only at hne
          obtain ⟨ga, ca, ea, -, -, -, -, -, ta⟩ := HB.out.at 1 rfl Info.enc_len HGK.out
          have da0 := ta 0 _ rfl
          have da1 := ta 1 _ rfl
          have da2 := ta 2 _ rfl
          simp only [Value.slice.injEq, Option.some.injEq, Addr.mk.injEq, and_true] at ea
          obtain ⟨rfl, -, rfl⟩ := ea
          simp only [Nat.add_zero, Nat.zero_add] at da0
          clear ta
          obtain ⟨gb, cb, eb, -, -, -, -, -, tb⟩ := HB.out.at 2 rfl Info.enc_len HZ.out
          have db0 := tb 0 _ rfl
          have db1 := tb 1 _ rfl
          have db2 := tb 2 _ rfl
          simp only [Value.slice.injEq, Option.some.injEq, Addr.mk.injEq, and_true] at eb
          obtain ⟨rfl, -, rfl⟩ := eb
          simp only [Nat.add_zero, Nat.zero_add] at db0
          clear tb
          unfold Info.zero at db0 db1 db2
          have hjb : ((j : Int) == (j : Int)) = true := by simp
          have hjn : ((j : Int) != (j : Int)) = false := by simp
          have hjl : decide ((j : Int) < (j : Int)) = false := by simp
          have hjl2 : decide (j < j) = false := by simp
          go_wp2
          go_quiet (fail)
          go_wp2
          go_roundw
          case rel => exact ⟨j + 1, by omega, by go_num, HB.out.call (below_drewN (bref _) _)⟩
          case measure => simp [intOf]; omega
        · have hjb : ((j : Int) == (k : Int)) = false := by rw [beq_eq_false_iff_ne]; omega
          have hjn : ((j : Int) != (k : Int)) = true := by rw [bne_iff_ne]; omega
          obtain ⟨z, hz⟩ : ∃ z, xs[j]? = some z := ⟨_, List.getElem?_eq_getElem (by have := HL.out; omega)⟩
          have hz' : (xs.set k ⟨1, s, 0⟩)[j]? = some z := by rw [List.getElem?_set, if_neg (fun e => hjk e.symm)]; exact hz
          have hne := neqInfo z z
          rw [decide_eq_true (rfl : z = z)] at hne
          obtain ⟨ga, ca, ea, -, -, -, -, -, ta⟩ := HB.out.at 1 rfl Info.enc_len hz'
          have da0 := ta 0 _ rfl
          have da1 := ta 1 _ rfl
          have da2 := ta 2 _ rfl
          simp only [Value.slice.injEq, Option.some.injEq, Addr.mk.injEq, and_true] at ea
          obtain ⟨rfl, -, rfl⟩ := ea
          simp only [Nat.add_zero, Nat.zero_add] at da0
          clear ta
          obtain ⟨gb, cb, eb, -, -, -, -, -, tb⟩ := HB.out.at 2 rfl Info.enc_len hz
          have db0 := tb 0 _ rfl
          have db1 := tb 1 _ rfl
          have db2 := tb 2 _ rfl
          simp only [Value.slice.injEq, Option.some.injEq, Addr.mk.injEq, and_true] at eb
          obtain ⟨rfl, -, rfl⟩ := eb
          simp only [Nat.add_zero, Nat.zero_add] at db0
          clear tb
          by_cases hjl : j < k
          · have hkd : (z.kd == 0) = false := by
              have h0 := HNO.out
              rw [List.any_eq_false] at h0
              have h1 := h0 z (by rw [List.mem_take_iff_getElem]; obtain ⟨hl, he⟩ := List.getElem?_eq_some_iff.1 hz; exact ⟨j, by omega, he⟩)
              rw [isFree0_eq] at h1
              simpa using h1
            have hjl1 : decide ((j : Int) < (k : Int)) = true := by simp; omega
            have hjl2 : decide (j < k) = true := by simp; omega
            have hjl3 : (j : Int) < (k : Int) := by omega
            clear hz hz' hjk
            go_wp2
            go_quiet (fail)
            go_wp2
            go_roundw
            case rel => exact ⟨j + 1, by omega, by go_num, HB.out.call (below_drewN (bref _) _)⟩
            case measure => simp [intOf]; omega
          · have hjl1 : decide ((j : Int) < (k : Int)) = false := by simp; omega
            have hjl2 : decide (j < k) = false := by simp; omega
            have hjl3 : ¬ (j : Int) < (k : Int) := by omega
            clear hz hz' hjk
            go_wp2
            go_quiet (fail)
            go_wp2
            go_roundw
            case rel => exact ⟨j + 1, by omega, by go_num, HB.out.call (below_drewN (bref _) _)⟩
            case measure => simp [intOf]; omega
      · have hfb := HFB.out
        go_wp2_with fail
        refine (implInfosFree_c (xs.set k ⟨1, s, 0⟩) _ _ (HB.out.rd 1 rfl Info.enc_len) HSF.out.fit).mono ?_
        rintro e WH5 ⟨rfl, hb⟩
        rw [HFN.out]
        have H5 := Lib.hid (HB.out.call hb)
        clear hb HB
        go_wp2_with fail
        refine (implInfosFree_c xs _ _ (H5.out.rd 2 rfl Info.enc_len) HSH.out.fit).mono ?_
        rintro e WH6 ⟨rfl, hb⟩
        have H6 := Lib.hid (H5.out.call hb)
        clear hb H5
        go_wp2
        go_ret
        exact ⟨by simp, H6.out.below⟩

set_option maxRecDepth 100000 in
theorem fnInfosTake_l (os : Os) (started : os.Started) (H : Type) (enc : TypeId × Value → H) :
    ReturnsInHanded {} Tryd.checked os 10 .any (fun w args => (Rows.fnInfosTakeSpec.pre enc Tryd.prog Tryd.f10 [] false w args ∧ laidMetH Tryd.prog Rows.fnInfosTakeRow.laid w) ∧ sizedMet enc Tryd.prog Tryd.f10 (OpenSpec.ofChange Rows.fnInfosTakeSpec) false w args)
      (Rows.fnInfosTakeSpec.post enc Tryd.prog Tryd.f10 false true false false) := by
  refine returnsInHanded_of_change_and (C := Tryd.checked) (X := fun w _ => laidMetH Tryd.prog Rows.fnInfosTakeRow.laid w) (fun _ _ _ hh h => h.of_heap hh) own started (by kernel_rfl) Tryd.func10
    (ChangeSpec.witness_shaped (enc := enc) (C := Tryd.checked) (os := os) (X := fun w _ => laidMetH Tryd.prog Rows.fnInfosTakeRow.laid w) false (World.laidAll Tryd.prog os Rows.fnInfosTakeRow.laid) #[.slice none 0 0] 8 (World.laidAll_os _ _ _)
      (World.shaped_of_ZipB (by kernel_rfl) (by kernel_rfl)) (by kernel_rfl) (by kernel_rfl) (by kernel_rfl)
      (by rw [MakeChecks.laidMetH_plain _ _ _ (by kernel_rfl)]; exact laidMet_laidAll _ (by kernel_rfl) (by kernel_rfl))) ?_
  intro W base args ds gs before hval0 hW _ _ _ _
  have hval : ∀ (j : Nat) t v, Tryd.f10.params[j]? = some t → args[j]? = some v → Value.okWide Tryd.prog W .any base t v := hval0
  have hW' := hW
  obtain ⟨p, q, hA0, hV, rfl, _, _⟩ := hW
  have hA : DataW.TrodAll enc Tryd.prog W 0 (fun _ => true) true Tryd.f10.params.toList args.toList ds p := hA0
  rw [Tryd.params10] at hA hval
  obtain ⟨v0, vs0, d0, ds0, p0, q0, hargs, rfl, rfl, h0, r0⟩ := trodAll_cons hA
  obtain ⟨rfl, rfl, rfl⟩ := trodAll_nil r0
  obtain rfl : args = #[v0] := by cases args; simp_all
  obtain ⟨rfl, rfl⟩ := trodVars_none hV
  clear hA0 hval0
  simp only [List.append_nil] at hW'
  have hl0 : ∀ x ∈ p0, x.block < W.heap.size := fun x hx => by simpa using hW'.lt x (by simp [hx])
  obtain ⟨x0, hx0, hg0⟩ := openBytes (hval 0 22 v0 rfl rfl) h0
  refine (fnInfosTake_w x0 v0 W hx0 hg0).mono fun e W' ⟨he, hb⟩ => ?_
  subst he
  refine ⟨_, rfl, _, _, _, [], p0, [], hW', trodAll_cons_mk (shut_bool Tryd.underlying4 _) trodAll_mk0, ?_, rfl, hb.frame _, fun h => by cases h⟩
  have hk := trodAll_cons_mk (Below.trod laidOut (by kernel_rfl) (of_decide_eq_true (by kernel_rfl)) h0 hb hl0) (trodAll_mk0)
  simp only [List.append_nil] at hk
  exact hk

theorem fnInfosTake_row : Rows.FnInfosTakeSaid :=
  OpenClaim.holds_of_wide 10 Tryd.f10 rfl rfl rfl rfl rfl rfl rfl ⟨rfl, rfl, rfl, rfl, rfl⟩ rfl rfl rfl rfl rfl (by kernel_rfl) Tryd.func10 (by kernel_rfl)
    (of_decide_eq_true (by kernel_rfl)) (by unfold Func.isWrapper; first | (rw [if_pos (by decide +kernel)]; kernel_rfl) | (rw [if_neg (by decide +kernel)]; exact ⟨rfl, rfl⟩))
    (fun os started H enc _ => fnInfosTake_l os started H enc)

theorem fnInfosTake_holds : Rows.FnInfosTakeCardSaid :=
  Claim7.holds_tied_plain_at .later [] [.data, .pinned] true Rows.fnInfosTakeCard.stood.harness false fnInfosTake_row (fun _ h => by cases h) (by kernel_rfl) (fun _ h => by cases h) fnInfosTake_row_tie rfl ⟨rfl, rfl⟩ (by kernel_rfl) rfl
    (fun f fn hf hfn => by
      obtain rfl : f = 10 := Option.some.inj ((show Tryd.prog.funcNamed "loop.example/exopager/laws.FnInfosTake" = some 10 by kernel_rfl).symm.trans hf) |>.symm
      obtain rfl : fn = Tryd.f10 := (Option.some.inj (Tryd.func10.symm.trans hfn)).symm
      exact ⟨by kernel_rfl, fun j t ht => by
        rw [Tryd.params10] at ht
        have hm : t ∈ [22] := by simpa using Array.mem_of_getElem? ht
        have hall : ([22].all fun u => !Tryd.prog.wantsStandIn u) = true := by kernel_rfl
        exact (show Tryd.prog.wantsStandIn t = false by simpa using List.all_eq_true.1 hall t hm)⟩)
    (by kernel_rfl)

end Go.Proofs.YtdeempkiffdlnaaDoor
