/- FnSwapOthers returns true for all codes. No conditions. -/
import Derived.Test.YtppbhlocnccpnaaSwapM
import Derived.Test.YtppbhlocnccpnaaSwapN
namespace Go.Proofs.Ytppbhlocnccpnaa
open Go.ChangeShapes Go.WideShapes Go.ChangeAt Go.RowKit
set_option linter.all false
attribute [local go_sem ↓] Go.wp_at_zero Go.wp_at_succ

set_option maxHeartbeats 8000000 in
theorem fnSwapOthers_w (bs : List Int) (v : Value) (w : World) (hx : RdB w v bs) (hbs : ∀ b ∈ bs, 0 ≤ b ∧ b ≤ 255) :
    Calls Try.prog 9 #[v] w fun e w' => e = .returned (.bool true) ∧ Below w.heap.size w w' := by
  have hx' := Lib.hid hx
  have HBS := Lib.hid hbs
  clear hbs
  obtain ⟨a, c, rfl, h1, h2, -, -⟩ := hx
  unfold maxLen at h2
  by_cases hl : bs.length ≤ 1048576
  rotate_left
  · go_enter Try.func9, Try.ntmps9
    go_wp2
    go_ret
    exact ⟨rfl, bref _⟩
  go_enter Try.func9, Try.ntmps9
  go_wp2_with fail
  refine (drawSwapPut_b bs _ _ hx'.out HBS.out).mono ?_
  rintro e W1 ⟨u, ss, xss, u0, ys, rfl, hd, hyl, h1'⟩
  have H1 := Lib.hid h1'
  clear h1'
  go_wp2_with fail
  refine (implSwapPut_c xss ys u u0 _ (H1.out.rdN 1 2 rfl rfl encI_len) (H1.out.rd 0 rfl encI_len)).mono ?_
  rintro e W2 ⟨u2, rfl, ho2, hb2⟩
  obtain ⟨ss2, h2'⟩ := H1.out.addN neSl ho2 hb2
  have H2 := Lib.hid h2'
  clear H1 h2' ho2 hb2
  cases hk : putB xss ys
  all_goals
    have HK := Lib.hid hk
    clear hk
    go_wp2_with fail
    refine (specSwapPut_c xss ys u u0 _ (H2.out.rdN 3 4 rfl rfl encI_len) (H2.out.rd 2 rfl encI_len)).mono ?_
    rintro e W3 ⟨u3, rfl, ho3, hb3⟩
    rw [HK.out]
    obtain ⟨ss3, h3'⟩ := H2.out.addN neSl ho3 hb3
    have H3 := Lib.hid h3'
    clear H2 h3' ho3 hb3
    go_wp2_with fail
    refine (sameMemory_c (putL xss ys) (putL xss ys) u2 u3 _ (H3.out.rdN 2 3 rfl rfl encI_len) (H3.out.rdN 0 1 rfl rfl encI_len)).mono ?_
    rintro e W4 ⟨rfl, hb⟩
    rw [decide_eq_true (rfl : (putL xss ys) = (putL xss ys))]
    have H4 := Lib.hid (H3.out.call hb)
    clear hb H3
  · go_wp2_with fail
    refine (sameMemory_c (putL xss ys) (putL xss ys) u2 u3 _ (H4.out.rdN 2 3 rfl rfl encI_len) (H4.out.rdN 0 1 rfl rfl encI_len)).mono ?_
    rintro e W5 ⟨rfl, hb⟩
    rw [decide_eq_true (rfl : (putL xss ys) = (putL xss ys))]
    have H5 := Lib.hid (H4.out.call hb)
    clear hb H4
    go_wp2
    go_ret
    exact ⟨rfl, H5.out.below⟩
  · obtain ⟨k, x, p1, p2, p3, p4, p5, p6, p7, p8, p9, p10⟩ := put_at HK.out
    have P2 := Lib.hid p2
    have P6 := Lib.hid p6
    rw [p1]
    have hin0 := Lib.hid (InO.rd encI_len (show InO encI 1 3 0 W4.heap.size W4 ss xss from H4.out.get 6 rfl))
    have hin2 := Lib.hid (InO.rd encI_len (show InO encI 1 3 0 W4.heap.size W4 ss2 (putL xss ys) from H4.out.get 3 rfl))
    have hs0 := Lib.hid (show ss.length = 16 from hin0.out.1.trans p6)
    have hs2 := Lib.hid (show ss2.length = 16 by rw [hin2.out.1, p2, List.length_set]; exact p6)
    obtain ⟨a5, c5, rfl, j1, j2, -, j3⟩ := H4.out.rd 5 rfl encL_len
    obtain ⟨a6, c6, rfl, i1, i2, -, i3⟩ := H4.out.rd 2 rfl encL_len
    have J3 := Lib.hid j3
    have I3 := Lib.hid i3
    rw [hs0.out] at j1 ⊢
    rw [hs2.out] at i1 ⊢
    unfold maxLen at j2 i2
    have hk16 : k < 16 := by omega
    clear p1 p2 p3 p4 p5 p6 p7 p8 p9 p10 j3 i3
    go_wp2
    go_loopw [11] (fun i wr => ∃ j : Nat, j ≤ 16 ∧ i = .int .i64 j ∧ Below W4.heap.size W4 wr) (fun i _ => 16 - (intOf i).toNat)
    case atStart => exact ⟨0, Nat.zero_le _, rfl, bref _⟩
    case round =>
      obtain ⟨j, hj, rfl, hbr⟩ := hrel
      by_cases hlt : j < 16
      · by_cases he : j = k
        · have heb : ((j : Int) != (k : Int)) = false := by simp [he]
          clear he
          go_wp2
          go_quiet (fail)
          go_wp2
          go_roundw
          case rel => first | exact ⟨j + 1, by omega, by go_num, below_drewN hbr _⟩ | ((repeat apply Exists.intro); exact ⟨⟨j + 1, by omega, by go_num, below_drewN hbr _⟩, rfl⟩)
          case measure => simp [intOf]; omega
        · have heb : ((j : Int) != (k : Int)) = true := bne_iff_ne.2 (by omega)
          obtain ⟨xs, hxs⟩ : ∃ xs, xss[j]? = some xs := ⟨_, List.getElem?_eq_getElem (by have := P6.out; omega)⟩
          have hxs2 : (putL xss ys)[j]? = some xs := by rw [P2.out, List.getElem?_set_ne (by omega)]; exact hxs
          obtain ⟨s, hs, hrd⟩ := hin0.out.get hxs
          obtain ⟨t, ht, hrd'⟩ := hin2.out.get hxs2
          obtain ⟨b, o, rfl, hbl, hc⟩ := J3.out j s hs
          obtain ⟨b', o', rfl, hbl', hc'⟩ := I3.out j t ht
          have c0 := (hbr.cell (p := ⟨b, o + j * 1 + 0, none⟩) hbl).trans (hc 0 _ rfl)
          have d0 := (hbr.cell (p := ⟨b', o' + j * 1 + 0, none⟩) hbl').trans (hc' 0 _ rfl)
          simp only [Nat.add_zero, Nat.mul_one] at c0 d0
          have HRD := Lib.hid ((hrd.below hbr).below (bref wr).drew)
          have HRD' := Lib.hid ((hrd'.below hbr).below (bref wr).drew)
          have hk0 : (0 : Int) ≤ (j : Int) := by omega
          have hkn : (j : Int) < 16 := by omega
          clear hc hc' hxs hxs2 hs ht hrd hrd' he
          go_wp2
          go_still_tail 12, (by kernel_rfl)
          change wpList _ _ _ _ _ wr.drew
          go_wp2_with (go_at_call 29; refine (sameInts_c xs xs (slv s) (slv t) _ HRD.out HRD'.out).mono ?_; rintro e w' ⟨rfl, hb2⟩; rw [decide_eq_true (rfl : xs = xs)]; have hb3 := hbr.drew.trans (hb2.mono hbr.size))
          go_roundw
          case rel => exact ⟨j + 1, by omega, by go_num, hb3⟩
          case measure => simp [intOf]; omega
      · go_wp2
        go_ret
        exact ⟨rfl, bnext H4.out.below hbr⟩

set_option maxRecDepth 100000 in
theorem fnSwapOthers_l (os : Os) (started : os.Started) (H : Type) (enc : TypeId × Value → H) :
    ReturnsInHanded {} Try.checked os 9 .any (Rows.fnSwapOthersSpec.pre6 enc Try.prog Try.f9 Rows.fnSwapOthersRow.domain false) (Rows.fnSwapOthersSpec.post enc Try.prog Try.f9 false true false false) := by
  refine returnsInHanded_of_change (C := Try.checked) own started (by kernel_rfl) Try.func9
    (ChangeSpec.witness6 (enc := enc) (C := Try.checked) false ⟨#[], #[.slice none 0 0], []⟩ 8 (by kernel_rfl) (by kernel_rfl) (by kernel_rfl) (by kernel_rfl)) ?_
  intro W base args ds gs before hval0 hW _ _
  have hval : ∀ (j : Nat) t v, Try.f9.params[j]? = some t → args[j]? = some v → Value.okWide Try.prog W .any base t v := hval0
  have hW' := hW
  obtain ⟨p, q, hA0, hV, rfl, _, _⟩ := hW
  have hA : DataW.TrodAll enc Try.prog W 0 (fun _ => true) true Try.f9.params.toList args.toList ds p := hA0
  rw [Try.params9] at hA hval
  obtain ⟨v0, vs0, d0, ds0, p0, q0, hargs, rfl, rfl, h0, r0⟩ := trodAll_cons hA
  obtain ⟨rfl, rfl, rfl⟩ := trodAll_nil r0
  obtain rfl : args = #[v0] := by cases args; simp_all
  obtain ⟨rfl, rfl⟩ := trodVars_none hV
  clear hA0 hval0
  simp only [List.append_nil] at hW'
  have hl0 : ∀ x ∈ p0, x.block < W.heap.size := fun x hx => by simpa using hW'.lt x (by simp [hx])
  obtain ⟨x0, hx0, hg0⟩ := openBytes (hval 0 27 v0 rfl rfl) h0
  refine (fnSwapOthers_w x0 v0 W hx0 hg0).mono fun e W' ⟨he, hb⟩ => ?_
  subst he
  refine ⟨_, rfl, _, _, _, [], p0, [], hW', trodAll_cons_mk (shut_bool Try.underlying4 _) trodAll_mk0, ?_, rfl, hb.frame _, fun h => by cases h⟩
  have hk := trodAll_cons_mk (Below.trod laidOut (by kernel_rfl) (of_decide_eq_true (by kernel_rfl)) h0 hb hl0) (trodAll_mk0)
  simp only [List.append_nil] at hk
  exact hk

theorem fnSwapOthers_holds : Rows.FnSwapOthersSaid :=
  OpenClaim.holds_of_wide 9 Try.f9 rfl rfl rfl rfl rfl rfl rfl ⟨rfl, rfl, rfl, rfl, rfl⟩ rfl rfl rfl rfl rfl (by kernel_rfl) Try.func9 (by kernel_rfl)
    (of_decide_eq_true (by kernel_rfl)) (by unfold Func.isWrapper; first | (rw [if_pos (by decide +kernel)]; kernel_rfl) | (rw [if_neg (by decide +kernel)]; exact ⟨rfl, rfl⟩))
    (fun os started H enc _ => fnSwapOthers_l os started H enc)

end Go.Proofs.Ytppbhlocnccpnaa
