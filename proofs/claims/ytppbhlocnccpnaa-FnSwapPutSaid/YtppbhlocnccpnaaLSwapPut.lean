/- FnSwapPut returns true for all codes. No conditions. -/
import Derived.Test.YtppbhlocnccpnaaSwapM
import Derived.Test.YtppbhlocnccpnaaSwapN
namespace Go.Proofs.Ytppbhlocnccpnaa
open Go.ChangeShapes Go.WideShapes Go.ChangeAt Go.RowKit
set_option linter.all false
attribute [local go_sem ↓] Go.wp_at_zero Go.wp_at_succ

set_option maxHeartbeats 8000000 in
theorem fnSwapPut_w (bs : List Int) (v : Value) (w : World) (hx : RdB w v bs) (hbs : ∀ b ∈ bs, 0 ≤ b ∧ b ≤ 255) :
    Calls Try.prog 11 #[v] w fun e w' => e = .returned (.bool true) ∧ Below w.heap.size w w' := by
  have hx' := Lib.hid hx
  have HBS := Lib.hid hbs
  clear hbs
  obtain ⟨a, c, rfl, h1, h2, -, -⟩ := hx
  unfold maxLen at h2
  by_cases hl : bs.length ≤ 1048576
  rotate_left
  · go_enter Try.func11, Try.ntmps11
    go_wp2
    go_ret
    exact ⟨rfl, bref _⟩
  go_enter Try.func11, Try.ntmps11
  go_wp2_with fail
  refine (drawSwapPut_b bs _ _ hx'.out HBS.out).mono ?_
  rintro e W1 ⟨u, ss, xss, u0, ys, rfl, hd, hyl, h1'⟩
  have H1 := Lib.hid h1'
  clear h1'
  go_wp2_with fail
  refine (implSwapPut_c xss ys u u0 _ (H1.out.rdN 1 2 rfl rfl encI_len) (H1.out.rd 0 rfl encI_len)).mono ?_
  rintro e W2 ⟨u2, rfl, ho2, hb2⟩
  obtain ⟨ss2, h2'⟩ := H1.out.addN neSl ho2 hb2
  have H2 := Lib.hid h2'
  clear H1 h2' ho2 hb2
  cases hk : putB xss ys
  all_goals
    have HK := Lib.hid hk
    clear hk
    go_wp2_with fail
    refine (specSwapPut_c xss ys u u0 _ (H2.out.rdN 3 4 rfl rfl encI_len) (H2.out.rd 2 rfl encI_len)).mono ?_
    rintro e W3 ⟨u3, rfl, ho3, hb3⟩
    rw [HK.out]
    obtain ⟨ss3, h3'⟩ := H2.out.addN neSl ho3 hb3
    have H3 := Lib.hid h3'
    clear H2 h3' ho3 hb3
    go_wp2_with fail
    refine (sameMemory_c (putL xss ys) (putL xss ys) u2 u3 _ (H3.out.rdN 2 3 rfl rfl encI_len) (H3.out.rdN 0 1 rfl rfl encI_len)).mono ?_
    rintro e W4 ⟨rfl, hb⟩
    rw [decide_eq_true (rfl : (putL xss ys) = (putL xss ys))]
    have H4 := Lib.hid (H3.out.call hb)
    clear hb H3
  · go_wp2_with fail
    refine (sameMemory_c (putL xss ys) (putL xss ys) u2 u3 _ (H4.out.rdN 2 3 rfl rfl encI_len) (H4.out.rdN 0 1 rfl rfl encI_len)).mono ?_
    rintro e W5 ⟨rfl, hb⟩
    rw [decide_eq_true (rfl : (putL xss ys) = (putL xss ys))]
    have H5 := Lib.hid (H4.out.call hb)
    clear hb H4
    go_wp2
    go_ret
    exact ⟨rfl, H5.out.below⟩
  · obtain ⟨hkk, hgg, hdd⟩ := put_kept HK.out
    have HKK := Lib.hid hkk
    have HGG := Lib.hid hgg
    clear hkk hgg hdd
    go_wp2_with fail
    refine (implSwapGet_c (putL xss ys) (putI xss ys) u2 _ (H4.out.rdN 2 3 rfl rfl encI_len)).mono ?_
    rintro e W5 ⟨u5, rfl, ho5, hb5⟩
    rw [HKK.out]
    rw [HGG.out] at ho5
    have H5 := Lib.hid (H4.out.addT ho5 hb5)
    clear H4 ho5 hb5
    have HVV := Lib.hid (put_valid HK.out)
    obtain ⟨k, x, p1, p2, p3, p4, p5, p6, p7, p8, p9, p10⟩ := put_at HK.out
    have P3 := Lib.hid p3
    have P4 := Lib.hid p4
    have P6 := Lib.hid p6
    have P10 := Lib.hid p10
    rw [p1]
    have hin := Lib.hid (InO.rd encI_len (show InO encI 1 3 0 W5.heap.size W5 ss xss from H5.out.get 7 rfl))
    have hlen := hin.out.1
    have hsl := Lib.hid (show ss.length = 16 by omega)
    obtain ⟨a5, c5, rfl, j1, j2, -, j3⟩ := H5.out.rd 6 rfl encL_len
    have J3 := Lib.hid j3
    rw [hsl.out] at j1 ⊢
    unfold maxLen at j2
    clear p1 p2 p3 p4 p6 p7 p8 p9 p10 hlen j3
    have hk16 : k < 16 := by have := P6.out; omega
    clear p5
    go_wp2
    go_loop [13] (fun i => ∃ j : Nat, j ≤ k + 1 ∧ i = .int .i64 j) (fun i => k + 1 - (intOf i).toNat)
    case atStart => exact ⟨0, Nat.zero_le _, rfl⟩
    case round =>
      obtain ⟨j, hj, rfl⟩ := hrel
      by_cases hlt : j < k + 1
      · obtain ⟨xs, hxs⟩ : ∃ xs, xss[j]? = some xs := ⟨_, List.getElem?_eq_getElem (by have := P6.out; omega)⟩
        obtain ⟨s, hs, hrd⟩ := hin.out.get hxs
        obtain ⟨b, o, rfl, hbl, hc⟩ := J3.out j s hs
        have c0 := hc 0 _ rfl
        simp only [Nat.add_zero, Nat.mul_one] at c0
        obtain ⟨a6, c6, hsv, m1, m2, -, -⟩ := hrd
        rw [hsv] at c0
        unfold maxLen at m2
        have hjk : (j : Int) ≤ (k : Int) := by omega
        by_cases he : j = k
        · have hx0 : xs.length = 0 := by have h3 := P3.out; rw [← he, hxs] at h3; simp at h3; rw [h3]; exact P4.out
          have hx0g : ((xs.length : Int) == 0) = true := by simp [hx0]
          have heg : ((j : Int) == (k : Int)) = true := by simp [he]
          clear hs hsv hxs hc he hx0
          go_wp2
          go_round
          case rel => exact ⟨j + 1, by omega, by go_num⟩
          case measure => simp [intOf]; omega
        · have hx0 : ¬ xs.length = 0 := by
            have hn := P10.out
            rw [List.any_eq_false] at hn
            have := hn xs (List.mem_of_getElem? (i := j) (by rw [List.getElem?_take, if_pos (by omega)]; exact hxs))
            simpa [isFree] using this
          have hx0g : ((xs.length : Int) == 0) = false := by rw [beq_eq_false_iff_ne]; omega
          have heg : ((j : Int) == (k : Int)) = false := by rw [beq_eq_false_iff_ne]; omega
          clear hs hsv hxs hc he hx0
          go_wp2
          go_round
          case rel => exact ⟨j + 1, by omega, by go_num⟩
          case measure => simp [intOf]; omega
      · have hj2 : j = k + 1 := by omega
        subst hj2
        have hnle : ¬ ((k : Int) + 1 ≤ (k : Int)) := by omega
        go_wp2_with fail
        refine (sameInts_c ys ys _ _ _ (H5.out.rd 0 rfl encI_len) (H5.out.rd 5 rfl encI_len)).mono ?_
        rintro e W6 ⟨rfl, hb6⟩
        rw [decide_eq_true (rfl : ys = ys)]
        have H6 := Lib.hid (H5.out.call hb6)
        go_wp2_with fail
        refine (implSwapValid_c (putL xss ys) _ _ (H6.out.rdN 3 4 rfl rfl encI_len)).mono ?_
        rintro e W7 ⟨rfl, hb7⟩
        rw [HVV.out]
        have H7 := Lib.hid (H6.out.call hb7)
        go_wp2
        go_ret
        exact ⟨rfl, H7.out.below⟩

set_option maxRecDepth 100000 in
theorem fnSwapPut_l (os : Os) (started : os.Started) (H : Type) (enc : TypeId × Value → H) :
    ReturnsInHanded {} Try.checked os 11 .any (Rows.fnSwapPutSpec.pre6 enc Try.prog Try.f11 Rows.fnSwapPutRow.domain false) (Rows.fnSwapPutSpec.post enc Try.prog Try.f11 false true false false) := by
  refine returnsInHanded_of_change (C := Try.checked) own started (by kernel_rfl) Try.func11
    (ChangeSpec.witness6 (enc := enc) (C := Try.checked) false ⟨#[], #[.slice none 0 0], []⟩ 8 (by kernel_rfl) (by kernel_rfl) (by kernel_rfl) (by kernel_rfl)) ?_
  intro W base args ds gs before hval0 hW _ _
  have hval : ∀ (j : Nat) t v, Try.f11.params[j]? = some t → args[j]? = some v → Value.okWide Try.prog W .any base t v := hval0
  have hW' := hW
  obtain ⟨p, q, hA0, hV, rfl, _, _⟩ := hW
  have hA : DataW.TrodAll enc Try.prog W 0 (fun _ => true) true Try.f11.params.toList args.toList ds p := hA0
  rw [Try.params11] at hA hval
  obtain ⟨v0, vs0, d0, ds0, p0, q0, hargs, rfl, rfl, h0, r0⟩ := trodAll_cons hA
  obtain ⟨rfl, rfl, rfl⟩ := trodAll_nil r0
  obtain rfl : args = #[v0] := by cases args; simp_all
  obtain ⟨rfl, rfl⟩ := trodVars_none hV
  clear hA0 hval0
  simp only [List.append_nil] at hW'
  have hl0 : ∀ x ∈ p0, x.block < W.heap.size := fun x hx => by simpa using hW'.lt x (by simp [hx])
  obtain ⟨x0, hx0, hg0⟩ := openBytes (hval 0 27 v0 rfl rfl) h0
  refine (fnSwapPut_w x0 v0 W hx0 hg0).mono fun e W' ⟨he, hb⟩ => ?_
  subst he
  refine ⟨_, rfl, _, _, _, [], p0, [], hW', trodAll_cons_mk (shut_bool Try.underlying4 _) trodAll_mk0, ?_, rfl, hb.frame _, fun h => by cases h⟩
  have hk := trodAll_cons_mk (Below.trod laidOut (by kernel_rfl) (of_decide_eq_true (by kernel_rfl)) h0 hb hl0) (trodAll_mk0)
  simp only [List.append_nil] at hk
  exact hk

theorem fnSwapPut_holds : Rows.FnSwapPutSaid :=
  OpenClaim.holds_of_wide 11 Try.f11 rfl rfl rfl rfl rfl rfl rfl ⟨rfl, rfl, rfl, rfl, rfl⟩ rfl rfl rfl rfl rfl (by kernel_rfl) Try.func11 (by kernel_rfl)
    (of_decide_eq_true (by kernel_rfl)) (by unfold Func.isWrapper; first | (rw [if_pos (by decide +kernel)]; kernel_rfl) | (rw [if_neg (by decide +kernel)]; exact ⟨rfl, rfl⟩))
    (fun os started H enc _ => fnSwapPut_l os started H enc)

end Go.Proofs.Ytppbhlocnccpnaa
