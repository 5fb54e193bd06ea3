/- FnSwapFull returns true for all codes. No conditions. -/
import Derived.Test.YtppbhlocnccpnaaSwapM
import Derived.Test.YtppbhlocnccpnaaSwapN
namespace Go.Proofs.Ytppbhlocnccpnaa
open Go.ChangeShapes Go.WideShapes Go.ChangeAt Go.RowKit
set_option linter.all false
attribute [local go_sem ↓] Go.wp_at_zero Go.wp_at_succ

theorem any_take_add {α : Type} {p : α → Bool} {xs : List α} {k : Nat} {x : α} (hx : xs[k]? = some x) : (xs.take (k + 1)).any p = ((xs.take k).any p || p x) := by
  rw [List.take_add_one, hx]; simp [List.any_append]
/-- The words that were looked at are good. -/
def fineB (ys : List Int) (j : Nat) : Bool := decide (ys.length = 4) && (ys.take j).all fun x => btw 0 x 9999
theorem fine_step {ys : List Int} {j : Nat} {x : Int} (hx : ys[j]? = some x) : fineB ys (j + 1) = (fineB ys j && btw 0 x 9999) := by
  unfold fineB
  rw [List.take_add_one, hx]; simp [List.all_append, Bool.and_assoc]
theorem fine_all {ys : List Int} {j : Nat} (h : ys.length ≤ j) : fineB ys j = wordsOk ys := by
  unfold fineB wordsOk
  rw [List.take_of_length_le h]
  simp [List.all_eq_not_any_not]

set_option maxHeartbeats 8000000 in
theorem fnSwapFull_w (bs : List Int) (v : Value) (w : World) (hx : RdB w v bs) (hbs : ∀ b ∈ bs, 0 ≤ b ∧ b ≤ 255) :
    Calls Try.prog 8 #[v] w fun e w' => e = .returned (.bool true) ∧ Below w.heap.size w w' := by
  have hx' := Lib.hid hx
  have HBS := Lib.hid hbs
  clear hbs
  obtain ⟨a, c, rfl, h1, h2, -, -⟩ := hx
  unfold maxLen at h2
  by_cases hl : bs.length ≤ 1048576
  rotate_left
  · go_enter Try.func8, Try.ntmps8
    go_wp2
    go_ret
    exact ⟨rfl, bref _⟩
  go_enter Try.func8, Try.ntmps8
  go_wp2_with fail
  refine (drawSwapPut_b bs _ _ hx'.out HBS.out).mono ?_
  rintro e W1 ⟨u, ss, xss, u0, ys, rfl, hd, hyl, h1'⟩
  have H1 := Lib.hid h1'
  clear h1'
  go_wp2_with fail
  refine (implSwapPut_c xss ys u u0 _ (H1.out.rdN 1 2 rfl rfl encI_len) (H1.out.rd 0 rfl encI_len)).mono ?_
  rintro e W2 ⟨u2, rfl, ho2, hb2⟩
  obtain ⟨ss2, h2'⟩ := H1.out.addN neSl ho2 hb2
  have H2 := Lib.hid h2'
  clear H1 h2' ho2 hb2
  go_wp2_with fail
  refine (specSwapPut_c xss ys u u0 _ (H2.out.rdN 3 4 rfl rfl encI_len) (H2.out.rd 2 rfl encI_len)).mono ?_
  rintro e W3 ⟨u3, rfl, ho3, hb3⟩
  obtain ⟨ss3, h3'⟩ := H2.out.addN neSl ho3 hb3
  have H3 := Lib.hid h3'
  clear H2 h3' ho3 hb3
  have HPB := Lib.hid (show putB xss ys = (swapOk xss && wordsOk ys && xss.any isFree) from rfl)
  generalize putB xss ys = pb at *
  go_wp2_with fail
  refine (sameMemory_c (putL xss ys) (putL xss ys) u2 u3 _ (H3.out.rdN 2 3 rfl rfl encI_len) (H3.out.rdN 0 1 rfl rfl encI_len)).mono ?_
  rintro e W4 ⟨rfl, hb⟩
  rw [decide_eq_true (rfl : (putL xss ys) = (putL xss ys))]
  have H4 := Lib.hid (H3.out.call hb)
  clear hb H3
  go_wp2_with fail
  refine (specSwapValid_c xss u _ (H4.out.rdN 5 6 rfl rfl encI_len)).mono ?_
  rintro e W5 ⟨rfl, hb5⟩
  have H5 := Lib.hid (H4.out.call hb5)
  clear H4 hb5
  cases hv : swapOk xss
  · have HV := Lib.hid hv
    clear hv
    go_wp2_with fail
    refine (sameMemory_c (putL xss ys) (putL xss ys) u2 u3 _ (H5.out.rdN 2 3 rfl rfl encI_len) (H5.out.rdN 0 1 rfl rfl encI_len)).mono ?_
    rintro e W6 ⟨rfl, hb⟩
    rw [decide_eq_true (rfl : (putL xss ys) = (putL xss ys))]
    have H6 := Lib.hid (H5.out.call hb)
    clear hb H5
    go_wp2
    go_ret
    exact ⟨ret_bool (by simp), H6.out.below⟩
  · have HV := Lib.hid hv
    have hl16 := Lib.hid (swapOk_len hv)
    clear hv
    have hin0 := Lib.hid (InO.rd encI_len (show InO encI 1 3 0 W5.heap.size W5 ss xss from H5.out.get 6 rfl))
    have hs0 := Lib.hid (show ss.length = 16 from hin0.out.1.trans hl16.out)
    obtain ⟨a5, c5, rfl, j1, j2, -, j3⟩ := H5.out.rd 5 rfl encL_len
    obtain ⟨a6, c6, rfl, i1, i2, -, i3⟩ := H5.out.rd 4 rfl encI_len
    have J3 := Lib.hid j3
    have I3 := Lib.hid i3
    rw [hs0.out] at j1 ⊢
    unfold maxLen at j2 i2
    clear j3 i3
    go_wp2
    go_loop [11, 12] (fun f i => ∃ j : Nat, j ≤ 16 ∧ i = .int .i64 j ∧ f = .bool ((xss.take j).any isFree)) (fun _ i => 16 - (intOf i).toNat)
    case atStart => exact ⟨0, Nat.zero_le _, rfl, by simp⟩
    case round =>
      obtain ⟨j, hj, rfl, rfl⟩ := hrel
      by_cases hlt : j < 16
      · obtain ⟨xs, hxs⟩ : ∃ xs, xss[j]? = some xs := ⟨_, List.getElem?_eq_getElem (by have := hl16.out; omega)⟩
        obtain ⟨s, hs, hrd⟩ := hin0.out.get hxs
        obtain ⟨b, o, rfl, hbl, hc⟩ := J3.out j s hs
        have c0 := hc 0 _ rfl
        simp only [Nat.add_zero, Nat.mul_one] at c0
        obtain ⟨a7, c7, hsv, m1, m2, -, -⟩ := hrd
        rw [hsv] at c0
        unfold maxLen at m2
        have HA := Lib.hid (any_take_add (p := isFree) hxs)
        have HF := Lib.hid (show isFree xs = ((xs.length : Int) == 0) by unfold isFree; by_cases h : xs.length = 0 <;> simp [h])
        clear hc hs hsv hxs
        cases hf : (xss.take j).any isFree
        all_goals
          have HFF := Lib.hid hf
          clear hf
          go_wp2
          go_round
          case rel => exact ⟨j + 1, by omega, by go_num, by rw [HA.out, HFF.out, HF.out]; simp⟩
          case measure => simp [intOf]; omega
      · have hte : (xss.take j).any isFree = xss.any isFree := by rw [List.take_of_length_le (by have := hl16.out; omega)]
        rw [hte]
        clear hte
        generalize xss.any isFree = fr at *
        go_wp2
        have hq0 : (decide (ys.length = 4)) = ((ys.length : Int) == 4) := by by_cases h : ys.length = 4 <;> simp [h] <;> omega
        have HQ0 := Lib.hid hq0
        clear hq0
        go_loop [13, 14] (fun f i => ∃ j : Nat, j ≤ ys.length ∧ i = .int .i64 j ∧ f = .bool (fineB ys j)) (fun _ i => ys.length - (intOf i).toNat)
        case atStart => exact ⟨0, Nat.zero_le _, rfl, by simp [fineB, HQ0.out]⟩
        case round =>
          obtain ⟨j, hj, rfl, rfl⟩ := hrel
          by_cases hlt : j < ys.length
          · obtain ⟨x, hx⟩ : ∃ x, ys[j]? = some x := ⟨_, List.getElem?_eq_getElem hlt⟩
            obtain ⟨b, o, rfl, hbl, hc⟩ := I3.out j x hx
            have c0 := hc 0 _ rfl
            simp only [Nat.add_zero, Nat.mul_one] at c0
            have HFS := Lib.hid (fine_step hx)
            clear hc hx
            cases hf : fineB ys j
            · have HFF := Lib.hid hf
              clear hf
              go_wp2
              go_round
              case rel => exact ⟨j + 1, by omega, by go_num, by rw [HFS.out, HFF.out]; rfl⟩
              case measure => simp [intOf]; omega
            · have HFF := Lib.hid hf
              clear hf
              by_cases hx0 : 0 ≤ x
              · by_cases hx1 : x ≤ 9999
                · have HB := Lib.hid (show btw 0 x 9999 = true by simp [btw, hx0, hx1])
                  go_wp2
                  go_round
                  case rel => exact ⟨j + 1, by omega, by go_num, by rw [HFS.out, HFF.out, HB.out]; rfl⟩
                  case measure => simp [intOf]; omega
                · have HB := Lib.hid (show btw 0 x 9999 = false by simp [btw]; omega)
                  go_wp2
                  go_round
                  case rel => exact ⟨j + 1, by omega, by go_num, by rw [HFS.out, HFF.out, HB.out]; rfl⟩
                  case measure => simp [intOf]; omega
              · have HB := Lib.hid (show btw 0 x 9999 = false by simp [btw]; omega)
                go_wp2
                go_round
                case rel => exact ⟨j + 1, by omega, by go_num, by rw [HFS.out, HFF.out, HB.out]; rfl⟩
                case measure => simp [intOf]; omega
          · have hte := fine_all (ys := ys) (j := j) (by omega)
            rw [hte]
            have HPB2 := HPB.out
            rw [HV.out] at HPB2
            have HPB3 := Lib.hid HPB2
            clear hte HPB2
            generalize wordsOk ys = wk at *
            go_wp2
            all_goals go_ret
            all_goals exact ⟨ret_bool (by rw [HPB3.out]; cases wk <;> cases fr <;> first | rfl | simp_all), H5.out.below⟩

set_option maxRecDepth 100000 in
theorem fnSwapFull_l (os : Os) (started : os.Started) (H : Type) (enc : TypeId × Value → H) :
    ReturnsInHanded {} Try.checked os 8 .any (Rows.fnSwapFullSpec.pre6 enc Try.prog Try.f8 Rows.fnSwapFullRow.domain false) (Rows.fnSwapFullSpec.post enc Try.prog Try.f8 false true false false) := by
  refine returnsInHanded_of_change (C := Try.checked) own started (by kernel_rfl) Try.func8
    (ChangeSpec.witness6 (enc := enc) (C := Try.checked) false ⟨#[], #[.slice none 0 0], []⟩ 8 (by kernel_rfl) (by kernel_rfl) (by kernel_rfl) (by kernel_rfl)) ?_
  intro W base args ds gs before hval0 hW _ _
  have hval : ∀ (j : Nat) t v, Try.f8.params[j]? = some t → args[j]? = some v → Value.okWide Try.prog W .any base t v := hval0
  have hW' := hW
  obtain ⟨p, q, hA0, hV, rfl, _, _⟩ := hW
  have hA : DataW.TrodAll enc Try.prog W 0 (fun _ => true) true Try.f8.params.toList args.toList ds p := hA0
  rw [Try.params8] at hA hval
  obtain ⟨v0, vs0, d0, ds0, p0, q0, hargs, rfl, rfl, h0, r0⟩ := trodAll_cons hA
  obtain ⟨rfl, rfl, rfl⟩ := trodAll_nil r0
  obtain rfl : args = #[v0] := by cases args; simp_all
  obtain ⟨rfl, rfl⟩ := trodVars_none hV
  clear hA0 hval0
  simp only [List.append_nil] at hW'
  have hl0 : ∀ x ∈ p0, x.block < W.heap.size := fun x hx => by simpa using hW'.lt x (by simp [hx])
  obtain ⟨x0, hx0, hg0⟩ := openBytes (hval 0 27 v0 rfl rfl) h0
  refine (fnSwapFull_w x0 v0 W hx0 hg0).mono fun e W' ⟨he, hb⟩ => ?_
  subst he
  refine ⟨_, rfl, _, _, _, [], p0, [], hW', trodAll_cons_mk (shut_bool Try.underlying4 _) trodAll_mk0, ?_, rfl, hb.frame _, fun h => by cases h⟩
  have hk := trodAll_cons_mk (Below.trod laidOut (by kernel_rfl) (of_decide_eq_true (by kernel_rfl)) h0 hb hl0) (trodAll_mk0)
  simp only [List.append_nil] at hk
  exact hk

theorem fnSwapFull_holds : Rows.FnSwapFullSaid :=
  OpenClaim.holds_of_wide 8 Try.f8 rfl rfl rfl rfl rfl rfl rfl ⟨rfl, rfl, rfl, rfl, rfl⟩ rfl rfl rfl rfl rfl (by kernel_rfl) Try.func8 (by kernel_rfl)
    (of_decide_eq_true (by kernel_rfl)) (by unfold Func.isWrapper; first | (rw [if_pos (by decide +kernel)]; kernel_rfl) | (rw [if_neg (by decide +kernel)]; exact ⟨rfl, rfl⟩))
    (fun os started H enc _ => fnSwapFull_l os started H enc)

end Go.Proofs.Ytppbhlocnccpnaa
