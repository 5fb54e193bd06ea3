/- FnTableSelf returns true for all arguments. No conditions. -/
import Derived.Test.YtklphfmjdgnpnaaDoorTabS
import Derived.Test.YtklphfmjdgnpnaaDoorTabF
import Derived.Test.YtklphfmjdgnpnaaDoorTabG
import Derived.Test.YtklphfmjdgnpnaaDoorTie
import Derived.Test.YtklphfmjdgnpnaaDoorCards
import Derived.Lay
import Derived.LaidOnce
import Derived.SevenTiedAt
namespace Go.Proofs.YtklphfmjdgnpnaaDoor
open Go.ChangeShapes Go.WideShapes Go.ChangeAt Go.RowKit
set_option linter.all false
set_option maxRecDepth 100000
attribute [local go_sem ↓] Go.wp_at_zero Go.wp_at_succ

set_option maxRecDepth 100000 in
set_option maxHeartbeats 8000000 in
theorem fnTableSelf_w (bs : List Int) (v : Value) (w : World) (hx : RdB w v bs) (hbs : ∀ b ∈ bs, 0 ≤ b ∧ b ≤ 255) :
    Calls Tryd.prog 7 #[v] w fun e w' => e = .returned (.bool true) ∧ Below w.heap.size w w' := by
  have hx' := Lib.hid hx
  have HBS := Lib.hid hbs
  clear hbs
  obtain ⟨a, c, rfl, h1, h2, -, -⟩ := hx
  unfold maxLen at h2
  by_cases hlbs : bs.length ≤ 1048576
  rotate_left
  · go_enter Tryd.func7, Tryd.ntmps7
    go_wp2
    go_ret
    exact ⟨rfl, bref _⟩
  go_enter Tryd.func7, Tryd.ntmps7
  go_wp2_with fail
  refine (drawTableOk_b hx'.out HBS.out).mono ?_
  rintro e W1 ⟨q1, ss, m, q2, xs, q3, rs, f, kind, rfl, hdm, hl12, hshf, hlr, hshr, hf0, hf1, hk0, hk1, hB⟩
  have H1 := Lib.hid hB
  have HSF := Lib.hid hshf
  have HSR := Lib.hid hshr
  clear hB hshf hshr hdm
  go_wp2_with fail
  refine (implTableOk_c m xs q1 q2 q3 f kind rs _ (H1.out.rdN 2 3 rfl rfl encI_len) (H1.out.rd 1 rfl Info.enc_len) HSF.out.fit (H1.out.rd 0 rfl encS_len) HSR.out.fit).mono ?_
  rintro e WH2 ⟨rfl, hb⟩
  have H2 := Lib.hid (H1.out.call hb)
  clear hb H1
  go_wp2_with fail
  refine (specTableOk_c m xs q1 q2 q3 f kind rs _ (H2.out.rdN 2 3 rfl rfl encI_len) (H2.out.rd 1 rfl Info.enc_len) HSF.out.fit (H2.out.rd 0 rfl encS_len) HSR.out.fit).mono ?_
  rintro e WH3 ⟨rfl, hb⟩
  have H3 := Lib.hid (H2.out.call hb)
  clear hb H2
  cases hv : tokB m xs f kind rs
  · go_wp2
    go_ret
    exact ⟨rfl, H3.out.below⟩
  obtain ⟨ha, hk, hro, hgo⟩ := tok_parts hv
  obtain ⟨hmo, hxo, k, rfl, hk12, ⟨ws, hws, hwo, hwl, hrow⟩, y, hy, hyo, hat⟩ := arg_parts ha
  have hb0 : btw 0 (k : Int) 11 = true := by simp only [btw, decide_eq_true_eq]; omega
  have hw0 : wordsOk (ws.set 0 (4 * (k : Int) + 3)) = true := words_set hwo (by omega)
  have HMO := Lib.hid hmo
  have HB0 := Lib.hid hb0
  have HP := Lib.hid (show memPutB m k 0 (4 * (k : Int) + 3) = true by
    have h1 : btw 0 (0 : Int) 3 = true := by decide
    have h2 : btw 0 (4 * (k : Int) + 3) 9999 = true := by simp only [btw, decide_eq_true_eq]; omega
    simp [memPutB, hmo, hb0, h1, h2])
  have HPL := Lib.hid (show memPutL m k 0 (4 * (k : Int) + 3) = m.set k (ws.set 0 (4 * (k : Int) + 3)) by
    simp only [memPutL, HP.out, if_true, hrow]; rfl)
  have HN := Lib.hid (show tokB (m.set k (ws.set 0 (4 * (k : Int) + 3))) xs k kind rs = false by
    have := self_bad (xs := xs) (kind := kind) (rs := rs) (memOk_len hmo) hk12 hwl
    simp [tokB, this])
  clear hv ha hk hro hgo hmo hxo hws hwo hwl hrow hy hyo hat hb0 hw0
  go_wp2_with fail
  refine (implEntryPut_c k true _ HB0.out).mono ?_
  rintro e Wp ⟨rfl, rfl⟩
  go_wp2_with fail
  refine (implMemoryPut_c m q1 k 0 (4 * (k : Int) + 3) _ (H3.out.rdN 2 3 rfl rfl encI_len)).mono ?_
  rintro e W4 ⟨p4, rfl, ho, hb⟩
  rw [HP.out]
  rw [HPL.out] at ho
  obtain ⟨ss4, h4⟩ := H3.out.addN neSl ho hb
  have H4 := Lib.hid h4
  clear h4 ho hb H3
  go_wp2_with fail
  refine (implTableOk_c (m.set k (ws.set 0 (4 * (k : Int) + 3))) xs p4 q2 q3 k kind rs _ (H4.out.rdN 0 1 rfl rfl encI_len) (H4.out.rd 3 rfl Info.enc_len) HSF.out.fit (H4.out.rd 2 rfl encS_len) HSR.out.fit).mono ?_
  rintro e WH5 ⟨rfl, hb⟩
  rw [HN.out]
  have H5 := Lib.hid (H4.out.call hb)
  clear hb H4
  go_wp2
  go_ret
  exact ⟨rfl, H5.out.below⟩

set_option maxRecDepth 100000 in
theorem fnTableSelf_l (os : Os) (started : os.Started) (H : Type) (enc : TypeId × Value → H) :
    ReturnsInHanded {} Tryd.checked os 7 .any (fun w args => (Rows.fnTableSelfSpec.pre enc Tryd.prog Tryd.f7 [] false w args ∧ laidMetH Tryd.prog Rows.fnTableSelfRow.laid w) ∧ sizedMet enc Tryd.prog Tryd.f7 (OpenSpec.ofChange Rows.fnTableSelfSpec) false w args)
      (Rows.fnTableSelfSpec.post enc Tryd.prog Tryd.f7 false true false false) := by
  refine returnsInHanded_of_change_and (C := Tryd.checked) (X := fun w _ => laidMetH Tryd.prog Rows.fnTableSelfRow.laid w) (fun _ _ _ hh h => h.of_heap hh) own started (by kernel_rfl) Tryd.func7
    (ChangeSpec.witness_shaped (enc := enc) (C := Tryd.checked) (os := os) (X := fun w _ => laidMetH Tryd.prog Rows.fnTableSelfRow.laid w) false (World.laidAll Tryd.prog os Rows.fnTableSelfRow.laid) #[.slice none 0 0] 8 (World.laidAll_os _ _ _)
      (World.shaped_of_ZipB (by kernel_rfl) (by kernel_rfl)) (by kernel_rfl) (by kernel_rfl) (by kernel_rfl)
      (by rw [MakeChecks.laidMetH_plain _ _ _ (by kernel_rfl)]; exact laidMet_laidAll _ (by kernel_rfl) (by kernel_rfl))) ?_
  intro W base args ds gs before hval0 hW _ _ _ _
  have hval : ∀ (j : Nat) t v, Tryd.f7.params[j]? = some t → args[j]? = some v → Value.okWide Tryd.prog W .any base t v := hval0
  have hW' := hW
  obtain ⟨p, q, hA0, hV, rfl, _, _⟩ := hW
  have hA : DataW.TrodAll enc Tryd.prog W 0 (fun _ => true) true Tryd.f7.params.toList args.toList ds p := hA0
  rw [Tryd.params7] at hA hval
  obtain ⟨v0, vs0, d0, ds0, p0, q0, hargs, rfl, rfl, h0, r0⟩ := trodAll_cons hA
  obtain ⟨rfl, rfl, rfl⟩ := trodAll_nil r0
  obtain rfl : args = #[v0] := by cases args; simp_all
  obtain ⟨rfl, rfl⟩ := trodVars_none hV
  clear hA0 hval0
  simp only [List.append_nil] at hW'
  have hl0 : ∀ x ∈ p0, x.block < W.heap.size := fun x hx => by simpa using hW'.lt x (by simp [hx])
  obtain ⟨x0, hx0, hg0⟩ := openBytes (hval 0 22 v0 rfl rfl) h0
  refine (fnTableSelf_w x0 v0 W hx0 hg0).mono fun e W' ⟨he, hb⟩ => ?_
  subst he
  refine ⟨_, rfl, _, _, _, [], p0, [], hW', trodAll_cons_mk (shut_bool Tryd.underlying4 _) trodAll_mk0, ?_, rfl, hb.frame _, fun h => by cases h⟩
  have hk := trodAll_cons_mk (Below.trod laidOut (by kernel_rfl) (of_decide_eq_true (by kernel_rfl)) h0 hb hl0) (trodAll_mk0)
  simp only [List.append_nil] at hk
  exact hk

theorem fnTableSelf_row : Rows.FnTableSelfSaid :=
  OpenClaim.holds_of_wide 7 Tryd.f7 rfl rfl rfl rfl rfl rfl rfl ⟨rfl, rfl, rfl, rfl, rfl⟩ rfl rfl rfl rfl rfl (by kernel_rfl) Tryd.func7 (by kernel_rfl)
    (of_decide_eq_true (by kernel_rfl)) (by unfold Func.isWrapper; first | (rw [if_pos (by decide +kernel)]; kernel_rfl) | (rw [if_neg (by decide +kernel)]; exact ⟨rfl, rfl⟩))
    (fun os started H enc _ => fnTableSelf_l os started H enc)

theorem fnTableSelf_holds : Rows.FnTableSelfCardSaid :=
  Claim7.holds_tied_plain_at .later [] [.data, .pinned] true Rows.fnTableSelfCard.stood.harness false fnTableSelf_row (fun _ h => by cases h) (by kernel_rfl) (fun _ h => by cases h) fnTableSelf_row_tie rfl ⟨rfl, rfl⟩ (by kernel_rfl) rfl
    (fun f fn hf hfn => by
      obtain rfl : f = 7 := Option.some.inj ((show Tryd.prog.funcNamed "loop.example/exopager/laws.FnTableSelf" = some 7 by kernel_rfl).symm.trans hf) |>.symm
      obtain rfl : fn = Tryd.f7 := (Option.some.inj (Tryd.func7.symm.trans hfn)).symm
      exact ⟨by kernel_rfl, fun j t ht => by
        rw [Tryd.params7] at ht
        have hm : t ∈ [22] := by simpa using Array.mem_of_getElem? ht
        have hall : ([22].all fun u => !Tryd.prog.wantsStandIn u) = true := by kernel_rfl
        exact (show Tryd.prog.wantsStandIn t = false by simpa using List.all_eq_true.1 hall t hm)⟩)
    (by kernel_rfl)

end Go.Proofs.YtklphfmjdgnpnaaDoor
