/- FnTableOk returns true for all arguments. No conditions. -/
import Derived.Test.YtklphfmjdgnpnaaDoorTabS
import Derived.Test.YtklphfmjdgnpnaaDoorTabF
import Derived.Test.YtklphfmjdgnpnaaDoorTie
import Derived.Test.YtklphfmjdgnpnaaDoorCards
import Derived.Lay
import Derived.LaidOnce
import Derived.SevenTiedAt
namespace Go.Proofs.YtklphfmjdgnpnaaDoor
open Go.BigFrame Go.ChangeShapes Go.WideShapes Go.ChangeAt Go.RowKit
set_option linter.all false
set_option maxRecDepth 100000
attribute [local go_sem ↓] Go.wp_at_zero Go.wp_at_succ

/-- A world that grew out of w. -/
structure Bel (w : World) where
  wd : World
  below : Below w.heap.size w wd
instance (w : World) : Inhabited (Bel w) := ⟨⟨w, bref w⟩⟩
theorem cell_bel {w : World} {a : Addr} {v : Value} (h : w.cell? a = some v) (p : Bel w) : p.wd.cell? a = some v := (p.below.cell (World.block_lt_of_cell? w _ h)).trans h
theorem wp_region_bel {P : Program} {id : Nat} {Q : Exit → Act → World → Prop} {a : Act} {w : World} {l : List Oper} (hm : P.follows .mixedOrders = true) (hB : Region.lexB .any l.toArray = true)
    (h : wpQuiet P l.toArray (fun w' => ∃ p : Bel w, w' = p.wd) (fun a' => ∀ w', (∃ p : Bel w, w' = p.wd) → Q .normal a' w') l a) : (Code.region id l.toArray true).wp P Q a w :=
  wp_region_quiet (C := fun w' => ∃ p : Bel w, w' = p.wd) hm hB ⟨⟨w.drew, (bref w).drew⟩, rfl⟩ (by simpa using h)
theorem Calls.bel_of {P : Program} {f : FuncId} {args : Array Value} {w : World} {p : Bel w} {v : Value}
    (h : Calls P f args p.wd fun e w' => e = .returned v ∧ Below p.wd.heap.size p.wd w') : Calls P f args p.wd fun e w'' => e = .returned v ∧ ∃ p' : Bel w, w'' = p'.wd :=
  h.mono fun _ w' ⟨he, hb⟩ => ⟨he, ⟨w', bnext p.below hb⟩, rfl⟩
theorem Calls.bel_same {P : Program} {f : FuncId} {args : Array Value} {w : World} {p : Bel w} {v : Value}
    (h : Calls P f args p.wd fun e w' => e = .returned v ∧ p.wd = w') : Calls P f args p.wd fun e w'' => e = .returned v ∧ ∃ p' : Bel w, w'' = p'.wd :=
  h.mono fun _ w' ⟨he, hb⟩ => ⟨he, p, hb.symm⟩
set_option maxRecDepth 100000 in
set_option maxHeartbeats 8000000 in
theorem fnTableOk_w (bs : List Int) (v : Value) (w : World) (hx : RdB w v bs) (hbs : ∀ b ∈ bs, 0 ≤ b ∧ b ≤ 255) :
    Calls Tryd.prog 4 #[v] w fun e w' => e = .returned (.bool true) ∧ Below w.heap.size w w' := by
  have hx' := Lib.hid hx
  have HBS := Lib.hid hbs
  clear hbs
  obtain ⟨a, c, rfl, h1, h2, -, -⟩ := hx
  unfold maxLen at h2
  by_cases hlbs : bs.length ≤ 1048576
  rotate_left
  · go_enter Tryd.func4, Tryd.ntmps4
    go_wp2
    go_ret
    exact ⟨rfl, bref _⟩
  go_enter Tryd.func4, Tryd.ntmps4
  go_wp2_with fail
  refine (drawTableOk_b hx'.out HBS.out).mono ?_
  rintro e W1 ⟨q1, ss, m, q2, xs, q3, rs, f, kind, rfl, hdm, hl12, hshf, hlr, hshr, hf0, hf1, hk0, hk1, hB⟩
  have H1 := Lib.hid hB
  have HSF := Lib.hid hshf
  have HSR := Lib.hid hshr
  clear hB hshf hshr hdm
  go_wp2_with fail
  refine (implTableOk_c m xs q1 q2 q3 f kind rs _ (H1.out.rdN 2 3 rfl rfl encI_len) (H1.out.rd 1 rfl Info.enc_len) HSF.out.fit (H1.out.rd 0 rfl encS_len) HSR.out.fit).mono ?_
  rintro e WH2 ⟨rfl, hb⟩
  have H2 := Lib.hid (H1.out.call hb)
  clear hb H1
  go_wp2_with fail
  refine (specTableOk_c m xs q1 q2 q3 f kind rs _ (H2.out.rdN 2 3 rfl rfl encI_len) (H2.out.rd 1 rfl Info.enc_len) HSF.out.fit (H2.out.rd 0 rfl encS_len) HSR.out.fit).mono ?_
  rintro e WH3 ⟨rfl, hb⟩
  have H3 := Lib.hid (H2.out.call hb)
  clear hb H2
  cases hv : tokB m xs f kind rs
  · go_wp2
    go_ret
    exact ⟨rfl, H3.out.below⟩
  obtain ⟨ha, hk, hro, hgo⟩ := tok_parts hv
  obtain ⟨hmo, hxo, k, rfl, hk12, ⟨ws, hws, hwo, hwl, hrow⟩, y, hy, hyo, hat⟩ := arg_parts ha
  have HWP := Lib.hid (fun (i : Nat) (x : Int) (hx : ws[i]? = some x) => word_parts hgo hrow hwo hxo hk hro hx)
  have HSL := Lib.hid ((show InO encI 1 3 0 _ _ ss m from H3.out.get 3 rfl).len.trans (memOk_len hmo))
  have HL := Lib.hid (infosOk_len hxo)
  have HWL := Lib.hid hwl
  have HWS := Lib.hid hws
  have HY := Lib.hid hy
  obtain ⟨s, hs⟩ : ∃ s, ss[k]? = some s := ⟨_, List.getElem?_eq_getElem (by have := HSL.out; omega)⟩
  obtain ⟨g, c, rfl, -, i2, -, -, -⟩ := H3.out.inner (i := 3) rfl hs hws (by intro h; rw [h] at hwl; simp at hwl)
  rw [hwl] at hs
  have HSS := Lib.hid hs
  obtain ⟨G, C, rfl, -, g2, g3, -, -, -⟩ := H3.out.at 2 rfl encL_len hs
  obtain ⟨gq, cq, rfl, -, s3, s4, -, -, -⟩ := H3.out.at 1 rfl Info.enc_len hy
  clear hv ha hk hro hgo hmo hxo hws hwo hwl hrow hy hyo hat hs
  rw [HSL.out] at g2 H3 ⊢
  rw [HL.out] at s3 H3 ⊢
  unfold maxLen at g3 s4 i2
  have hk0 : (0 : Int) ≤ (k : Int) := by omega
  have hk1 : (k : Int) < 12 := by omega
  go_wp2
  go_loopw [10] (fun i wr => ∃ (j : Nat), j ≤ 4 ∧ i = .int .i64 j ∧ Bun w none wr [rowT q3 rs, rowF (.slice (some ⟨gq, 0, none⟩) 12 cq) xs, rowS (.slice (some ⟨G, 0, none⟩) 12 C) ss, rowsI ss m]) (fun i _ => 4 - (intOf i).toNat)
  case atStart => exact ⟨0, Nat.zero_le _, rfl, H3.out⟩
  case round =>
    obtain ⟨j, hj, rfl, hB⟩ := hrel
    have HB := Lib.hid hB
    clear hB
    by_cases hlt : j < 4
    · have hj0 : (0 : Int) ≤ (j : Int) := by omega
      have hj1 : (j : Int) < 4 := by omega
      obtain ⟨x, hx⟩ : ∃ x, ws[j]? = some x := ⟨_, List.getElem?_eq_getElem (by have := HWL.out; omega)⟩
      obtain ⟨hx0, hcase⟩ := HWP.out j x hx
      obtain ⟨G1, C1, eG1, -, -, -, -, -, tG1⟩ := HB.out.at 2 rfl encL_len HSS.out
      have d0 := tG1 0 _ rfl
      simp only [Value.slice.injEq, Option.some.injEq, Addr.mk.injEq, and_true] at eG1
      obtain ⟨rfl, -, rfl⟩ := eG1
      (try simp only [Nat.add_zero, Nat.zero_add, Nat.mul_one] at d0)
      clear tG1
      obtain ⟨g1, c1, es, -, -, -, -, j5⟩ := HB.out.inner (i := 3) rfl HSS.out HWS.out (by intro h; have := HWL.out; rw [h] at this; simp at this)
      simp only [Prod.mk.injEq, Option.some.injEq, Addr.mk.injEq, and_true] at es
      obtain ⟨rfl, -, rfl⟩ := es
      have e0 := j5 j x hx
      simp only [slv] at d0
      clear j5 hx
      rcases hcase with ⟨he, rfl⟩ | ⟨he, n, z, hn, hn12, hnf, hz, hzk, hzr⟩
      · have HE := Lib.hid he
        clear he
        go_wp2_with fail
        refine (implEntryGet_c 0 _ hx0).mono ?_
        rintro e Wa ⟨rfl, rfl⟩
        rw [HE.out]
        go_wp2
        go_quiet (fail)
        go_wp2
        go_roundw
        case rel => exact ⟨j + 1, by omega, by go_num, HB.out.call (below_drewN (bref _) _)⟩
        case measure => simp [intOf]; omega
      · have HE := Lib.hid he
        have HN := Lib.hid hn
        have HZK := Lib.hid hzk
        have HZR := Lib.hid hzr
        have HZ := Lib.hid hz
        have hn0 : (0 : Int) ≤ (n : Int) := by omega
        have hn1 : (n : Int) < 12 := by omega
        have hne : ((n : Int) == (k : Int)) = false := beq_eq_false_iff_ne.2 hnf
        have hnk : (needK kind != needK kind) = false := by simp
        obtain ⟨gz, cz, egz, -, -, -, -, -, tgz⟩ := HB.out.at 1 rfl Info.enc_len HZ.out
        have z0 := tgz 0 _ rfl
        have z1 := tgz 1 _ rfl
        simp only [Value.slice.injEq, Option.some.injEq, Addr.mk.injEq, and_true] at egz
        obtain ⟨rfl, -, rfl⟩ := egz
        (try simp only [Nat.add_zero, Nat.zero_add, Nat.mul_one] at z0 z1)
        clear tgz
        rw [HZK.out] at z0
        clear he hn hzk hzr hnf hz
        go_wp2_with fail
        refine (implEntryGet_c x _ hx0).mono ?_
        rintro e Wa ⟨rfl, rfl⟩
        rw [HE.out, HN.out]
        have HZG := Lib.hid (show z.gd.length ≤ 9223372036854775807 from HSF.out.fit z (List.mem_of_getElem? HZ.out))
        have y0 := cell_bel z0
        have y1 := cell_bel z1
        have HBR := Lib.hid (fun p : Bel wr => (HB.out.call p.below).rd 0 rfl encS_len)
        clear d0 e0 z0 z1 hx0
        go_wp2
        refine wp_region_bel (by kernel_rfl) (by kernel_rfl) ?_
        repeat (go_big_quiet_step (first
          | (go_at_call 21; exact Calls.bel_same (implTableNeeds_c kind _))
          | (go_at_call 25; exact Calls.bel_of (implRightsMay_c rs q3 z.gd _ (HBR.out _) HSR.out.fit HZG.out))))
        refine wpQuiet_nil ?_
        rintro _ ⟨⟨wz, hbz⟩, rfl⟩
        have HB2 := Lib.hid (HB.out.call hbz)
        clear hbz HB
        (try dsimp only)
        (try simp only [HZR.out])
        go_wp2
        go_roundw
        case rel => exact ⟨j + 1, by omega, by go_num, HB2.out⟩
        case measure => simp [intOf]; omega
    · go_wp2
      go_ret
      exact ⟨rfl, HB.out.below⟩

set_option maxRecDepth 100000 in
theorem fnTableOk_l (os : Os) (started : os.Started) (H : Type) (enc : TypeId × Value → H) :
    ReturnsInHanded {} Tryd.checked os 4 .any (fun w args => (Rows.fnTableOkSpec.pre enc Tryd.prog Tryd.f4 [] false w args ∧ laidMetH Tryd.prog Rows.fnTableOkRow.laid w) ∧ sizedMet enc Tryd.prog Tryd.f4 (OpenSpec.ofChange Rows.fnTableOkSpec) false w args)
      (Rows.fnTableOkSpec.post enc Tryd.prog Tryd.f4 false true false false) := by
  refine returnsInHanded_of_change_and (C := Tryd.checked) (X := fun w _ => laidMetH Tryd.prog Rows.fnTableOkRow.laid w) (fun _ _ _ hh h => h.of_heap hh) own started (by kernel_rfl) Tryd.func4
    (ChangeSpec.witness_shaped (enc := enc) (C := Tryd.checked) (os := os) (X := fun w _ => laidMetH Tryd.prog Rows.fnTableOkRow.laid w) false (World.laidAll Tryd.prog os Rows.fnTableOkRow.laid) #[.slice none 0 0] 8 (World.laidAll_os _ _ _)
      (World.shaped_of_ZipB (by kernel_rfl) (by kernel_rfl)) (by kernel_rfl) (by kernel_rfl) (by kernel_rfl)
      (by rw [MakeChecks.laidMetH_plain _ _ _ (by kernel_rfl)]; exact laidMet_laidAll _ (by kernel_rfl) (by kernel_rfl))) ?_
  intro W base args ds gs before hval0 hW _ _ _ _
  have hval : ∀ (j : Nat) t v, Tryd.f4.params[j]? = some t → args[j]? = some v → Value.okWide Tryd.prog W .any base t v := hval0
  have hW' := hW
  obtain ⟨p, q, hA0, hV, rfl, _, _⟩ := hW
  have hA : DataW.TrodAll enc Tryd.prog W 0 (fun _ => true) true Tryd.f4.params.toList args.toList ds p := hA0
  rw [Tryd.params4] at hA hval
  obtain ⟨v0, vs0, d0, ds0, p0, q0, hargs, rfl, rfl, h0, r0⟩ := trodAll_cons hA
  obtain ⟨rfl, rfl, rfl⟩ := trodAll_nil r0
  obtain rfl : args = #[v0] := by cases args; simp_all
  obtain ⟨rfl, rfl⟩ := trodVars_none hV
  clear hA0 hval0
  simp only [List.append_nil] at hW'
  have hl0 : ∀ x ∈ p0, x.block < W.heap.size := fun x hx => by simpa using hW'.lt x (by simp [hx])
  obtain ⟨x0, hx0, hg0⟩ := openBytes (hval 0 22 v0 rfl rfl) h0
  refine (fnTableOk_w x0 v0 W hx0 hg0).mono fun e W' ⟨he, hb⟩ => ?_
  subst he
  refine ⟨_, rfl, _, _, _, [], p0, [], hW', trodAll_cons_mk (shut_bool Tryd.underlying4 _) trodAll_mk0, ?_, rfl, hb.frame _, fun h => by cases h⟩
  have hk := trodAll_cons_mk (Below.trod laidOut (by kernel_rfl) (of_decide_eq_true (by kernel_rfl)) h0 hb hl0) (trodAll_mk0)
  simp only [List.append_nil] at hk
  exact hk

theorem fnTableOk_row : Rows.FnTableOkSaid :=
  OpenClaim.holds_of_wide 4 Tryd.f4 rfl rfl rfl rfl rfl rfl rfl ⟨rfl, rfl, rfl, rfl, rfl⟩ rfl rfl rfl rfl rfl (by kernel_rfl) Tryd.func4 (by kernel_rfl)
    (of_decide_eq_true (by kernel_rfl)) (by unfold Func.isWrapper; first | (rw [if_pos (by decide +kernel)]; kernel_rfl) | (rw [if_neg (by decide +kernel)]; exact ⟨rfl, rfl⟩))
    (fun os started H enc _ => fnTableOk_l os started H enc)

theorem fnTableOk_holds : Rows.FnTableOkCardSaid :=
  Claim7.holds_tied_plain_at .later [] [.data, .pinned] true Rows.fnTableOkCard.stood.harness false fnTableOk_row (fun _ h => by cases h) (by kernel_rfl) (fun _ h => by cases h) fnTableOk_row_tie rfl ⟨rfl, rfl⟩ (by kernel_rfl) rfl
    (fun f fn hf hfn => by
      obtain rfl : f = 4 := Option.some.inj ((show Tryd.prog.funcNamed "loop.example/exopager/laws.FnTableOk" = some 4 by kernel_rfl).symm.trans hf) |>.symm
      obtain rfl : fn = Tryd.f4 := (Option.some.inj (Tryd.func4.symm.trans hfn)).symm
      exact ⟨by kernel_rfl, fun j t ht => by
        rw [Tryd.params4] at ht
        have hm : t ∈ [22] := by simpa using Array.mem_of_getElem? ht
        have hall : ([22].all fun u => !Tryd.prog.wantsStandIn u) = true := by kernel_rfl
        exact (show Tryd.prog.wantsStandIn t = false by simpa using List.all_eq_true.1 hall t hm)⟩)
    (by kernel_rfl)

end Go.Proofs.YtklphfmjdgnpnaaDoor
