/- A new kernel: the reference's function. No conditions but the readings of the arguments and the sizes of the texts. -/
import Derived.Test.YtojknkpjnchchaaGreatDoorKerI
namespace Go.Proofs.YtojknkpjnchchaaGreatDoor
open Go.ChangeShapes Go.WideShapes Go.ChangeAt Go.RowKit
set_option linter.all false
set_option maxRecDepth 100000
attribute [local go_sem ↓] Go.wp_at_zero Go.wp_at_succ

theorem eltCac : Elt Tryz.prog Cac.enc 4 78 32 Cac.zero := by
  obtain ⟨i0, hi, hz0, hz1, hz2⟩ := info_parts infoCac
  refine ⟨Cac.enc_len, by decide, ?_, Tryz.underlying32, i0, _, hi, hz0, hz1, by omega, rfl⟩
  intro x u hu
  simp [Cac.enc] at hu
  rcases hu with rfl | rfl | rfl | rfl <;> rfl

theorem make_run {α : Type} {P : Program} {enc : α → List Value} {K : Nat} {e t : TypeId} {z : α} (E : Elt P enc K e t z) (n : Nat) (hn : n ≤ 1000000000) : ∃ cs : Array Value, cs.toList = (List.replicate n z).flatMap enc ∧ ∀ W, (Instr.makeSlice t (.int .i64 n) (.int .i64 n)).run P W = .ok (.slice (some ⟨W.heap.size, 0, none⟩) n n) (W.alloc (.cells cs e)) := by
  obtain ⟨i, zv, hi, hz, hs, hby, hzc⟩ := E.info
  refine ⟨madeCells zv.cells (n * K), made_flat enc K E.len E.pos z zv.cells hzc n, fun W => ?_⟩
  have hb : (i.bytes : Int) * (n : Int) ≤ 281474976710656 := by
    have h : i.bytes * n ≤ 281474976710656 := Nat.le_trans (Nat.mul_le_mul hby hn) (by decide)
    have h2 : ((i.bytes * n : Nat) : Int) ≤ 281474976710656 := by omega
    rwa [Int.natCast_mul] at h2
  have hr := run_make (P := P) W t e i zv E.sl hi hz .i64 .i64 n n (by omega) (Int.le_refl _) hb (by omega)
  simp only [Int.toNat_natCast, hs] at hr
  exact hr

section
variable {w0 w : World} {row : Option Nat} {rs rs' : List Res}
set_option maxHeartbeats 2000000 in
theorem l2NewK_b (H : Bun w0 row w rs) : Calls Tryz.prog 72 #[] w fun e w' =>
    ∃ u ss, e = .returned u ∧ Bun w0 row w' (Res.row encL 1 41 u ss :: Res.rows encI 1 3 ss (List.replicate 12 [0, 0, 0, 0]) :: rs) := by
  have HH := Lib.hid H
  clear H
  go_enter Tryz.func72, Tryz.ntmps72
  go_wp2
  go_loopw [1, 2] (fun u i wr => ∃ (j : Nat) (ss : List Sl), j ≤ 12 ∧ i = .int .i64 j ∧ Bun w0 row wr (Res.row encL 1 41 u ss :: Res.rows encI 1 3 ss (List.replicate j [0, 0, 0, 0]) :: rs)) (fun _ i _ => 12 - (intOf i).toNat)
  case atStart => exact ⟨0, [], Nat.zero_le _, rfl, (HH.out.norows).lit eltSl #[] [] rfl (by simp)⟩
  case round =>
    obtain ⟨j, ss, hj, rfl, hb⟩ := hrel
    have HB := Lib.hid hb
    clear hb
    by_cases hlt : j < 12
    · have HL := Lib.hid ((show InO encI 1 3 0 wr.heap.size wr ss (List.replicate j [0, 0, 0, 0]) from HB.out.get 1 rfl).len.trans (by simp : _ = j))
      go_wp2_with (first | (refine make_T eltInt rfl _ _ rfl 4 rfl rfl (by omega) ?_; intro w1 ho hb1; have H2 := Lib.hid ((HB.out.addT ho hb1).lits eltSl #[.slice (some ⟨wr.heap.size, 0, none⟩) 4 4] [(some ⟨wr.heap.size, 0, none⟩, 4, 4)] 1 rfl rfl (by omega)); clear ho hb1) | (at_builtin; refine append_b eltSl rfl _ _ rfl _ _ [(some ⟨wr.heap.size, 0, none⟩, 4, 4)] rfl rfl (H2.out.front 2 rfl) (H2.out.rd 0 rfl encL_len) (by have := HL.out; simp only [List.length_cons, List.length_nil]; omega) ?_; intro v3 w3 h3 hnil3; have H3 := Lib.hid h3; clear h3 hnil3))
      have H4 := Lib.hid ((((((H3.out.rm 1).front 1 rfl).front 2 rfl).front 1 rfl).snoc (s := (some ⟨wr.heap.size, 0, none⟩, 4, 4))).front 1 rfl)
      rw [show List.replicate j [(0 : Int), 0, 0, 0] ++ [List.replicate 4 0] = List.replicate (j + 1) [0, 0, 0, 0] from (List.replicate_succ' (n := j) (a := [(0 : Int), 0, 0, 0])).symm] at H4
      clear H3 H2
      go_roundw
      case rel => exact ⟨j + 1, _, by omega, by go_num, H4.out⟩
      case measure => simp [intOf]; omega
    · obtain rfl : j = 12 := by omega
      go_wp2
      go_ret
      exact ⟨_, _, rfl, HB.out⟩

theorem Bun.perm (h : Bun w0 row w rs) (hp : rs.Perm rs') : Bun w0 row w rs' :=
  ⟨h.grow, fun q hq => h.all q (hp.mem_iff.2 hq), hp.pairwise h.apart (fun {a b} hab k hk hk2 => hab k hk2 hk)⟩
end
theorem perm_swap {α : Type} (R A S : List α) : (R ++ (A ++ S)).Perm (A ++ (R ++ S)) := by
  rw [← List.append_assoc, ← List.append_assoc]
  exact List.perm_append_comm.append_right _

/-- A region that draws its order, by an invariant over what has been carried out. -/
theorem wpAny_inv {P : Program} {md : Region.Mode} {ops : Array Oper} {Q : Exit → Act → World → Prop} (Inv : Array Bool → Act → World → Prop)
    (hsz : ∀ l a w, Inv l a w → l.size = ops.size)
    (hend : ∀ l a w, Inv l a w → Region.ready md ops l = [] → Q .normal a w)
    (hstep : ∀ l a w i, Inv l a w → i ∈ Region.ready md ops l → wpOp P ops Q i (Inv (l.setIfInBounds i true)) a w) :
    ∀ fuel l a w, l.toList.count false ≤ fuel → Inv l a w → wpAny P md ops Q fuel l a w := by
  have hfree : ∀ l i, i ∈ Region.ready md ops l → l.getD i true = false := by
    intro l i hi
    unfold Region.ready at hi
    have := (List.mem_filter.1 hi).2
    simp only [Bool.and_eq_true, Bool.not_eq_true'] at this
    exact this.1
  have hat : ∀ (l : Array Bool) i, l.getD i true = false → l.toList[i]? = some false := by
    intro l i hi
    rw [Array.getElem?_toList]
    unfold Array.getD at hi
    split at hi
    · rename_i h; rw [Array.getElem?_eq_getElem h]; simpa using hi
    · simp at hi
  intro fuel
  induction fuel with
  | zero =>
    intro l a w hc hI
    have h0 : Region.ready md ops l = [] := by
      rw [List.eq_nil_iff_forall_not_mem]
      intro i hi
      have h1 := hat l i (hfree l i hi)
      have h2 : 0 < l.toList.count false := List.count_pos_iff.2 (List.mem_of_getElem? h1)
      omega
    exact ⟨h0, hend l a w hI h0⟩
  | succ fuel ih =>
    intro l a w hc hI
    refine ⟨fun h0 => hend l a w hI h0, fun i hi => ?_⟩
    refine wpOp_mono (fun a' w' h => ih _ a' w' ?_ h) (hstep l a w i hI hi)
    have h1 := hat l i (hfree l i hi)
    have hlt := (List.getElem?_eq_some_iff.1 h1).1
    have h2 : 0 < l.toList.count false := List.count_pos_iff.2 (List.mem_of_getElem? h1)
    have h3 : (l.setIfInBounds i true).toList = l.toList.set i true := by simp
    have h4 : l.toList[i] = false := (List.getElem?_eq_some_iff.1 h1).2
    rw [h3, List.count_set hlt, h4]
    simp only [beq_self_eq_true, if_true, show (true == false) = false from rfl, Bool.false_eq_true, if_false]
    omega
theorem wpOp_at {P : Program} {ops : Array Oper} {Q : Exit → Act → World → Prop} {i : Nat} {K : Act → World → Prop} {a : Act} {w : World} {o : Oper} (ho : ops[i]? = some o) (hg : o.guard = none) (h : o.wp P a w K Q) : wpOp P ops Q i K a w := by
  unfold wpOp
  rw [ho]
  simp only [Region.wanted, hg, if_true]
  exact .inl h

def NewInv (w : World) (v : Value) (R : Nat) (l : Array Bool) (a : Act) (x : World) : Prop :=
  ∃ d0 d1 d2 d3 d4 d5 d6 : Bool, l = #[d0, d1, d2, d3, d4, d5, d6] ∧ (d4 = true → d0 = true ∧ d1 = true ∧ d2 = true ∧ d3 = true) ∧ (d6 = true → d4 = true ∧ d5 = true) ∧
    ∃ (m u c d : Sl) (B : Nat) (ss : List Sl), a.defers = [] ∧ a.tmps = #[v, undef, .pointer (some ⟨R, 0, none⟩), .bool false, if d5 then .pointer (some ⟨B, 0, none⟩) else undef, undef, if d0 then slv m else undef, if d1 then slv u else undef, if d2 then slv c else undef, if d3 then slv d else undef, if d4 then .agg #[slv m, slv u, slv c, slv d] else undef, undef, undef, undef, undef, undef, undef, undef, undef, undef, undef, undef, undef, undef, undef, undef, undef, undef, undef, undef, undef, undef, undef, undef, undef, undef, undef, undef, undef, undef, undef] ∧ Bun w none x ((if d5 then [Res.blk B (if d6 then .cells #[slv m, slv u, slv c, slv d] 34 else .cells #[.slice none 0 0, .slice none 0 0, .slice none 0 0, .slice none 0 0] 34)] else []) ++ ((if d0 then [Res.row encL 1 41 (slv m) ss, Res.rows encI 1 3 ss (List.replicate 12 [0, 0, 0, 0])] else []) ++ ((if d1 then [Res.row Info.enc 3 73 (slv u) (List.replicate 12 Info.zero)] else []) ++ ((if d2 then [Res.row encE 2 55 (slv c) []] else []) ++ ((if d3 then [Res.row Cac.enc 4 78 (slv d) []] else []) ++ [Res.blk R (.cells #[.slice none 0 0, .slice none 0 0, .slice none 0 0, .slice none 0 0] 34)])))))

theorem take_all_ok {xss : List (List Txt)} {k : Nat} {xs : List Txt} (h : xss[k]? = some xs) (h2 : (xss.take k).any (fun xs => !rightsOk xs) = false) (h3 : rightsOk xs = true) : (xss.take (k + 1)).any (fun xs => !rightsOk xs) = false := by
  rw [List.take_add_one, h, List.any_append, h2]
  simp [h3]
theorem new_bad {xss : List (List Txt)} {k : Nat} {xs : List Txt} (h : xss[k]? = some xs) (h3 : rightsOk xs = false) : newB xss = false := by
  have : (xss.any fun xs => !rightsOk xs) = true := by rw [List.any_eq_true]; exact ⟨xs, List.mem_of_getElem? h, by simp [h3]⟩
  simp [newB, this]

set_option maxHeartbeats 16000000 in
theorem specKernelNew_c (xss : List (List Txt)) (v : Value) (w : World) (hx : RdSS w v xss) (hf : ∀ xs ∈ xss, fitS xs) (hlen : xss.length ≤ 1048576) : Calls Tryz.prog 22 #[v] w fun e w' =>
    ∃ a b c d ss sls, e = .returned (.tuple #[.agg #[a, b, c, d], .bool (newB xss)]) ∧ Bun w none w' (KR a b c d ss sls (newK xss) []) := by
  obtain ⟨rows, hr, hin⟩ := hx
  obtain ⟨a, c, rfl, h1, h2, -, h3⟩ := hr
  unfold maxLen at h2
  have H3 := Lib.hid h3
  have HIN := Lib.hid hin
  have HF := Lib.hid hf
  have HL := Lib.hid hin.1
  have HB0 := Lib.hid ((Bun.refl w none).alloc (.cells #[.slice none 0 0, .slice none 0 0, .slice none 0 0, .slice none 0 0] 34))
  obtain ⟨zc, hzc, hmk'⟩ := make_run eltInfo 12 (by omega)
  have hmk : ∀ W, (Instr.makeSlice 30 (.int .i64 12) (.int .i64 12)).run Tryz.prog W = .ok (.slice (some ⟨W.heap.size, 0, none⟩) 12 12) (W.alloc (.cells zc 73)) := hmk'
  have HZC := Lib.hid hzc
  obtain ⟨n, hn⟩ : ∃ n, n = rows.length := ⟨_, rfl⟩
  rw [← hn] at h1 ⊢
  have HN0 := Lib.hid (hn.trans hin.1)
  have hn1 : n ≤ 1048576 := by have := HN0.out; omega
  clear h3 hin hf hmk' hzc hn hlen
  go_enter Tryz.func22, Tryz.ntmps22
  go_upto_region 1 with fail
  refine wp_region_any (by kernel_rfl) ?_
  refine wpAny_inv (NewInv w (.slice a n c) w.heap.size) ?_ ?_ ?_ _ _ _ _ (by simp) ?_
  · rintro l A x ⟨d0, d1, d2, d3, d4, d5, d6, rfl, -⟩
    rfl
  · rintro l A x ⟨d0, d1, d2, d3, d4, d5, d6, rfl, k4, k6, m, u, cc, d, B, ss, hdf, htm, hB⟩ hr
    have HB := Lib.hid hB
    clear hB k4 k6
    unfold Region.ready at hr
    rw [List.filter_eq_nil_iff] at hr
    have r0 := hr 0 (by simp)
    have r1 := hr 1 (by simp)
    have r2 := hr 2 (by simp)
    have r3 := hr 3 (by simp)
    have r4 := hr 4 (by simp)
    have r5 := hr 5 (by simp)
    have r6 := hr 6 (by simp)
    simp [Region.binds] at r0 r1 r2 r3 r5
    subst r0 r1 r2 r3 r5
    simp [Region.binds] at r4
    subst r4
    simp [Region.binds] at r6
    subst r6
    clear hr
    obtain ⟨tm, df⟩ := A
    dsimp only at hdf htm
    subst hdf htm
    have HB1 : Hid (Bun w none x [Res.blk B (.cells #[slv m, slv u, slv cc, slv d] 34), Res.row encL 1 41 (slv m) ss, Res.rows encI 1 3 ss (List.replicate 12 [0, 0, 0, 0]), Res.row Info.enc 3 73 (slv u) (List.replicate 12 Info.zero), Res.row encE 2 55 (slv cc) [], Res.row Cac.enc 4 78 (slv d) [], Res.blk w.heap.size (.cells #[.slice none 0 0, .slice none 0 0, .slice none 0 0, .slice none 0 0] 34)]) := HB
    clear HB
    simp only [if_true]
    simp only [slv] at HB1 ⊢
    obtain ⟨R, hR⟩ : ∃ R, R = w.heap.size := ⟨_, rfl⟩
    rw [← hR] at HB1 ⊢
    clear hR hmk HB0 HZC
    go_wp2
    go_loopw [5] (fun i wr => ∃ (k : Nat), k ≤ n ∧ i = .int .i64 k ∧ Hid ((xss.take k).any (fun xs => !rightsOk xs) = false) ∧ ∃ (cv : Value) (sls : List Sl), Bun w none wr [Res.blk B (.cells #[.slice m.1 m.2.1 m.2.2, .slice u.1 u.2.1 u.2.2, cv, .slice d.1 d.2.1 d.2.2] 34), rowE cv sls (envsOf (xss.take k)), rowR sls (envsOf (xss.take k)), Res.row encL 1 41 (.slice m.1 m.2.1 m.2.2) ss, Res.rows encI 1 3 ss (List.replicate 12 [0, 0, 0, 0]), Res.row Info.enc 3 73 (.slice u.1 u.2.1 u.2.2) (List.replicate 12 Info.zero), Res.row Cac.enc 4 78 (.slice d.1 d.2.1 d.2.2) [], Res.blk R (.cells #[.slice none 0 0, .slice none 0 0, .slice none 0 0, .slice none 0 0] 34)]) (fun i _ => n - (intOf i).toNat)
    case atStart =>
      refine ⟨0, Nat.zero_le _, rfl, by simp [Hid], .slice cc.1 cc.2.1 cc.2.2, [], ?_⟩
      have b1 := (HB1.out.norows (enc := encS) (K := 1) (e := 9)).front 5 rfl
      exact b1.front 2 rfl
    case round =>
      obtain ⟨k, hk, rfl, hany, cv, sls, hb⟩ := hrel
      have HB2 := Lib.hid hb
      clear hb HB1
      by_cases hlt : k < n
      · obtain ⟨xs, hxs⟩ : ∃ xs, xss[k]? = some xs := ⟨_, List.getElem?_eq_getElem (by have := HN0.out; omega)⟩
        obtain ⟨s0, hrow, hrd⟩ := HIN.out.get hxs
        obtain ⟨b, o, rfl, hbl, hc⟩ := H3.out k s0 hrow
        have c0 := (HB2.out.below.cell (p := ⟨b, o + k * 1 + 0, none⟩) hbl).trans (hc 0 _ rfl)
        have C0 := Lib.hid (hc 0 _ rfl)
        simp only [Nat.add_zero, Nat.mul_one] at c0
        have hk0 : (0 : Int) ≤ (k : Int) := by omega
        have hk1 : (k : Int) < (n : Int) := by omega
        have HRD := Lib.hid hrd
        have HXS := Lib.hid hxs
        have HSN := Lib.hid (envsOf_snoc xss k xs hxs)
        have HFX := Lib.hid (HF.out xs (List.mem_of_getElem? hxs))
        have hel : (envsOf (xss.take k)).length = k := by unfold envsOf; rw [List.length_map, List.length_take]; have := HN0.out; omega
        have hsl : sls.length = k := by have h9 := (show InO encS 1 9 0 _ _ sls ((envsOf (xss.take k)).map (·.rg)) from HB2.out.get 2 rfl).len; rw [List.length_map, hel] at h9; exact h9
        have HEL := Lib.hid hel
        have HSL2 := Lib.hid hsl
        clear hc hrow hrd hxs hel hsl
        cases hrk : rightsOk xs
        · have HRK := Lib.hid hrk
          have H8 := Lib.hid (new_bad HXS.out hrk)
          have H9 := Lib.hid (show newK xss = nilK by simp [newK, H8.out])
          clear hrk
          go_wp2_with fail
          refine (specRightsValid_c xs (slv s0) _ (HRD.out.below HB2.out.below) HFX.out).mono ?_
          rintro e w1 ⟨rfl, hb1⟩
          rw [HRK.out]
          have HB3 := Lib.hid (HB2.out.call hb1)
          obtain ⟨p0, p1, p2, p3, f0, f1, f2, f3, pz⟩ := blk4 (HB3.out.get 7 rfl)
          have a1 := (HB3.out.front 7 rfl).put 0 (.slice none 0 0)
          have a2 := ((a1.put 1 (.slice none 0 0)).put 2 (.slice none 0 0)).put 3 (.slice none 0 0)
          have a3 := a2.drop.drop.drop.drop.drop.drop.drop.drop.nilK
          have HA := Lib.hid a3
          clear a1 a2 a3 hb1 HB2
          go_wp2
          refine bodyPost_ret (v := .tuple #[.agg #[.slice none 0 0, .slice none 0 0, .slice none 0 0, .slice none 0 0], .bool false]) ?_ rfl ?_
          · simp [results, Tryz.results22, go_sem, p0, p1, p2, p3, pz]
          · rw [H8.out, H9.out]
            first | exact ⟨_, _, _, _, [], [], rfl, HA.out⟩ | exact ⟨_, _, _, _, rfl, [], [], HA.out⟩
        · have HRK := Lib.hid hrk
          have HANY := Lib.hid (take_all_ok HXS.out hany.out hrk)
          clear hrk
          go_wp2_with fail
          refine (specRightsValid_c xs (slv s0) _ (HRD.out.below HB2.out.below) HFX.out).mono ?_
          rintro e w1 ⟨rfl, hb1⟩
          rw [HRK.out]
          have HB3 := Lib.hid (HB2.out.call hb1)
          clear hb1 HB2 c0
          have hl1 := HB3.out.litsN w1.heap.size eltStr #[] [] 0 rfl rfl (by omega) rfl
          have c1 := (HB3.out.below.cell (p := ⟨b, o + k * 1 + 0, none⟩) hbl).trans C0.out
          have c2 := (hl1.below.cell (p := ⟨b, o + k * 1 + 0, none⟩) hbl).trans C0.out
          simp only [Nat.add_zero, Nat.mul_one] at c1 c2
          obtain ⟨-, -, l1, -, -, -, -, -, -⟩ := blk4 (HB3.out.get 0 rfl)
          obtain ⟨-, -, l2, -, -, -, -, -, -⟩ := blk4 (hl1.get 1 rfl)
          have HL1 := Lib.hid hl1
          have HRD2 := Lib.hid (HRD.out.below hl1.drew.below)
          have HXL := Lib.hid (show xs.length ≤ 1000000 by have := rightsOk_len HRK.out; omega)
          clear hl1
          simp only [slv] at c1 c2
          go_wp2
          go_region_law (first
            | (refine step_t eltStr (by rfl) _ _ (by rfl) _ _ xs (by rfl) (by rfl) HL1.out.drew HRD2.out (by have := HXL.out; simp; omega) ?_; intro v4 w4 h4 hnil4; obtain ⟨⟨ua, un, uc⟩, rfl⟩ := (h4.rd 0 rfl encS_len).sl; simp only [slv, List.nil_append] at h4 ⊢; have HC := Lib.hid h4; obtain ⟨-, -, l3, -, -, -, -, -, -⟩ := blk4 (h4.get 1 rfl); have H5 := Lib.hid (h4.litsN w4.heap.size eltEnv #[.slice ua un uc, .int .i64 (-1)] [((ua, un, uc), -1)] 1 rfl rfl (by omega) rfl); obtain ⟨-, -, l4, -, -, -, -, -, -⟩ := blk4 (H5.out.get 2 rfl); clear h4 hnil4)
            | (refine step_t eltEnv (by rfl) _ _ (by rfl) cv _ [((ua, un, uc), -1)] (by rfl) (by rfl) (H5.out.front 3 rfl) (H5.out.rd 0 rfl encE_len) (by rw [mkEs_len (by rw [HSL2.out, HEL.out]), HEL.out]; simp only [List.length_cons, List.length_nil]; omega) ?_; intro v3 w3 h3 hnil3; obtain ⟨⟨sa, sn, sc⟩, rfl⟩ := (h3.rd 0 rfl encE_len).sl; simp only [slv] at h3 ⊢; obtain ⟨q0, q1, q2, q3, r0, r1, r2, r3, rz⟩ := blk4 (h3.get 3 rfl); have H6 := Lib.hid h3; clear h3 hnil3))
          all_goals
            have e1 : mkEs (sls ++ [(ua, un, uc)]) (envsOf (xss.take (k + 1))) = mkEs sls (envsOf (xss.take k)) ++ [((ua, un, uc), -1)] := by rw [HSN.out]; exact mkEs_snoc (by rw [HSL2.out, HEL.out]) _ _
            have e2 : (envsOf (xss.take (k + 1))).map (·.rg) = (envsOf (xss.take k)).map (·.rg) ++ [xs] := by rw [HSN.out]; simp
            have E1 := Lib.hid e1
            have E2 := Lib.hid e2
            have a1 := (H6.out.front 3 rfl).put 2 (.slice sa sn sc)
            have a2 := ((a1.rm 2).front 3 rfl).front 3 rfl
            have a3 := ((a2.snoc (s := (ua, un, uc))).front 2 rfl).front 2 rfl
            have H7 := Lib.hid a3
            clear a1 a2 a3 H6 H5 HC HB3 HL1 e1 e2 q0 q1 q2 q3 r0 r1 r2 r3 l1 l2 l3 l4 c1 c2
            go_wp2
            go_roundw
            case rel => exact ⟨k + 1, by omega, by go_num, HANY.out, .slice sa sn sc, sls ++ [(ua, un, uc)], by unfold rowE rowR; rw [E1.out, E2.out]; exact H7.out⟩
            case measure => simp [intOf]; omega
      · have hkn : k = n := by omega
        subst hkn
        have HT3 := Lib.hid (show xss.take k = xss from List.take_of_length_le (by have := HN0.out; omega))
        have HANY := Lib.hid (show (xss.any fun xs => !rightsOk xs) = false by have := hany.out; rwa [HT3.out] at this)
        obtain ⟨⟨ca, cn, c3⟩, rfl⟩ := (HB2.out.rd 1 rfl encE_len).sl
        simp only [slv] at HB2
        obtain ⟨p0, p1, p2, p3, f0, f1, f2, f3, pz⟩ := blk4 (HB2.out.get 7 rfl)
        obtain ⟨k0, k1, k2, k3, -, -, -, -, kz⟩ := blk4 (HB2.out.get 0 rfl)
        by_cases h33 : k = 3
        · have h3b : ((k : Int) != 3) = false := by simp [h33]
          have H8 := Lib.hid (show newB xss = true by simp [newB, HANY.out, ← HN0.out, h33])
          have H9 := Lib.hid (show newK xss = ⟨List.replicate 12 [0, 0, 0, 0], List.replicate 12 Info.zero, envsOf xss, []⟩ by simp [newK, H8.out])
          have a1 := (HB2.out.front 7 rfl).put 0 (.slice m.1 m.2.1 m.2.2)
          have a2 := ((a1.put 1 (.slice u.1 u.2.1 u.2.2)).put 2 (.slice ca cn c3)).put 3 (.slice d.1 d.2.1 d.2.2)
          obtain ⟨z0, z1, z2, z3, -, -, -, -, zz⟩ := blk4 (a2.get 0 rfl)
          have a3 := a2.drop.drop
          have a4 := ((a3.front 5 rfl).front 2 rfl).front 2 rfl
          have a5 := ((a4.front 5 rfl).front 5 rfl).front 5 rfl
          have HA := Lib.hid a5
          have ZC := Lib.hid (And.intro z0 (And.intro z1 (And.intro z2 (And.intro z3 zz))))
          clear a1 a2 a3 a4 a5 z0 z1 z2 z3 zz h33
          go_wp2
          obtain ⟨z0, z1, z2, z3, zz⟩ := ZC.out
          refine bodyPost_ret (v := .tuple #[.agg #[.slice m.1 m.2.1 m.2.2, .slice u.1 u.2.1 u.2.2, .slice ca cn c3, .slice d.1 d.2.1 d.2.2], .bool true]) ?_ rfl ?_
          · simp [results, Tryz.results22, go_sem, z0, z1, z2, z3, zz]
          · rw [H8.out, H9.out, ← HT3.out]
            first | exact ⟨_, _, _, _, rfl, ss, sls, HA.out⟩ | exact ⟨_, _, _, _, ss, sls, rfl, HA.out⟩
        · have h3b : ((k : Int) != 3) = true := by rw [bne_iff_ne]; omega
          have H8 := Lib.hid (show newB xss = false by
            have : ¬ xss.length = 3 := by rw [← HN0.out]; exact h33
            simp [newB, this])
          have H9 := Lib.hid (show newK xss = nilK by simp [newK, H8.out])
          have a1 := (HB2.out.front 7 rfl).put 0 (.slice none 0 0)
          have a2 := ((a1.put 1 (.slice none 0 0)).put 2 (.slice none 0 0)).put 3 (.slice none 0 0)
          have a3 := a2.drop.drop.drop.drop.drop.drop.drop.drop.nilK
          have HA := Lib.hid a3
          clear a1 a2 a3 h33
          go_wp2
          refine bodyPost_ret (v := .tuple #[.agg #[.slice none 0 0, .slice none 0 0, .slice none 0 0, .slice none 0 0], .bool false]) ?_ rfl ?_
          · simp [results, Tryz.results22, go_sem, p0, p1, p2, p3, pz]
          · rw [H8.out, H9.out]
            first | exact ⟨_, _, _, _, [], [], rfl, HA.out⟩ | exact ⟨_, _, _, _, rfl, [], [], HA.out⟩
  · rintro l A x i ⟨d0, d1, d2, d3, d4, d5, d6, rfl, k4, k6, m, u, cc, d, B, ss, hdf, htm, hB⟩ hi
    have HHB := Lib.hid hB
    clear hB
    unfold Region.ready at hi
    obtain ⟨hi1, hi2⟩ := List.mem_filter.1 hi
    have hi3 : i < 7 := by simpa using hi1
    clear hi hi1
    obtain ⟨tm, df⟩ := A
    dsimp only at hdf htm
    subst hdf htm
    have hcases : i = 0 ∨ i = 1 ∨ i = 2 ∨ i = 3 ∨ i = 4 ∨ i = 5 ∨ i = 6 := by omega
    clear hi3
    rcases hcases with rfl | rfl | rfl | rfl | rfl | rfl | rfl
    · simp [Region.binds] at hi2
      subst hi2
      obtain rfl : d4 = false := by cases d4 <;> first | rfl | exact absurd (k4 rfl).1 (by simp)
      obtain rfl : d6 = false := by cases d6 <;> first | rfl | exact absurd (k6 rfl).1 (by simp)
      refine wpOp_at rfl rfl ?_
      unfold Oper.wp
      go_simp
      refine (l2NewK_b HHB.out).mono ?_
      rintro e wc ⟨uu, ssn, rfl, hN⟩
      obtain ⟨sm, rfl⟩ := (hN.rd 0 rfl encL_len).sl
      dsimp only
      refine ⟨true, d1, d2, d3, false, d5, false, rfl, by simp, by simp, sm, u, cc, d, B, ssn, by simp [Act.put], by simp [Act.put], ?_⟩
      exact hN.perm ((perm_swap [Res.row encL 1 41 (slv sm) ssn, Res.rows encI 1 3 ssn (List.replicate 12 [0, 0, 0, 0])] (if d5 then [Res.blk B (.cells #[.slice none 0 0, .slice none 0 0, .slice none 0 0, .slice none 0 0] 34)] else []) ((if d1 then [Res.row Info.enc 3 73 (slv u) (List.replicate 12 Info.zero)] else []) ++ ((if d2 then [Res.row encE 2 55 (slv cc) []] else []) ++ ((if d3 then [Res.row Cac.enc 4 78 (slv d) []] else []) ++ [Res.blk w.heap.size (.cells #[.slice none 0 0, .slice none 0 0, .slice none 0 0, .slice none 0 0] 34)])))).trans (List.Perm.append_left (if d5 then [Res.blk B (.cells #[.slice none 0 0, .slice none 0 0, .slice none 0 0, .slice none 0 0] 34)] else []) (List.Perm.refl ([Res.row encL 1 41 (slv sm) ssn, Res.rows encI 1 3 ssn (List.replicate 12 [0, 0, 0, 0])] ++ ((if d1 then [Res.row Info.enc 3 73 (slv u) (List.replicate 12 Info.zero)] else []) ++ ((if d2 then [Res.row encE 2 55 (slv cc) []] else []) ++ ((if d3 then [Res.row Cac.enc 4 78 (slv d) []] else []) ++ [Res.blk w.heap.size (.cells #[.slice none 0 0, .slice none 0 0, .slice none 0 0, .slice none 0 0] 34)])))))))
    · simp [Region.binds] at hi2
      subst hi2
      obtain rfl : d4 = false := by cases d4 <;> first | rfl | exact absurd (k4 rfl).2.1 (by simp)
      obtain rfl : d6 = false := by cases d6 <;> first | rfl | exact absurd (k6 rfl).1 (by simp)
      refine wpOp_at rfl rfl ?_
      unfold Oper.wp
      go_simp
      refine ⟨d0, true, d2, d3, false, d5, false, rfl, by simp, by simp, m, (some ⟨x.heap.size, 0, none⟩, 12, 12), cc, d, B, ss, by simp [Act.put], by simp [Act.put, slv], ?_⟩
      exact (HHB.out.litsN x.heap.size eltInfo zc (List.replicate 12 Info.zero) 12 HZC.out (by simp) (by omega) rfl).perm ((perm_swap [Res.row Info.enc 3 73 (slv (some ⟨x.heap.size, 0, none⟩, 12, 12)) (List.replicate 12 Info.zero)] (if d5 then [Res.blk B (.cells #[.slice none 0 0, .slice none 0 0, .slice none 0 0, .slice none 0 0] 34)] else []) ((if d0 then [Res.row encL 1 41 (slv m) ss, Res.rows encI 1 3 ss (List.replicate 12 [0, 0, 0, 0])] else []) ++ ((if d2 then [Res.row encE 2 55 (slv cc) []] else []) ++ ((if d3 then [Res.row Cac.enc 4 78 (slv d) []] else []) ++ [Res.blk w.heap.size (.cells #[.slice none 0 0, .slice none 0 0, .slice none 0 0, .slice none 0 0] 34)])))).trans (List.Perm.append_left (if d5 then [Res.blk B (.cells #[.slice none 0 0, .slice none 0 0, .slice none 0 0, .slice none 0 0] 34)] else []) ((perm_swap [Res.row Info.enc 3 73 (slv (some ⟨x.heap.size, 0, none⟩, 12, 12)) (List.replicate 12 Info.zero)] (if d0 then [Res.row encL 1 41 (slv m) ss, Res.rows encI 1 3 ss (List.replicate 12 [0, 0, 0, 0])] else []) ((if d2 then [Res.row encE 2 55 (slv cc) []] else []) ++ ((if d3 then [Res.row Cac.enc 4 78 (slv d) []] else []) ++ [Res.blk w.heap.size (.cells #[.slice none 0 0, .slice none 0 0, .slice none 0 0, .slice none 0 0] 34)]))).trans (List.Perm.append_left (if d0 then [Res.row encL 1 41 (slv m) ss, Res.rows encI 1 3 ss (List.replicate 12 [0, 0, 0, 0])] else []) (List.Perm.refl ([Res.row Info.enc 3 73 (slv (some ⟨x.heap.size, 0, none⟩, 12, 12)) (List.replicate 12 Info.zero)] ++ ((if d2 then [Res.row encE 2 55 (slv cc) []] else []) ++ ((if d3 then [Res.row Cac.enc 4 78 (slv d) []] else []) ++ [Res.blk w.heap.size (.cells #[.slice none 0 0, .slice none 0 0, .slice none 0 0, .slice none 0 0] 34)]))))))))
    · simp [Region.binds] at hi2
      subst hi2
      obtain rfl : d4 = false := by cases d4 <;> first | rfl | exact absurd (k4 rfl).2.2.1 (by simp)
      obtain rfl : d6 = false := by cases d6 <;> first | rfl | exact absurd (k6 rfl).1 (by simp)
      refine wpOp_at rfl rfl ?_
      unfold Oper.wp
      go_simp
      refine ⟨d0, d1, true, d3, false, d5, false, rfl, by simp, by simp, m, u, (some ⟨x.heap.size, 0, none⟩, 0, 0), d, B, ss, by simp [Act.put], by simp [Act.put, slv], ?_⟩
      exact (HHB.out.litsN x.heap.size eltEnv #[] [] 0 rfl rfl (by omega) rfl).perm ((perm_swap [Res.row encE 2 55 (slv (some ⟨x.heap.size, 0, none⟩, 0, 0)) []] (if d5 then [Res.blk B (.cells #[.slice none 0 0, .slice none 0 0, .slice none 0 0, .slice none 0 0] 34)] else []) ((if d0 then [Res.row encL 1 41 (slv m) ss, Res.rows encI 1 3 ss (List.replicate 12 [0, 0, 0, 0])] else []) ++ ((if d1 then [Res.row Info.enc 3 73 (slv u) (List.replicate 12 Info.zero)] else []) ++ ((if d3 then [Res.row Cac.enc 4 78 (slv d) []] else []) ++ [Res.blk w.heap.size (.cells #[.slice none 0 0, .slice none 0 0, .slice none 0 0, .slice none 0 0] 34)])))).trans (List.Perm.append_left (if d5 then [Res.blk B (.cells #[.slice none 0 0, .slice none 0 0, .slice none 0 0, .slice none 0 0] 34)] else []) ((perm_swap [Res.row encE 2 55 (slv (some ⟨x.heap.size, 0, none⟩, 0, 0)) []] (if d0 then [Res.row encL 1 41 (slv m) ss, Res.rows encI 1 3 ss (List.replicate 12 [0, 0, 0, 0])] else []) ((if d1 then [Res.row Info.enc 3 73 (slv u) (List.replicate 12 Info.zero)] else []) ++ ((if d3 then [Res.row Cac.enc 4 78 (slv d) []] else []) ++ [Res.blk w.heap.size (.cells #[.slice none 0 0, .slice none 0 0, .slice none 0 0, .slice none 0 0] 34)]))).trans (List.Perm.append_left (if d0 then [Res.row encL 1 41 (slv m) ss, Res.rows encI 1 3 ss (List.replicate 12 [0, 0, 0, 0])] else []) ((perm_swap [Res.row encE 2 55 (slv (some ⟨x.heap.size, 0, none⟩, 0, 0)) []] (if d1 then [Res.row Info.enc 3 73 (slv u) (List.replicate 12 Info.zero)] else []) ((if d3 then [Res.row Cac.enc 4 78 (slv d) []] else []) ++ [Res.blk w.heap.size (.cells #[.slice none 0 0, .slice none 0 0, .slice none 0 0, .slice none 0 0] 34)])).trans (List.Perm.append_left (if d1 then [Res.row Info.enc 3 73 (slv u) (List.replicate 12 Info.zero)] else []) (List.Perm.refl ([Res.row encE 2 55 (slv (some ⟨x.heap.size, 0, none⟩, 0, 0)) []] ++ ((if d3 then [Res.row Cac.enc 4 78 (slv d) []] else []) ++ [Res.blk w.heap.size (.cells #[.slice none 0 0, .slice none 0 0, .slice none 0 0, .slice none 0 0] 34)])))))))))
    · simp [Region.binds] at hi2
      subst hi2
      obtain rfl : d4 = false := by cases d4 <;> first | rfl | exact absurd (k4 rfl).2.2.2 (by simp)
      obtain rfl : d6 = false := by cases d6 <;> first | rfl | exact absurd (k6 rfl).1 (by simp)
      refine wpOp_at rfl rfl ?_
      unfold Oper.wp
      go_simp
      refine ⟨d0, d1, d2, true, false, d5, false, rfl, by simp, by simp, m, u, cc, (some ⟨x.heap.size, 0, none⟩, 0, 0), B, ss, by simp [Act.put], by simp [Act.put, slv], ?_⟩
      exact (HHB.out.litsN x.heap.size eltCac #[] [] 0 rfl rfl (by omega) rfl).perm ((perm_swap [Res.row Cac.enc 4 78 (slv (some ⟨x.heap.size, 0, none⟩, 0, 0)) []] (if d5 then [Res.blk B (.cells #[.slice none 0 0, .slice none 0 0, .slice none 0 0, .slice none 0 0] 34)] else []) ((if d0 then [Res.row encL 1 41 (slv m) ss, Res.rows encI 1 3 ss (List.replicate 12 [0, 0, 0, 0])] else []) ++ ((if d1 then [Res.row Info.enc 3 73 (slv u) (List.replicate 12 Info.zero)] else []) ++ ((if d2 then [Res.row encE 2 55 (slv cc) []] else []) ++ [Res.blk w.heap.size (.cells #[.slice none 0 0, .slice none 0 0, .slice none 0 0, .slice none 0 0] 34)])))).trans (List.Perm.append_left (if d5 then [Res.blk B (.cells #[.slice none 0 0, .slice none 0 0, .slice none 0 0, .slice none 0 0] 34)] else []) ((perm_swap [Res.row Cac.enc 4 78 (slv (some ⟨x.heap.size, 0, none⟩, 0, 0)) []] (if d0 then [Res.row encL 1 41 (slv m) ss, Res.rows encI 1 3 ss (List.replicate 12 [0, 0, 0, 0])] else []) ((if d1 then [Res.row Info.enc 3 73 (slv u) (List.replicate 12 Info.zero)] else []) ++ ((if d2 then [Res.row encE 2 55 (slv cc) []] else []) ++ [Res.blk w.heap.size (.cells #[.slice none 0 0, .slice none 0 0, .slice none 0 0, .slice none 0 0] 34)]))).trans (List.Perm.append_left (if d0 then [Res.row encL 1 41 (slv m) ss, Res.rows encI 1 3 ss (List.replicate 12 [0, 0, 0, 0])] else []) ((perm_swap [Res.row Cac.enc 4 78 (slv (some ⟨x.heap.size, 0, none⟩, 0, 0)) []] (if d1 then [Res.row Info.enc 3 73 (slv u) (List.replicate 12 Info.zero)] else []) ((if d2 then [Res.row encE 2 55 (slv cc) []] else []) ++ [Res.blk w.heap.size (.cells #[.slice none 0 0, .slice none 0 0, .slice none 0 0, .slice none 0 0] 34)])).trans (List.Perm.append_left (if d1 then [Res.row Info.enc 3 73 (slv u) (List.replicate 12 Info.zero)] else []) ((perm_swap [Res.row Cac.enc 4 78 (slv (some ⟨x.heap.size, 0, none⟩, 0, 0)) []] (if d2 then [Res.row encE 2 55 (slv cc) []] else []) [Res.blk w.heap.size (.cells #[.slice none 0 0, .slice none 0 0, .slice none 0 0, .slice none 0 0] 34)]).trans (List.Perm.append_left (if d2 then [Res.row encE 2 55 (slv cc) []] else []) (List.Perm.refl ([Res.row Cac.enc 4 78 (slv (some ⟨x.heap.size, 0, none⟩, 0, 0)) []] ++ [Res.blk w.heap.size (.cells #[.slice none 0 0, .slice none 0 0, .slice none 0 0, .slice none 0 0] 34)]))))))))))
    · simp [Region.binds] at hi2
      obtain ⟨rfl, rfl, rfl, rfl, rfl⟩ := hi2
      obtain rfl : d6 = false := by cases d6 <;> first | rfl | exact absurd (k6 rfl).1 (by simp)
      refine wpOp_at rfl rfl ?_
      unfold Oper.wp
      simp only [slv]
      go_simp
      refine ⟨true, true, true, true, true, d5, false, rfl, by simp, by simp, m, u, cc, d, B, ss, by simp [Act.put], (by simp [Act.put]; (repeat' apply And.intro) <;> rfl), ?_⟩
      exact HHB.out
    · simp [Region.binds] at hi2
      subst hi2
      obtain rfl : d6 = false := by cases d6 <;> first | rfl | exact absurd (k6 rfl).2 (by simp)
      refine wpOp_at rfl rfl ?_
      unfold Oper.wp
      go_simp
      refine ⟨d0, d1, d2, d3, d4, true, false, rfl, k4, by simp, m, u, cc, d, x.heap.size, ss, by simp [Act.put], by simp [Act.put], ?_⟩
      exact (HHB.out.blkAt (.cells #[.slice none 0 0, .slice none 0 0, .slice none 0 0, .slice none 0 0] 34) x.heap.size rfl)
    · simp [Region.binds] at hi2
      obtain ⟨rfl, rfl, rfl, rfl, rfl, rfl, rfl, -⟩ := hi2
      refine wpOp_at rfl rfl ?_
      unfold Oper.wp
      obtain ⟨e0, e1, e2, e3, f0, f1, f2, f3, ez⟩ := blk4 (HHB.out.get 0 rfl)
      have hp := (((HHB.out.put 0 (slv m)).put 1 (slv u)).put 2 (slv cc)).put 3 (slv d)
      have HP := Lib.hid hp
      clear hp HHB
      simp only [slv] at HP ⊢
      go_simp
      refine ⟨true, true, true, true, true, true, true, rfl, by simp, by simp, m, u, cc, d, B, ss, by simp [Act.put], by simp [Act.put, slv], ?_⟩
      exact HP.out
  · refine ⟨false, false, false, false, false, false, false, rfl, by simp, by simp, slN, slN, slN, slN, 0, [], rfl, rfl, ?_⟩
    exact HB0.out.drew
end Go.Proofs.YtojknkpjnchchaaGreatDoor
