/- Contracts of the helpers' loops over environments and translations. No conditions but the readings of the arguments. Contracts of the marks over bundles. No conditions but the readings of the arguments. Contracts of the marks of environments and translations. No conditions but the readings of the arguments. Contracts of the marks of environments over bundles. No conditions but the readings of the arguments. Contracts of the helpers on kernels. No conditions but the readings of the arguments. -/
import Derived.Test.YtojknkpjnchchaaGreatDoorKerC
import Derived.Test.YtojknkpjnchchaaGreatDoorGLib
import Derived.Test.YtojknkpjnchchaaGreatDoorGSwap
import Derived.Test.YtojknkpjnchchaaGreatDoorGInfo
namespace Go.Proofs.YtojknkpjnchchaaGreatDoor
open Go.ChangeShapes Go.WideShapes Go.RowKit
set_option linter.all false
set_option maxRecDepth 100000
attribute [local go_sem ↓] Go.wp_at_zero Go.wp_at_succ

theorem Bun.blkAt {w0 w : World} {row : Option Nat} {rs : List Res} (h : Bun w0 row w rs) (o : Obj) (a : Nat) (ha : a = w.heap.size) : Bun w0 row (w.alloc o) (Res.blk a o :: rs) := by subst ha; exact h.alloc o

theorem eqEnv_c (x y : Env) (s t : Sl) (w : World) (hs : RdS w (slv s) x.rg) (ht : RdS w (slv t) y.rg) : Calls Tryz.prog 116 #[.agg #[slv s, .int .i64 x.rt], .agg #[slv t, .int .i64 y.rt]] w fun e w' => e = .returned (.bool (decide (x = y))) ∧ Below w.heap.size w w' := by
  obtain ⟨xs, r⟩ := x
  obtain ⟨ys, r'⟩ := y
  dsimp only at hs ht ⊢
  simp only [Env.mk.injEq]
  have hB := (((Bun.refl w none).alloc (.cells #[slv s, .int .i64 r] 55)).blkAt (.cells #[slv t, .int .i64 r'] 55) (w.heap.size + 1) (by simp))
  have HB := Lib.hid hB
  have HS := Lib.hid (hs.below hB.below)
  have HT := Lib.hid (ht.below hB.below)
  clear hB hs ht
  by_cases h1 : xs = ys
  all_goals
    have H1 := Lib.hid h1
    first | have g1 := Lib.hid (decide_eq_false h1) | have g1 := Lib.hid (decide_eq_true h1)
    clear h1
    by_cases h2 : r = r'
    all_goals
      have H2 := Lib.hid h2
      first
      | have g2 : (r != r') = true := bne_iff_ne.2 h2
      | have g2 : (r != r') = false := by simp [h2]
      clear h2
      go_enter Tryz.func116, Tryz.ntmps116
      go_wp2_with fail
      refine (eqStringS_c xs ys (slv s) (slv t) _ HS.out HT.out).mono ?_
      rintro e w1 ⟨rfl, hb⟩
      rw [g1.out]
      have hB1 := HB.out.call hb
      obtain ⟨-, c1, -, -, -⟩ := blk2 (hB1.get 1 rfl)
      obtain ⟨-, c2, -, -, -⟩ := blk2 (hB1.get 0 rfl)
      have HB1 := Lib.hid hB1
      clear hb hB1
      go_wp2
      go_ret
      exact ⟨ret_bool (by have h1 := H1.out; have h2 := H2.out; simp [h1, h2]), HB1.out.below⟩

set_option maxHeartbeats 1000000 in
theorem eqEnvS_c (xs ys : List Env) (v u : Value) (w : World) (hx : RdE w v xs) (hy : RdE w u ys) : Calls Tryz.prog 54 #[v, u] w fun e w' =>
    e = .returned (.bool (decide (xs = ys))) ∧ Below w.heap.size w w' := by
  obtain ⟨rx, ⟨a, c, rfl, h1, h2, -, h3⟩, hin, hrt⟩ := hx
  obtain ⟨ry, ⟨a', c', rfl, h1', h2', -, h3'⟩, hin', hrt'⟩ := hy
  unfold maxLen at h2 h2'
  rw [RdE.len hin] at h1 ⊢
  rw [RdE.len hin'] at h1' ⊢
  have HIN := Lib.hid hin
  have HIN' := Lib.hid hin'
  have HRT := Lib.hid hrt
  have HRT' := Lib.hid hrt'
  have H3 := Lib.hid h3
  have H3' := Lib.hid h3'
  clear h3 h3' hin hin' hrt hrt'
  by_cases hn : xs.length = ys.length
  · obtain ⟨n, hn1⟩ : ∃ n, n = xs.length := ⟨_, rfl⟩
    have hn2 : ys.length = n := by omega
    rw [← hn1, hn2]
    have HN1 := Lib.hid hn1
    have HN2 := Lib.hid hn2
    have hnc : n ≤ c := by omega
    have hnc' : n ≤ c' := by omega
    clear hn hn1 hn2 h1 h1'
    go_enter Tryz.func54, Tryz.ntmps54
    go_wp2
    go_loopw [5] (fun i wr => ∃ k : Nat, k ≤ n ∧ i = .int .i64 k ∧ Below w.heap.size w wr ∧ Hid (xs.take k = ys.take k)) (fun i _ => n - (intOf i).toNat)
    case atStart => exact ⟨0, Nat.zero_le _, rfl, Below.refl _ _, rfl⟩
    case round =>
      obtain ⟨k, hk, rfl, hb, heq⟩ := hrel
      by_cases hlt : k < n
      · obtain ⟨m, hm⟩ : ∃ m, xs[k]? = some m := ⟨_, List.getElem?_eq_getElem (by have := HN1.out; omega)⟩
        obtain ⟨p, hp⟩ : ∃ m, ys[k]? = some m := ⟨_, List.getElem?_eq_getElem (by have := HN2.out; omega)⟩
        obtain ⟨s, hrow, hrd⟩ := getE HIN.out HRT.out hm
        obtain ⟨t, hrow', hrd'⟩ := getE HIN'.out HRT'.out hp
        obtain ⟨b, o, rfl, hbl, hc⟩ := H3.out k _ hrow
        obtain ⟨b', o', rfl, hbl', hc'⟩ := H3'.out k _ hrow'
        have hk0 : (0 : Int) ≤ (k : Int) := by omega
        have hkn : (k : Int) < (n : Int) := by omega
        have c0 := (hb.cell (p := ⟨b, o + k * 2 + 0, none⟩) hbl).trans (hc 0 _ rfl)
        have c1 := (hb.cell (p := ⟨b, o + k * 2 + 1, none⟩) hbl).trans (hc 1 _ rfl)
        have d0 := (hb.cell (p := ⟨b', o' + k * 2 + 0, none⟩) hbl').trans (hc' 0 _ rfl)
        have d1 := (hb.cell (p := ⟨b', o' + k * 2 + 1, none⟩) hbl').trans (hc' 1 _ rfl)
        simp only [Nat.add_zero] at c0 d0
        have HM := Lib.hid hm
        have HP := Lib.hid hp
        have HRD := Lib.hid ((hrd.below hb).below (bref wr).drew)
        have HRD' := Lib.hid ((hrd'.below hb).below (bref wr).drew)
        clear hc hc' hm hp hrow hrow' hrd hrd'
        by_cases hmp : m = p
        all_goals
          have HE := Lib.hid hmp
          first | have he := Lib.hid (decide_eq_false hmp) | have he := Lib.hid (decide_eq_true hmp)
          clear hmp
          go_wp2
          go_still_tail 8, (by kernel_rfl)
          change wpList _ _ _ _ _ wr.drew
          go_wp2_with (go_at_call 116; refine (eqEnv_c m p s t _ HRD.out HRD'.out).mono ?_; rintro e w' ⟨rfl, hb2⟩; rw [he.out]; have hb3 := hb.drew.trans (hb2.mono hb.size))
        · go_roundw
          case rel => exact ⟨k + 1, by omega, by go_num, hb3, take_eq_succ HM.out HP.out heq HE.out⟩
          case measure => simp [intOf]; omega
        · go_ret
          exact ⟨ret_bool (by rw [eq_comm, decide_eq_false_iff_not]; exact ne_of_get HM.out HP.out HE.out), hb3⟩
      · go_wp2
        go_ret
        refine ⟨ret_bool ?_, hb⟩
        have h1 := HN1.out
        have h2 := HN2.out
        have h3 : k = n := by omega
        have h4 := heq.out
        rw [List.take_of_length_le (by omega), List.take_of_length_le (by omega)] at h4
        simp [h4]
  · go_enter Tryz.func54, Tryz.ntmps54
    go_wp2
    go_ret
    exact ⟨ret_bool (by rw [eq_comm, decide_eq_false_iff_not]; rintro rfl; exact hn rfl), Below.refl _ _⟩
end Go.Proofs.YtojknkpjnchchaaGreatDoor
namespace Go.Proofs.YtojknkpjnchchaaGreatDoor
open Go.ChangeShapes Go.WideShapes Go.RowKit
set_option linter.all false
set_option maxRecDepth 100000
attribute [local go_sem ↓] Go.wp_at_zero Go.wp_at_succ

section
variable {w0 w w' : World} {row : Option Nat} {rs : List Res}

/-- A row of owned rows is changed in its place. -/
theorem Bun.modRow {α : Type} {enc : α → List Value} {K : Nat} {e : TypeId} {ss : List Sl} {xss : List (List α)} {k : Nat} {s : Sl} {xs : List α} (h : Bun w0 row w (Res.rows enc K e ss xss :: rs)) (hk : ss[k]? = some s) (hs : OwT enc K e 0 w' (slv s) xs)
    (h1 : ∀ g, (slv s).ownBlock = some g → w.grownBy w' (some g)) (h2 : (slv s).ownBlock = none → w = w') : Bun w0 row w' (Res.rows enc K e ss (xss.set k xs) :: rs) := by
  have hin : InO enc K e 0 w.heap.size w ss xss := h.get 0 rfl
  have hm := hin.mod hk hs h1 h2
  have hc : Chs (Res.rows enc K e ss xss).own w w' := by
    cases hv : (slv s).ownBlock with
    | none => rw [← h2 hv]; exact Chs.of_below (bref w)
    | some g => exact Chs.of_grown (h1 g hv) (fun q hq => ⟨s, List.mem_of_getElem? hk, by simp at hq; subst hq; exact hv⟩)
  exact h.mod hc (Res.rows enc K e ss (xss.set k xs)) (hm.mono (Nat.le_refl _) hc.size) (fun _ h => .inl h) (fun _ h => .inl h)

set_option maxHeartbeats 1000000 in
theorem markIntSS_b (xss : List (List Int)) (v : Value) (ss : List Sl) (q : Int) (H : Bun w0 row w (Res.row encL 1 41 v ss :: Res.rows encI 1 3 ss xss :: rs)) (hq : 0 ≤ q ∧ q ≤ 40000000) (hl : (xss.length : Int) + sumLen xss ≤ 2000000) :
    Calls Tryz.prog 62 #[v, .int .i64 q] w fun e w' => e = .returned (.int .i64 (q + sumLen xss)) ∧ Bun w0 row w' (Res.row encL 1 41 v ss :: Res.rows encI 1 3 ss (marksII q xss) :: rs) := by
  have hml := marksII_len xss q
  have hrl := (show InO encI 1 3 0 w.heap.size w ss xss from H.get 1 rfl).len
  have HML := Lib.hid hml
  have HRL := Lib.hid hrl
  obtain ⟨a, c, rfl, h1, h2, -, -⟩ := H.rd 0 rfl encL_len
  unfold maxLen at h2
  obtain ⟨n, hn⟩ : ∃ n, n = ss.length := ⟨_, rfl⟩
  rw [← hn] at h1 H ⊢
  have HN := Lib.hid hn
  have HL := Lib.hid hl
  have H0 : Bun w0 row w (Res.row encL 1 41 (.slice a n c) ss :: Res.rows encI 1 3 ss (markedBy (marksII q xss) xss 0) :: rs) := by rw [markedBy_zero]; exact H
  clear hn hml hrl hl H
  go_enter Tryz.func62, Tryz.ntmps62
  go_wp2
  go_loopw [1, 5] (fun t i wr => ∃ k : Nat, k ≤ n ∧ i = .int .i64 k ∧ t = .int .i64 (q + sumLen (xss.take k)) ∧ Bun w0 row wr (Res.row encL 1 41 (.slice a n c) ss :: Res.rows encI 1 3 ss (markedBy (marksII q xss) xss k) :: rs)) (fun _ i _ => n - (intOf i).toNat)
  case atStart => exact ⟨0, Nat.zero_le _, rfl, by simp [sumLen], H0⟩
  case round =>
    obtain ⟨k, hk, rfl, rfl, hb⟩ := hrel
    have HB := Lib.hid hb
    clear hb
    by_cases hlt : k < n
    · obtain ⟨xs, hxs⟩ : ∃ xs, xss[k]? = some xs := ⟨_, List.getElem?_eq_getElem (by have := HN.out; have := HRL.out; omega)⟩
      have hold : (markedBy (marksII q xss) xss k)[k]? = some xs := by
        unfold markedBy
        have hlen : ((marksII q xss).take k).length = k := by
          have h1 := HML.out
          have h2 := HN.out
          have h3 := HRL.out
          simp; omega
        rw [List.getElem?_append_right (by omega), hlen, Nat.sub_self, List.getElem?_drop]
        simpa using hxs
      obtain ⟨s, hrow, hos⟩ := (show InO encI 1 3 0 wr.heap.size wr ss (markedBy (marksII q xss) xss k) from HB.out.get 1 rfl).get hold
      obtain ⟨a2, c2, hv2, h12, h22, -, h3⟩ := HB.out.rd 0 rfl encL_len
      simp only [Value.slice.injEq] at hv2
      obtain ⟨rfl, -, rfl⟩ := hv2
      obtain ⟨b, o, rfl, hbl, hcc⟩ := h3 k s hrow
      have c0 := hcc 0 _ rfl
      simp only [Nat.add_zero, Nat.mul_one] at c0
      have hsl := sum_take_le xss k
      have hll := len_le_sum hxs
      have HST := Lib.hid (sum_take hxs)
      have HG := Lib.hid (marksII_get xss q k xs hxs)
      have HBB := Lib.hid (show (0 ≤ q + (sumLen (xss.take k) : Int) ∧ q + (sumLen (xss.take k) : Int) ≤ 50000000) ∧ xs.length ≤ 2000000 by have := HL.out; omega)
      have HOS := Lib.hid hos
      have HROW := Lib.hid hrow
      clear hcc h3 hxs hold hrow hos hsl hll
      go_wp2_with fail
      refine (markIntS_c xs (slv s) _ 0 _ HOS.out.1 (by have := HBB.out.1; omega) HBB.out.2).mono ?_
      rintro e w2 ⟨rfl, ho1, hg1, hn1⟩
      have hm := (HB.out.front 1 rfl).modRow HROW.out ho1 hg1 hn1
      rw [markedBy_step _ _ _ _ HML.out HG.out] at hm
      have HM := Lib.hid (hm.front 1 rfl)
      clear hm ho1 hg1 hn1 HB
      go_wp2
      go_roundw
      case rel => exact ⟨k + 1, by omega, by go_num, by have := HST.out; first | (congr 1; omega) | (simp; omega), HM.out⟩
      case measure => simp [intOf]; omega
    · go_wp2
      go_ret
      have h3 : k = xss.length := by have := HN.out; have := HRL.out; omega
      subst h3
      rw [sum_all (Nat.le_refl _)]
      have hbb := HB.out
      rw [markedBy_all _ _ HML.out] at hbb
      exact ⟨rfl, hbb⟩

end
end Go.Proofs.YtojknkpjnchchaaGreatDoor
namespace Go.Proofs.YtojknkpjnchchaaGreatDoor
open Go.ChangeShapes Go.WideShapes Go.RowKit
set_option linter.all false
set_option maxRecDepth 100000
attribute [local go_sem ↓] Go.wp_at_zero Go.wp_at_succ

set_option maxHeartbeats 2000000 in
theorem markCachedS_c (xs : List Cac) (v : Value) (q : Int) (base : Nat) (w : World) (hx : OwC base w v xs) (hq : 0 ≤ q ∧ q ≤ 50000000) (hl : xs.length ≤ 2000000) : Calls Tryz.prog 65 #[v, .int .i64 q] w fun e w' =>
    e = .returned (.int .i64 (q + 4 * xs.length)) ∧ OwC base w' v (marksC q xs.length) ∧ (∀ g, v.ownBlock = some g → w.grownBy w' (some g)) ∧ (v.ownBlock = none → w = w') := by
  rcases hx.2 with ⟨rfl, hn⟩ | ⟨g, c, cur, rfl, -⟩
  · have : xs = [] := List.eq_nil_of_length_eq_zero hn
    subst this
    go_enter Tryz.func65, Tryz.ntmps65
    go_wp2
    refine wp_loop_rounds 1 ?_
    rw [rounds_succ]
    go_wp2
    go_ret
    exact ⟨by simp, World.ownsRow_nil _ _ _ _, by simp [Value.ownBlock], fun _ => rfl⟩
  have hml := marksC_len q xs.length
  have HML := Lib.hid hml
  have hx0 : OwC base w (.slice (some ⟨g, 0, none⟩) xs.length c) (markedBy (marksC q xs.length) xs 0) := by rw [markedBy_zero]; exact hx
  clear hx hml
  go_enter Tryz.func65, Tryz.ntmps65
  go_wp2
  go_loopw [1, 5] (fun t i wr => ∃ k : Nat, k ≤ xs.length ∧ i = .int .i64 k ∧ t = .int .i64 (q + 4 * k) ∧ w.grownBy wr (some g) ∧ OwC base wr (.slice (some ⟨g, 0, none⟩) xs.length c) (markedBy (marksC q xs.length) xs k)) (fun _ i _ => xs.length - (intOf i).toNat)
  case atStart => exact ⟨0, Nat.zero_le _, rfl, by simp, World.grownBy.refl _ _, hx0⟩
  case round =>
    obtain ⟨k, hk, rfl, rfl, hg, hok⟩ := hrel
    by_cases hlt : k < xs.length
    · have HG := Lib.hid hg
      obtain ⟨e0, e1, e2, e3, e4, hfz, hcs⟩ := hok.open Cac.enc_len
      obtain ⟨z, hz⟩ : ∃ z, (markedBy (marksC q xs.length) xs k)[k]? = some z := ⟨_, List.getElem?_eq_getElem (by omega)⟩
      have d0 := hcs k z 0 _ hz rfl
      have d1 := hcs k z 1 _ hz rfl
      have d2 := hcs k z 2 _ hz rfl
      have d3 := hcs k z 3 _ hz rfl
      have f0 := hfz (k * 4)
      have f1 := hfz (k * 4 + 1)
      have f2 := hfz (k * 4 + 2)
      have f3 := hfz (k * 4 + 3)
      have hok1 := store4 (k := k) hok (m := markC q k) (by omega)
      rw [markedBy_step _ _ _ _ HML.out (marksC_get q _ k hlt)] at hok1
      simp only [Nat.add_zero] at d0
      unfold markC at hok1
      dsimp only at hok1
      have HOK1 := Lib.hid hok1
      have hq0 : 0 ≤ q + 4 * (k : Int) := by omega
      unfold maxLen at e4
      clear hz hcs hfz hok hg hok1 e0
      go_wp2
      go_roundw
      case rel => exact ⟨k + 1, by omega, by go_num, by go_num, grown_set (grown_set (grown_set (grown_set HG.out _ _) _ _) _ _) _ _, HOK1.out⟩
      case measure => simp [intOf]; omega
    · go_wp2
      go_ret
      have h3 : k = xs.length := by omega
      refine ⟨ret_int (by omega), ?_, ?_, ?_⟩
      · have hl := HML.out
        rw [h3, markedBy_all _ _ hl] at hok
        unfold OwC OwT at hok ⊢
        rw [hl] at hok ⊢
        exact hok
      · intro g' hg'
        simp [Value.ownBlock] at hg'
        subst hg'
        exact hg
      · simp [Value.ownBlock]

end Go.Proofs.YtojknkpjnchchaaGreatDoor
namespace Go.Proofs.YtojknkpjnchchaaGreatDoor
open Go.ChangeShapes Go.WideShapes Go.RowKit
set_option linter.all false
set_option maxRecDepth 100000
attribute [local go_sem ↓] Go.wp_at_zero Go.wp_at_succ

/-- The rows of environments: where their rights lie, and their numbers. -/
def mkEs (sls : List Sl) (envs : List Env) : List Es := List.zipWith (fun s x => (s, x.rt)) sls envs
abbrev rowE (v : Value) (sls : List Sl) (envs : List Env) : Res := Res.row encE 2 55 v (mkEs sls envs)
abbrev rowR (sls : List Sl) (envs : List Env) : Res := Res.rows encS 1 9 sls (envs.map (·.rg))
theorem mkEs_len {sls : List Sl} {envs : List Env} (h : sls.length = envs.length) : (mkEs sls envs).length = envs.length := by simp [mkEs, h]
theorem mkEs_get {sls : List Sl} {envs : List Env} {k : Nat} {s : Sl} {x : Env} (h1 : sls[k]? = some s) (h2 : envs[k]? = some x) : (mkEs sls envs)[k]? = some (s, x.rt) := by
  simp [mkEs, List.getElem?_zipWith, h1, h2]
theorem mkEs_set {sls : List Sl} {envs : List Env} {k : Nat} {s : Sl} (h1 : sls[k]? = some s) (x : Env) : (mkEs sls envs).set k (s, x.rt) = mkEs sls (envs.set k x) := by
  apply List.ext_getElem?
  intro i
  unfold mkEs
  rw [List.getElem?_set, List.getElem?_zipWith, List.getElem?_zipWith, List.getElem?_set, List.length_zipWith]
  by_cases hi : k = i
  · subst hi
    rw [if_pos rfl, if_pos rfl, h1]
    have := (List.getElem?_eq_some_iff.1 h1).1
    by_cases hl : k < envs.length
    · rw [if_pos (by omega), if_pos hl]
    · rw [if_neg (by omega), if_neg hl]
  · rw [if_neg hi, if_neg hi]
theorem mkEs_fst {sls : List Sl} {envs : List Env} (h : sls.length = envs.length) : (mkEs sls envs).map (·.1) = sls := by
  apply List.ext_getElem?
  intro i
  unfold mkEs
  rw [List.getElem?_map, List.getElem?_zipWith]
  cases h1 : sls[i]? with
  | none => rfl
  | some s =>
    have := (List.getElem?_eq_some_iff.1 h1).1
    obtain ⟨x, hx⟩ : ∃ x, envs[i]? = some x := ⟨_, List.getElem?_eq_getElem (by omega)⟩
    rw [hx]; rfl
theorem mkEs_snd {sls : List Sl} {envs : List Env} (h : sls.length = envs.length) : (mkEs sls envs).map (·.2) = envs.map (·.rt) := by
  apply List.ext_getElem?
  intro i
  unfold mkEs
  rw [List.getElem?_map, List.getElem?_zipWith, List.getElem?_map]
  cases h1 : envs[i]? with
  | none => cases sls[i]? <;> rfl
  | some s =>
    have := (List.getElem?_eq_some_iff.1 h1).1
    obtain ⟨x, hx⟩ : ∃ x, sls[i]? = some x := ⟨_, List.getElem?_eq_getElem (by omega)⟩
    rw [hx]; rfl

/-- The marks of environments. -/
def envW (x : Env) : Nat := x.rg.length + 1
def marksE : Int → List Env → List Env
  | _, [] => []
  | q, x :: t => ⟨marksS q x.rg.length, q + x.rg.length⟩ :: marksE (q + x.rg.length + 1) t
theorem marksE_len : ∀ (xs : List Env) (q : Int), (marksE q xs).length = xs.length := by
  intro xs
  induction xs with
  | nil => intro q; rfl
  | cons x t ih => intro q; simp [marksE, ih]
theorem marksE_get : ∀ (xs : List Env) (q : Int) (k : Nat) (x : Env), xs[k]? = some x → (marksE q xs)[k]? = some ⟨marksS (q + sumBy envW (xs.take k)) x.rg.length, q + sumBy envW (xs.take k) + x.rg.length⟩ := by
  intro xs
  induction xs with
  | nil => intro q k x h; simp at h
  | cons y t ih =>
    intro q k x h
    cases k with
    | zero => simp at h; subst h; simp [marksE, sumBy]
    | succ k =>
      simp at h
      have := ih (q + y.rg.length + 1) k x h
      have e : q + y.rg.length + 1 + (sumBy envW (t.take k) : Int) = q + (sumBy envW ((y :: t).take (k + 1)) : Int) := by
        simp only [List.take_succ_cons, sumBy, List.map_cons, List.sum_cons, envW]
        push_cast
        omega
      simp only [marksE, List.getElem?_cons_succ, this, e]

section
variable {w0 w w' : World} {row : Option Nat} {rs : List Res}
theorem Bun.rdE {v : Value} {sls : List Sl} {envs : List Env} (h : Bun w0 row w rs) (i j : Nat) (hi : rs[i]? = some (rowE v sls envs)) (hj : rs[j]? = some (rowR sls envs)) : RdE w v envs := by
  have hin : InO encS 1 9 0 w.heap.size w sls (envs.map (·.rg)) := h.get j hj
  have hl : sls.length = envs.length := by simpa using hin.len
  exact ⟨mkEs sls envs, h.rd i hi encE_len, by rw [mkEs_fst hl]; exact hin.rd encS_len, mkEs_snd hl⟩

set_option maxHeartbeats 2000000 in
theorem markEnvS_b (envs : List Env) (v : Value) (sls : List Sl) (q : Int) (H : Bun w0 row w (rowE v sls envs :: rowR sls envs :: rs)) (hq : 1 ≤ q ∧ q ≤ 40000000) (hl : (sumBy envW envs : Int) ≤ 2000000) :
    Calls Tryz.prog 64 #[v, .int .i64 q] w fun e w' => e = .returned (.int .i64 (q + sumBy envW envs)) ∧ Bun w0 row w' (rowE v sls (marksE q envs) :: rowR sls (marksE q envs) :: rs) := by
  have hml := marksE_len envs q
  have hrl : sls.length = envs.length := by simpa using (show InO encS 1 9 0 w.heap.size w sls (envs.map (·.rg)) from H.get 1 rfl).len
  have HML := Lib.hid hml
  have HRL := Lib.hid hrl
  obtain ⟨a, c, rfl, h1, h2, -, -⟩ := H.rd 0 rfl encE_len
  unfold maxLen at h2
  have hn2 := mkEs_len hrl
  obtain ⟨n, hn⟩ : ∃ n, n = (mkEs sls envs).length := ⟨_, rfl⟩
  rw [← hn] at h1 H ⊢
  have HN := Lib.hid (hn.trans hn2)
  have HL := Lib.hid hl
  have H0 : Bun w0 row w (rowE (.slice a n c) sls (markedBy (marksE q envs) envs 0) :: rowR sls (markedBy (marksE q envs) envs 0) :: rs) := by rw [markedBy_zero]; exact H
  clear hn hn2 hml hrl hl H
  go_enter Tryz.func64, Tryz.ntmps64
  go_wp2
  go_loopw [1, 5] (fun t i wr => ∃ k : Nat, k ≤ n ∧ i = .int .i64 k ∧ t = .int .i64 (q + sumBy envW (envs.take k)) ∧ Bun w0 row wr (rowE (.slice a n c) sls (markedBy (marksE q envs) envs k) :: rowR sls (markedBy (marksE q envs) envs k) :: rs)) (fun _ i _ => n - (intOf i).toNat)
  case atStart => exact ⟨0, Nat.zero_le _, rfl, by simp [sumBy], H0⟩
  case round =>
    obtain ⟨k, hk, rfl, rfl, hb⟩ := hrel
    have HB := Lib.hid hb
    clear hb
    by_cases hlt : k < n
    · obtain ⟨x, hx⟩ : ∃ x, envs[k]? = some x := ⟨_, List.getElem?_eq_getElem (by have := HN.out; omega)⟩
      have hold : (markedBy (marksE q envs) envs k)[k]? = some x := by
        unfold markedBy
        have hlen : ((marksE q envs).take k).length = k := by
          have h1 := HML.out
          have h2 := HN.out
          simp; omega
        rw [List.getElem?_append_right (by omega), hlen, Nat.sub_self, List.getElem?_drop]
        simpa using hx
      obtain ⟨s, hrow, hos⟩ := (show InO encS 1 9 0 wr.heap.size wr sls ((markedBy (marksE q envs) envs k).map (·.rg)) from HB.out.get 1 rfl).get (show ((markedBy (marksE q envs) envs k).map (·.rg))[k]? = some x.rg by rw [List.getElem?_map, hold]; rfl)
      obtain ⟨a2, c2, hv2, -, -, -, -, -, h3⟩ := HB.out.at 0 rfl encE_len (mkEs_get hrow hold)
      simp only [Value.slice.injEq] at hv2
      obtain ⟨rfl, -, rfl⟩ := hv2
      have c0 := h3 0 _ rfl
      simp only [Nat.add_zero] at c0
      have hsl := sumBy_take_le envW envs k
      have hll := le_sumBy envW hx
      have hwx : envW x = x.rg.length + 1 := rfl
      have HST := Lib.hid (sumBy_take envW hx)
      have HWX := Lib.hid hwx
      have HG := Lib.hid (marksE_get envs q k x hx)
      have HBB := Lib.hid (show (1 ≤ q + (sumBy envW (envs.take k) : Int) ∧ q + (sumBy envW (envs.take k) : Int) ≤ 50000000) ∧ x.rg.length ≤ 2000000 by have := HL.out; omega)
      have HOS := Lib.hid hos
      have HROW := Lib.hid hrow
      have HOLD := Lib.hid hold
      clear h3 hx hold hrow hos hsl hll hwx
      go_wp2_with fail
      refine (markStringS_c x.rg (slv s) _ 0 _ HOS.out.1 (by have := HBB.out.1; omega) HBB.out.2).mono ?_
      rintro e w2 ⟨rfl, ho1, hg1, hn1⟩
      have hm := ((HB.out.front 1 rfl).modRow HROW.out ho1 hg1 hn1).front 1 rfl
      obtain ⟨g, c3, hv3, -, -, -, -, hfz, h4⟩ := hm.at 0 rfl encE_len (mkEs_get HROW.out HOLD.out)
      simp only [Value.slice.injEq, Option.some.injEq, Addr.mk.injEq, and_true] at hv3
      obtain ⟨rfl, -, rfl⟩ := hv3
      have d1 := h4 1 _ rfl
      have f1 := hfz (k * 2 + 1)
      have hm2 := hm.store (j := 1) (x' := (s, q + sumBy envW (envs.take k) + x.rg.length)) (u := .int .i64 (q + sumBy envW (envs.take k) + x.rg.length)) encE_len (mkEs_get HROW.out HOLD.out) (by omega) rfl
      have e1 := mkEs_set (envs := markedBy (marksE q envs) envs k) HROW.out ⟨marksS (q + sumBy envW (envs.take k)) x.rg.length, q + sumBy envW (envs.take k) + x.rg.length⟩
      dsimp only at e1
      have e2 : ((markedBy (marksE q envs) envs k).map (·.rg)).set k (marksS (q + sumBy envW (envs.take k)) x.rg.length) = ((markedBy (marksE q envs) envs k).set k ⟨marksS (q + sumBy envW (envs.take k)) x.rg.length, q + sumBy envW (envs.take k) + x.rg.length⟩).map (·.rg) := by rw [List.map_set]
      rw [e1, e2, markedBy_step _ _ _ _ HML.out HG.out] at hm2
      have HM := Lib.hid hm2
      have hp : (0 : Int) ≤ q + (sumBy envW (envs.take k) : Int) + x.rg.length := by have := HBB.out; omega
      have hp1 : q + (sumBy envW (envs.take k) : Int) + x.rg.length ≤ 60000000 := by have := HBB.out; omega
      clear hm hm2 e1 e2 hfz h4 ho1 hg1 hn1 HB
      go_wp2
      go_roundw
      case rel => exact ⟨k + 1, by omega, by go_num, by have := HST.out; have := HWX.out; first | (congr 1; omega) | (simp; omega), HM.out⟩
      case measure => simp [intOf]; omega
    · go_wp2
      go_ret
      have h3 : k = envs.length := by have := HN.out; omega
      subst h3
      rw [sumBy_all envW (Nat.le_refl _)]
      have hbb := HB.out
      rw [markedBy_all _ _ HML.out] at hbb
      exact ⟨rfl, hbb⟩
end

end Go.Proofs.YtojknkpjnchchaaGreatDoor
namespace Go.Proofs.YtojknkpjnchchaaGreatDoor
open Go.ChangeShapes Go.WideShapes Go.RowKit
set_option linter.all false
set_option maxRecDepth 100000
attribute [local go_sem ↓] Go.wp_at_zero Go.wp_at_succ

structure Kern where
  me : List (List Int)
  inf : List Info
  env : List Env
  ca : List Cac
deriving DecidableEq

/-- A kernel that can be read. -/
def RdK (w : World) (v : Value) (k : Kern) : Prop :=
  ∃ a b c d, v = .agg #[a, b, c, d] ∧ RdII w a k.me ∧ RdF w b k.inf ∧ RdE w c k.env ∧ RdC w d k.ca
theorem RdK.below {w w' : World} {v : Value} {k : Kern} (h : RdK w v k) (hb : Below w.heap.size w w') : RdK w' v k := by
  obtain ⟨a, b, c, d, rfl, h1, h2, h3, h4⟩ := h
  exact ⟨a, b, c, d, rfl, h1.below hb, h2.below hb, h3.below hb, h4.below hb⟩
/-- What a kernel's slices are, as facts on blocks. -/
abbrev KR (a b c d : Value) (ss sls : List Sl) (k : Kern) (rs : List Res) : List Res :=
  Res.row encL 1 41 a ss :: Res.rows encI 1 3 ss k.me :: Res.row Info.enc 3 73 b k.inf :: rowE c sls k.env :: rowR sls k.env :: Res.row Cac.enc 4 78 d k.ca :: rs

theorem blk4 {w : World} {g : Nat} {x y z u : Value} {e : TypeId} (h : w.heap[g]? = some (.cells #[x, y, z, u] e (0, 0))) :
    w.cell? ⟨g, 0, none⟩ = some x ∧ w.cell? ⟨g, 1, none⟩ = some y ∧ w.cell? ⟨g, 2, none⟩ = some z ∧ w.cell? ⟨g, 3, none⟩ = some u ∧ w.frozen? ⟨g, 0, none⟩ = false ∧ w.frozen? ⟨g, 1, none⟩ = false ∧ w.frozen? ⟨g, 2, none⟩ = false ∧ w.frozen? ⟨g, 3, none⟩ = false ∧ g < w.heap.size :=
  ⟨by rw [cell_of_row w g 0 _ e (0, 0) h]; rfl, by rw [cell_of_row w g 1 _ e (0, 0) h]; rfl, by rw [cell_of_row w g 2 _ e (0, 0) h]; rfl, by rw [cell_of_row w g 3 _ e (0, 0) h]; rfl, frozen_of_row w g 0 _ e h, frozen_of_row w g 1 _ e h, frozen_of_row w g 2 _ e h, frozen_of_row w g 3 _ e h, (Array.getElem?_eq_some_iff.1 h).1⟩

theorem eqKernel_c (k : Kern) (v u : Value) (w : World) (hx : RdK w v k) (hy : RdK w u k) : Calls Tryz.prog 11 #[v, u] w fun e w' => e = .returned (.bool true) ∧ Below w.heap.size w w' := by
  obtain ⟨a, b, c, d, rfl, x1, x2, x3, x4⟩ := hx
  obtain ⟨a', b', c', d', rfl, y1, y2, y3, y4⟩ := hy
  have hB := (((Bun.refl w none).alloc (.cells #[a, b, c, d] 34)).blkAt (.cells #[a', b', c', d'] 34) (w.heap.size + 1) (by simp))
  have HB := Lib.hid hB
  have X1 := Lib.hid (x1.below hB.below)
  have X2 := Lib.hid (x2.below hB.below)
  have X3 := Lib.hid (x3.below hB.below)
  have X4 := Lib.hid (x4.below hB.below)
  have Y1 := Lib.hid (y1.below hB.below)
  have Y2 := Lib.hid (y2.below hB.below)
  have Y3 := Lib.hid (y3.below hB.below)
  have Y4 := Lib.hid (y4.below hB.below)
  clear hB x1 x2 x3 x4 y1 y2 y3 y4
  go_enter Tryz.func11, Tryz.ntmps11
  go_wp2_with fail
  refine (eqIntSS_c k.me k.me a a' _ X1.out Y1.out).mono ?_
  rintro e w1 ⟨rfl, hb1⟩
  rw [decide_eq_true (rfl : k.me = k.me)]
  have hB1 := HB.out.call hb1
  obtain ⟨-, c1, -, -, -⟩ := blk4 (hB1.get 1 rfl)
  obtain ⟨-, d1, -, -, -⟩ := blk4 (hB1.get 0 rfl)
  have HB1 := Lib.hid hB1
  have HB1' := Lib.hid hb1
  clear hb1 hB1 HB X1 Y1
  go_wp2_with fail
  refine (eqInfoS_c k.inf k.inf b b' _ (X2.out.below HB1'.out) (Y2.out.below HB1'.out)).mono ?_
  rintro e w2 ⟨rfl, hb2⟩
  rw [decide_eq_true (rfl : k.inf = k.inf)]
  have hB2 := HB1.out.call hb2
  obtain ⟨-, -, c2, -, -⟩ := blk4 (hB2.get 1 rfl)
  obtain ⟨-, -, d2, -, -⟩ := blk4 (hB2.get 0 rfl)
  have HB2 := Lib.hid hB2
  have HB2' := Lib.hid (bnext HB1'.out hb2)
  clear hb2 hB2 HB1 HB1' X2 Y2 c1 d1
  go_wp2_with fail
  refine (eqEnvS_c k.env k.env c c' _ (X3.out.below HB2'.out) (Y3.out.below HB2'.out)).mono ?_
  rintro e w3 ⟨rfl, hb3⟩
  rw [decide_eq_true (rfl : k.env = k.env)]
  have hB3 := HB2.out.call hb3
  obtain ⟨-, -, -, c3, -⟩ := blk4 (hB3.get 1 rfl)
  obtain ⟨-, -, -, d3, -⟩ := blk4 (hB3.get 0 rfl)
  have HB3 := Lib.hid hB3
  have HB3' := Lib.hid (bnext HB2'.out hb3)
  clear hb3 hB3 HB2 HB2' X3 Y3 c2 d2
  go_wp2_with fail
  refine (eqCachedS_c k.ca k.ca d d' _ (X4.out.below HB3'.out) (Y4.out.below HB3'.out)).mono ?_
  rintro e w4 ⟨rfl, hb4⟩
  rw [decide_eq_true (rfl : k.ca = k.ca)]
  have HB4 := Lib.hid (HB3.out.call hb4)
  clear hb4 HB3 HB3' X4 Y4 c3 d3
  go_wp2
  go_ret
  exact ⟨rfl, HB4.out.below⟩

/-- The marks of a kernel, and how many there are. -/
def marksK (q : Int) (k : Kern) : Kern :=
  ⟨marksII q k.me, marksF (q + sumLen k.me) k.inf.length, marksE (q + sumLen k.me + 3 * k.inf.length) k.env, marksC (q + sumLen k.me + 3 * k.inf.length + sumBy envW k.env) k.ca.length⟩
/-- A kernel is not too large. -/
def fitK (k : Kern) : Prop := (k.me.length : Int) + sumLen k.me ≤ 2000000 ∧ k.inf.length ≤ 2000000 ∧ (sumBy envW k.env : Int) ≤ 2000000 ∧ k.ca.length ≤ 2000000

section
variable {w0 w : World} {row : Option Nat} {rs : List Res}
theorem Bun.rdK {a b c d : Value} {ss sls : List Sl} {k : Kern} (h : Bun w0 row w (KR a b c d ss sls k rs)) : RdK w (.agg #[a, b, c, d]) k :=
  ⟨a, b, c, d, rfl, h.rdN 0 1 rfl rfl encI_len, h.rd 2 rfl Info.enc_len, h.rdE 3 4 rfl rfl, h.rd 5 rfl Cac.enc_len⟩

theorem markKernel_b (k : Kern) (a b c d : Value) (ss sls : List Sl) (q : Int) (H : Bun w0 row w (KR a b c d ss sls k rs)) (hq : 1 ≤ q ∧ q ≤ 10000000) (hl : fitK k) :
    Calls Tryz.prog 17 #[.agg #[a, b, c, d], .int .i64 q] w fun e w' => e = .returned (.int .i64 (q + sumLen k.me + 3 * k.inf.length + sumBy envW k.env + 4 * k.ca.length)) ∧ Bun w0 row w' (KR a b c d ss sls (marksK q k) rs) := by
  obtain ⟨l1, l2, l3, l4⟩ := hl
  have HB := Lib.hid (((H.alloc (.cells #[a, b, c, d] 34)).front 2 rfl).front 2 rfl)
  have L1 := Lib.hid l1
  have L2 := Lib.hid l2
  have L3 := Lib.hid l3
  have L4 := Lib.hid l4
  have B1 := Lib.hid (show 0 ≤ (sumLen k.me : Int) ∧ (sumLen k.me : Int) ≤ 2000000 by omega)
  have B2 := Lib.hid (show 0 ≤ (sumBy envW k.env : Int) ∧ (sumBy envW k.env : Int) ≤ 2000000 by omega)
  clear H l1 l2 l3 l4
  go_enter Tryz.func17, Tryz.ntmps17
  go_wp2_with fail
  refine (markIntSS_b k.me a ss q HB.out (by omega) L1.out).mono ?_
  rintro e w1 ⟨rfl, hb⟩
  obtain ⟨-, c1, -, -, -⟩ := blk4 (hb.get 2 rfl)
  have HB1 := Lib.hid (hb.front 3 rfl)
  clear hb HB
  go_wp2_with fail
  refine (markInfoS_c k.inf b (q + sumLen k.me) 0 _ (HB1.out.get 0 rfl) (by have := B1.out; omega) L2.out).mono ?_
  rintro e w2 ⟨rfl, ho, hg, hn⟩
  have hb := HB1.out.marked ho hg hn
  obtain ⟨-, -, c2, -, -⟩ := blk4 (hb.get 3 rfl)
  have HB2 := Lib.hid ((hb.front 5 rfl).front 5 rfl)
  clear hb HB1 ho hg hn c1
  go_wp2_with fail
  refine (markEnvS_b k.env c sls (q + sumLen k.me + 3 * k.inf.length) HB2.out (by have := B1.out; have := L2.out; omega) L3.out).mono ?_
  rintro e w3 ⟨rfl, hb⟩
  obtain ⟨-, -, -, c3, -⟩ := blk4 (hb.get 5 rfl)
  have HB3 := Lib.hid (hb.front 6 rfl)
  clear hb HB2 c2
  go_wp2_with fail
  refine (markCachedS_c k.ca d (q + sumLen k.me + 3 * k.inf.length + sumBy envW k.env) 0 _ (HB3.out.get 0 rfl) (by have := B1.out; have := B2.out; have := L2.out; omega) L4.out).mono ?_
  rintro e w4 ⟨rfl, ho, hg, hn⟩
  have HB4 := Lib.hid ((((((HB3.out.marked ho hg hn).rm 6).front 2 rfl).front 2 rfl).front 3 rfl).front 5 rfl)
  clear ho hg hn HB3 c3
  go_wp2
  go_ret
  exact ⟨rfl, HB4.out.front 5 rfl⟩
end

end Go.Proofs.YtojknkpjnchchaaGreatDoor
