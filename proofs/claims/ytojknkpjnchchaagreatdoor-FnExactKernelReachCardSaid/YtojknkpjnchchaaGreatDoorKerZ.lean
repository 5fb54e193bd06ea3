/- Sizes and copies of environments and kernels. No conditions but the readings of the arguments and the sizes of the texts. -/
import Derived.Test.YtojknkpjnchchaaGreatDoorGKer
namespace Go.Proofs.YtojknkpjnchchaaGreatDoor
open Go.ChangeShapes Go.WideShapes Go.ChangeAt Go.RowKit
set_option linter.all false
set_option maxRecDepth 100000
attribute [local go_sem ↓] Go.wp_at_zero Go.wp_at_succ

/-- What an environment takes of a bound. -/
def szE (e : Env) : Nat := szl e.rg
def szK (k : Kern) : Int := ((k.me.length : Int) + sumLen k.me) + ((k.inf.length : Int) + infSum k.inf) + ((k.env.length : Int) + sumBy szE k.env) + (k.ca.length : Int)
def fitE (es : List Env) : Prop := ∀ e ∈ es, fitS e.rg

set_option maxHeartbeats 1000000 in
theorem szEnv_c (x : Env) (s : Sl) (left : Int) (w : World) (h : RdS w (slv s) x.rg) (hf : fitS x.rg) (hl : 0 ≤ left ∧ left ≤ 1048576) :
    Calls Tryz.prog 81 #[.agg #[slv s, .int .i64 x.rt], .int .i64 left] w fun e w' => e = .returned (.int .i64 (szv left (szE x))) ∧ Below w.heap.size w w' := by
  obtain ⟨sa, sn, sc⟩ := s
  simp only [slv] at h ⊢
  have HB := Lib.hid ((Bun.refl w none).alloc (.cells #[.slice sa sn sc, .int .i64 x.rt] 100))
  obtain ⟨z0, z1, -, -, zz⟩ := blk2 (HB.out.get 0 rfl)
  have HR := Lib.hid (h.below HB.out.below)
  have HE := Lib.hid (show (szE x : Int) = (szl x.rg : Int) from rfl)
  clear h
  by_cases hlt : left < (szl x.rg : Int)
  · have HS := Lib.hid (szv_neg hlt)
    go_enter Tryz.func81, Tryz.ntmps81
    go_wp2_with fail
    refine (szString2_c x.rg _ left _ HR.out hf hl).mono ?_
    rintro e w' ⟨rfl, rfl⟩
    rw [HS.out]
    go_wp2
    go_ret
    exact ⟨ret_int (by rw [HE.out, HS.out]), HB.out.below⟩
  · have HS := Lib.hid (szv_pos (left := left) (n := (szl x.rg : Int)) (by omega))
    have hp : 0 ≤ left - (szl x.rg : Int) := by omega
    go_enter Tryz.func81, Tryz.ntmps81
    go_wp2_with fail
    refine (szString2_c x.rg _ left _ HR.out hf hl).mono ?_
    rintro e w' ⟨rfl, rfl⟩
    rw [HS.out]
    go_wp2
    go_ret
    exact ⟨ret_int (by rw [HE.out, HS.out]), HB.out.below⟩

set_option maxHeartbeats 2000000 in
theorem szEnvS_c (es : List Env) (v : Value) (left : Int) (w : World) (h : RdE w v es) (hf : fitE es) (hl : 0 ≤ left ∧ left ≤ 1048576) : Calls Tryz.prog 28 #[v, .int .i64 left] w fun e w' =>
    e = .returned (.int .i64 (szv left ((es.length : Int) + sumBy szE es))) ∧ Below w.heap.size w w' := by
  obtain ⟨rows, ⟨a, c, rfl, h1, h2, -, h3⟩, hin, hrt⟩ := h
  have H3 := Lib.hid h3
  have HIN := Lib.hid hin
  have HRT := Lib.hid hrt
  have HF := Lib.hid hf
  obtain ⟨n, hn⟩ : ∃ n, n = rows.length := ⟨_, rfl⟩
  have hn2 : n = es.length := hn.trans (RdE.len hin)
  rw [← hn] at h1 ⊢
  have HN2 := Lib.hid hn2
  unfold maxLen at h2
  clear h3 hin hrt hn hn2 hf
  by_cases hlt : left < n
  · go_enter Tryz.func28, Tryz.ntmps28
    go_wp2
    go_ret
    exact ⟨ret_int (szv_neg (by have := HN2.out; omega)).symm, bref _⟩
  · go_enter Tryz.func28, Tryz.ntmps28
    go_wp2
    go_loopw [1, 5] (fun t i wr => ∃ k : Nat, k ≤ n ∧ i = .int .i64 k ∧ t = .int .i64 (left - n - sumBy szE (es.take k)) ∧ (sumBy szE (es.take k) : Int) ≤ left - n ∧ Below w.heap.size w wr) (fun _ i _ => n - (intOf i).toNat)
    case atStart => exact ⟨0, Nat.zero_le _, rfl, by simp [sumBy], by simp [sumBy]; omega, bref _⟩
    case round =>
      obtain ⟨k, hk, rfl, rfl, hs, hb⟩ := hrel
      by_cases hlt2 : k < n
      · obtain ⟨x, hx⟩ : ∃ x, es[k]? = some x := ⟨_, List.getElem?_eq_getElem (by have := HN2.out; omega)⟩
        obtain ⟨s, hrow, hrd⟩ := getE HIN.out HRT.out hx
        obtain ⟨b, o, rfl, hbl, hc⟩ := H3.out k _ hrow
        have c0 := (hb.cell (p := ⟨b, o + k * 2 + 0, none⟩) hbl).trans (hc 0 _ rfl)
        have c1 := (hb.cell (p := ⟨b, o + k * 2 + 1, none⟩) hbl).trans (hc 1 _ rfl)
        simp only [Nat.add_zero] at c0 c1
        have HS1 := Lib.hid (sumBy_take szE hx)
        have HRD := Lib.hid (hrd.below hb)
        have HXM := Lib.hid (List.mem_of_getElem? hx)
        clear hc hx hrow hrd
        by_cases hfit : (szE x : Int) ≤ left - n - sumBy szE (es.take k)
        · have HZ := Lib.hid (szv_pos hfit)
          go_wp2_with fail
          refine (szEnv_c x s _ _ HRD.out (HF.out x HXM.out) (by omega)).mono ?_
          rintro e w' ⟨rfl, hb1⟩
          rw [HZ.out]
          have hb2 := bnext hb hb1
          go_wp2
          go_roundw
          case rel => exact ⟨k + 1, by omega, by go_num, by have := HS1.out; first | (congr 1; omega) | (simp; omega), by have := HS1.out; omega, hb2⟩
          case measure => simp [intOf]; omega
        · have HZ := Lib.hid (show szv (left - n - sumBy szE (es.take k)) (szE x : Int) = -1 from szv_neg (by omega))
          go_wp2_with fail
          refine (szEnv_c x s _ _ HRD.out (HF.out x HXM.out) (by omega)).mono ?_
          rintro e w' ⟨rfl, hb1⟩
          rw [HZ.out]
          have hb2 := bnext hb hb1
          go_wp2
          go_ret
          exact ⟨ret_int (szv_neg (by have := HS1.out; have := HN2.out; have := sumBy_take_le szE es (k + 1); omega)).symm, hb2⟩
      · go_wp2
        go_ret
        have hall : sumBy szE (es.take k) = sumBy szE es := sumBy_all szE (by have := HN2.out; omega)
        rw [hall] at hs ⊢
        exact ⟨ret_int (by rw [szv_pos (by have := HN2.out; omega)]; have := HN2.out; omega), hb⟩

set_option maxHeartbeats 1000000 in
theorem toEnv_c (x : Env) (s : Sl) (w : World) (h : RdS w (slv s) x.rg) (hl : x.rg.length ≤ 1048576) :
    Calls Tryz.prog 93 #[.agg #[slv s, .int .i64 x.rt]] w fun e w' => ∃ u : Sl, e = .returned (.agg #[slv u, .int .i64 x.rt]) ∧ OwS w.heap.size w' (slv u) x.rg ∧ Below w.heap.size w w' := by
  obtain ⟨sa, sn, sc⟩ := s
  simp only [slv] at h ⊢
  have HB := Lib.hid ((((Bun.refl w none).alloc (.cells #[.slice sa sn sc, .int .i64 x.rt] 100)).blkAt (.cells #[.slice none 0 0, .int .i64 0] 55) (w.heap.size + 1) (by simp)).blkAt (.cells #[.slice none 0 0, .int .i64 0] 55) (w.heap.size + 1 + 1) (by simp))
  obtain ⟨y0, y1, yf0, yf1, yz⟩ := blk2 (HB.out.get 2 rfl)
  obtain ⟨x0, x1, xf0, xf1, xz⟩ := blk2 (HB.out.get 0 rfl)
  have HR := Lib.hid (h.below HB.out.below)
  clear h
  go_enter Tryz.func93, Tryz.ntmps93
  go_wp2_with fail
  refine (toStringS_c x.rg _ _ HR.out hl).mono ?_
  rintro e w1 ⟨u, rfl, ho, hb⟩
  have h1 := HB.out.addT ho hb
  obtain ⟨⟨ua, un, uc⟩, rfl⟩ := (h1.rd 0 rfl encS_len).sl
  simp only [slv] at h1 ⊢
  have h2 := ((((h1.front 1 rfl).put 0 (.slice ua un uc)).put 1 (.int .i64 x.rt)).front 2 rfl)
  have h3 := (h2.put 0 (.slice ua un uc)).put 1 (.int .i64 x.rt)
  clear y0 y1 yf0 yf1 yz x0 x1 xf0 xf1 xz ho hb
  obtain ⟨y0, y1, yf0, yf1, yz⟩ := blk2 (h1.get 3 rfl)
  obtain ⟨x0, x1, xf0, xf1, xz⟩ := blk2 (h1.get 1 rfl)
  obtain ⟨v0, v1, vf0, vf1, vz⟩ := blk2 (h1.get 2 rfl)
  obtain ⟨p0, p1, -, -, pz⟩ := blk2 (h3.get 0 rfl)
  have H3 := Lib.hid h3
  have P := Lib.hid (And.intro p0 (And.intro p1 pz))
  clear h1 h2 h3 p0 p1 pz
  go_wp2
  obtain ⟨p0, p1, pz⟩ := P.out
  refine bodyPost_ret (v := .agg #[.slice ua un uc, .int .i64 x.rt]) ?_ rfl ?_
  · simp [results, Tryz.results93, go_sem, p0, p1, pz]
  · exact ⟨(ua, un, uc), rfl, H3.out.ow 2 rfl, H3.out.below⟩

theorem OwE.zero {lo n : Nat} {w : World} {v : Value} (h : OwT encE 2 55 lo w v (List.replicate n esN)) : OwE lo w.heap.size w v (List.replicate n ⟨[], 0⟩) := by
  refine ⟨List.replicate n esN, OwF.of h (Nat.le_refl _), ?_, ?_⟩
  · rw [List.map_replicate, List.map_replicate]; exact InO.nils _ _ _ _
  · rw [List.map_replicate, List.map_replicate]; rfl

set_option maxHeartbeats 2000000 in
theorem toEnvS_c (es : List Env) (v : Value) (w : World) (hx : RdE w v es) (hl : (es.length : Int) + sumBy szE es ≤ 1048576) : Calls Tryz.prog 39 #[v] w fun e w' =>
    ∃ u, e = .returned u ∧ OwE w.heap.size w'.heap.size w' u es ∧ Below w.heap.size w w' := by
  obtain ⟨rows, ⟨a, c, rfl, h1, h2, -, h3⟩, hin, hrt⟩ := hx
  unfold maxLen at h2
  have HIN := Lib.hid hin
  have HRT := Lib.hid hrt
  have H3 := Lib.hid h3
  obtain ⟨n, hn⟩ : ∃ n, n = rows.length := ⟨_, rfl⟩
  have hn2 : n = es.length := hn.trans (RdE.len hin)
  rw [← hn] at h1 ⊢
  have HN2 := Lib.hid hn2
  have hl1 : n ≤ 1048576 := by omega
  have HL := Lib.hid hl
  clear h3 hin hrt hn hn2 hl
  go_enter Tryz.func39, Tryz.ntmps39
  go_wp2_with (refine make_T eltEnv rfl _ _ rfl n rfl rfl (by omega) ?_; intro w1 ho hb1)
  have hs1 := hb1.size
  have ho : OwE w.heap.size w1.heap.size w1 (.slice (some ⟨w.heap.size, 0, none⟩) n n) (filled ⟨[], 0⟩ es 0) := by
    rw [filled_zero, ← HN2.out]
    exact OwE.zero ho
  go_wp2
  go_loopw [4] (fun i wr => ∃ k : Nat, k ≤ n ∧ i = .int .i64 k ∧ Below w.heap.size w wr ∧ OwE w.heap.size wr.heap.size wr (.slice (some ⟨w.heap.size, 0, none⟩) n n) (filled ⟨[], 0⟩ es k)) (fun i _ => n - (intOf i).toNat)
  case atStart => exact ⟨0, Nat.zero_le _, rfl, hb1, ho⟩
  case round =>
    obtain ⟨k, hk, rfl, hb, hok⟩ := hrel
    by_cases hlt : k < n
    · obtain ⟨x, hx⟩ : ∃ x, es[k]? = some x := ⟨_, List.getElem?_eq_getElem (by have := HN2.out; omega)⟩
      obtain ⟨s, hrow, hrd⟩ := getE HIN.out HRT.out hx
      obtain ⟨b, o, rfl, hbl, hc⟩ := H3.out k _ hrow
      have c0 := (hb.cell (p := ⟨b, o + k * 2 + 0, none⟩) hbl).trans (hc 0 _ rfl)
      have c1 := (hb.cell (p := ⟨b, o + k * 2 + 1, none⟩) hbl).trans (hc 1 _ rfl)
      simp only [Nat.add_zero] at c0 c1
      have HRD := Lib.hid (hrd.below hb)
      have HX := Lib.hid hx
      have hll := le_sumBy szE hx
      have HLL := Lib.hid (show x.rg.length ≤ 1048576 by have := HL.out; have hz : szE x = x.rg.length + strSum x.rg := rfl; omega)
      have HOK := Lib.hid hok
      clear hc hx hrow hrd hll hok
      go_wp2_with fail
      refine (toEnv_c x s _ HRD.out HLL.out).mono ?_
      rintro e w2 ⟨⟨sa, sn, sc⟩, rfl, ho2, hb2⟩
      have hok2 := HOK.out.below hb2
      have hof := OwF.of ho2 (Nat.le_refl _)
      have hfin := hok2.stored (s := (sa, sn, sc)) hof (.inl (Nat.le_refl _)) hb.size hb2.size k (by rw [filled_len _ _ _ (by have := HN2.out; omega)]; have := HN2.out; omega) x.rt
      rw [show Env.mk x.rg x.rt = x from rfl, filled_step _ _ _ _ HX.out] at hfin
      obtain ⟨rows2, hr2, hi2, -⟩ := hok2
      obtain ⟨e0, e1, e2, e3, e4, hfz, hcs⟩ := hr2.1.open encE_len
      obtain ⟨z, hz⟩ : ∃ z, rows2[k]? = some z := ⟨_, List.getElem?_eq_getElem (by omega)⟩
      have d0 := hcs k z 0 _ hz rfl
      have d1 := hcs k z 1 _ hz rfl
      have f0 := hfz (k * 2)
      have f1 := hfz (k * 2 + 1)
      simp only [Nat.add_zero] at d0
      have HFIN := Lib.hid hfin
      have hb3 : Below w.heap.size w w2 := bnext hb hb2
      clear hcs hfz hz hr2 hi2 e0 hfin hof ho2 rows2
      simp only [slv]
      simp only [slv] at HFIN d0
      go_wp2
      go_roundw
      case rel => exact ⟨k + 1, by omega, by go_num, (hb3.setCell (Nat.le_refl _) _).setCell (Nat.le_refl _) _, by have := HFIN.out; simpa using this⟩
      case measure => simp [intOf]; omega
    · go_wp2
      go_ret
      refine ⟨_, rfl, ?_, hb⟩
      have h1 := HN2.out
      have h3 : k = es.length := by omega
      rw [h3, filled_all] at hok
      exact hok

/-- Environments that a call made: two facts. -/
theorem Bun.addE {w0 w w' : World} {row : Option Nat} {rs : List Res} {v : Value} {es : List Env} (h : Bun w0 row w rs) (ho : OwE w.heap.size w'.heap.size w' v es) (hb : Below w.heap.size w w') : ∃ sls, Bun w0 row w' (rowE v sls es :: rowR sls es :: rs) := by
  obtain ⟨rows, h1, h2, hrt⟩ := ho
  have hl : rows.length = es.length := by have := h2.len; simpa using this
  have hmk : mkEs (rows.map (·.1)) es = rows := by
    apply List.ext_getElem?
    intro i
    unfold mkEs
    rw [List.getElem?_zipWith, List.getElem?_map]
    cases hi : rows[i]? with
    | none => rfl
    | some r =>
      have hlt := (List.getElem?_eq_some_iff.1 hi).1
      obtain ⟨x, hx⟩ : ∃ x, es[i]? = some x := ⟨_, List.getElem?_eq_getElem (by omega)⟩
      have h5 : (rows.map (·.2))[i]? = (es.map (·.rt))[i]? := by rw [hrt]
      rw [List.getElem?_map, List.getElem?_map, hi, hx] at h5
      simp only [Option.map_some, Option.some.injEq] at h5
      rw [hx]
      simp only [Option.map_some, Option.some.injEq]
      rw [← h5]
  refine ⟨rows.map (·.1), ?_⟩
  rw [show rowE v (rows.map (·.1)) es = Res.row encE 2 55 v rows by unfold rowE; rw [hmk]]
  have hin : InO encS 1 9 0 w'.heap.size w' (rows.map (·.1)) (es.map (·.rg)) := h2.mono (Nat.zero_le _) (Nat.le_refl _)
  have hrow : OwT encE 2 55 0 w' v rows := h1.1.mono (Nat.zero_le _)
  have hb2 := h.add hb (rowR (rows.map fun x : Es => x.1) es) hin (fun k ⟨s, hs, hk⟩ => (h2.lt hs hk).1)
  have hs := h.grow.size
  have hv : ∀ k, v.ownBlock = some k → w.heap.size ≤ k := fun k hk => (h1.2 k hk).1
  refine ⟨hb2.grow, fun q hq => ?_, List.pairwise_cons.2 ⟨fun q hq k hk hk2 => ?_, hb2.apart⟩⟩
  · rcases List.mem_cons.1 hq with rfl | hq
    · exact ⟨hrow, fun k hk => .inl (Nat.le_trans hs (hv k hk))⟩
    · exact hb2.all q hq
  · rcases List.mem_cons.1 hq with rfl | hq
    · obtain ⟨s, hs, hg⟩ := hk2
      obtain ⟨i, hi⟩ := List.getElem?_of_mem hs
      obtain ⟨ys, -, ho⟩ := h2.rget hi
      exact ho.other neEs h1 k hg hk
    · have := q.lt (h.all q hq).1 k hk2
      have := hv k hk
      omega

set_option maxHeartbeats 2000000 in
theorem toKernel_c (k : Kern) (v : Value) (w : World) (hx : RdK w v k) (hl : szK k ≤ 1048576) :
    Calls Tryz.prog 9 #[v] w fun e w' => ∃ a b c d ss sls, e = .returned (.agg #[a, b, c, d]) ∧ Bun w none w' (KR a b c d ss sls k []) := by
  obtain ⟨a, b, c, d, rfl, x1, x2, x3, x4⟩ := hx
  have X1 := Lib.hid x1
  have X2 := Lib.hid x2
  have X3 := Lib.hid x3
  have X4 := Lib.hid x4
  unfold szK at hl
  have L1 := Lib.hid (show (k.me.length : Int) + sumLen k.me ≤ 1048576 by omega)
  have L2 := Lib.hid (show k.inf.length ≤ 1048576 by omega)
  have L3 := Lib.hid (show (k.env.length : Int) + sumBy szE k.env ≤ 1048576 by omega)
  have L4 := Lib.hid (show k.ca.length ≤ 1048576 by omega)
  have HB := Lib.hid ((((Bun.refl w none).alloc (.cells #[a, b, c, d] 27)).blkAt (.cells #[.slice none 0 0, .slice none 0 0, .slice none 0 0, .slice none 0 0] 34) (w.heap.size + 1) (by simp)).blkAt (.cells #[.slice none 0 0, .slice none 0 0, .slice none 0 0, .slice none 0 0] 34) (w.heap.size + 1 + 1) (by simp))
  clear x1 x2 x3 x4 hl
  obtain ⟨y0, y1, y2, y3, yf0, yf1, yf2, yf3, yz⟩ := blk4 (HB.out.get 2 rfl)
  obtain ⟨x0, x1, x2, x3, xf0, xf1, xf2, xf3, xz⟩ := blk4 (HB.out.get 0 rfl)
  go_enter Tryz.func9, Tryz.ntmps9
  go_wp2_with fail
  refine (toIntSS_c k.me a _ (X1.out.below HB.out.below) L1.out).mono ?_
  rintro e w1 ⟨u, rfl, ho, hb⟩
  obtain ⟨ss, h1⟩ := HB.out.addN neSl ho hb
  obtain ⟨⟨a1, a2, a3⟩, rfl⟩ := (h1.rd 0 rfl encL_len).sl
  simp only [slv] at h1 ⊢
  have H1 := Lib.hid ((h1.front 2 rfl).put 0 (.slice a1 a2 a3))
  clear y0 y1 y2 y3 yf0 yf1 yf2 yf3 yz x0 x1 x2 x3 xf0 xf1 xf2 xf3 xz ho hb
  obtain ⟨y0, y1, y2, y3, yf0, yf1, yf2, yf3, yz⟩ := blk4 (h1.get 4 rfl)
  obtain ⟨x0, x1, x2, x3, xf0, xf1, xf2, xf3, xz⟩ := blk4 (h1.get 2 rfl)
  obtain ⟨v0, v1, v2, v3, vf0, vf1, vf2, vf3, vz⟩ := blk4 (H1.out.get 0 rfl)
  obtain ⟨q0, q1, q2, q3, qf0, qf1, qf2, qf3, qz⟩ := blk4 (H1.out.get 4 rfl)
  clear h1 HB
  go_wp2_with fail
  refine (toInfoS_c k.inf b _ (X2.out.below H1.out.below) L2.out).mono ?_
  rintro e w2 ⟨u, rfl, ho, hb⟩
  have h1 := H1.out.addT ho hb
  obtain ⟨⟨b1, b2, b3⟩, rfl⟩ := (h1.rd 0 rfl Info.enc_len).sl
  simp only [slv] at h1 ⊢
  have H2 := Lib.hid ((h1.front 1 rfl).put 1 (.slice b1 b2 b3))
  clear y0 y1 y2 y3 yf0 yf1 yf2 yf3 yz x0 x1 x2 x3 xf0 xf1 xf2 xf3 xz v0 v1 v2 v3 vf0 vf1 vf2 vf3 vz q0 q1 q2 q3 qf0 qf1 qf2 qf3 qz ho hb
  obtain ⟨y0, y1, y2, y3, yf0, yf1, yf2, yf3, yz⟩ := blk4 (h1.get 5 rfl)
  obtain ⟨x0, x1, x2, x3, xf0, xf1, xf2, xf3, xz⟩ := blk4 (h1.get 1 rfl)
  obtain ⟨q0, q1, q2, q3, qf0, qf1, qf2, qf3, qz⟩ := blk4 (H2.out.get 5 rfl)
  clear h1 H1
  go_wp2_with fail
  refine (toEnvS_c k.env c _ (X3.out.below H2.out.below) L3.out).mono ?_
  rintro e w3 ⟨u, rfl, ho, hb⟩
  obtain ⟨sls, h1⟩ := H2.out.addE ho hb
  obtain ⟨⟨c1, c2, c3⟩, rfl⟩ := (h1.rd 0 rfl encE_len).sl
  simp only [slv] at h1 ⊢
  have H3 := Lib.hid ((h1.front 2 rfl).put 2 (.slice c1 c2 c3))
  clear y0 y1 y2 y3 yf0 yf1 yf2 yf3 yz x0 x1 x2 x3 xf0 xf1 xf2 xf3 xz q0 q1 q2 q3 qf0 qf1 qf2 qf3 qz ho hb
  obtain ⟨y0, y1, y2, y3, yf0, yf1, yf2, yf3, yz⟩ := blk4 (h1.get 7 rfl)
  obtain ⟨x0, x1, x2, x3, xf0, xf1, xf2, xf3, xz⟩ := blk4 (h1.get 2 rfl)
  obtain ⟨q0, q1, q2, q3, qf0, qf1, qf2, qf3, qz⟩ := blk4 (H3.out.get 7 rfl)
  clear h1 H2
  go_wp2_with fail
  refine (toCachedS_c k.ca d _ (X4.out.below H3.out.below) L4.out).mono ?_
  rintro e w4 ⟨u, rfl, ho, hb⟩
  have h1 := H3.out.addT ho hb
  obtain ⟨⟨d1, d2, d3⟩, rfl⟩ := (h1.rd 0 rfl Cac.enc_len).sl
  simp only [slv] at h1 ⊢
  have h4 := (h1.front 1 rfl).put 3 (.slice d1 d2 d3)
  clear y0 y1 y2 y3 yf0 yf1 yf2 yf3 yz x0 x1 x2 x3 xf0 xf1 xf2 xf3 xz q0 q1 q2 q3 qf0 qf1 qf2 qf3 qz ho hb
  obtain ⟨x0, x1, x2, x3, xf0, xf1, xf2, xf3, xz⟩ := blk4 (h1.get 1 rfl)
  obtain ⟨v0, v1, v2, v3, vf0, vf1, vf2, vf3, vz⟩ := blk4 (h1.get 7 rfl)
  obtain ⟨q0, q1, q2, q3, qf0, qf1, qf2, qf3, qz⟩ := blk4 (h4.get 0 rfl)
  obtain ⟨r0, r1, r2, r3, rf0, rf1, rf2, rf3, rz⟩ := blk4 (h4.get 7 rfl)
  have h5 := ((((h4.front 7 rfl).put 0 (.slice a1 a2 a3)).put 1 (.slice b1 b2 b3)).put 2 (.slice c1 c2 c3)).put 3 (.slice d1 d2 d3)
  obtain ⟨p0, p1, p2, p3, -, -, -, -, pz⟩ := blk4 (h5.get 0 rfl)
  have H5 := Lib.hid h5
  have P := Lib.hid (And.intro p0 (And.intro p1 (And.intro p2 (And.intro p3 pz))))
  clear h1 h4 h5 p0 p1 p2 p3 pz H3
  go_wp2
  obtain ⟨p0, p1, p2, p3, pz⟩ := P.out
  refine bodyPost_ret (v := .agg #[.slice a1 a2 a3, .slice b1 b2 b3, .slice c1 c2 c3, .slice d1 d2 d3]) ?_ rfl ?_
  · simp [results, Tryz.results9, go_sem, p0, p1, p2, p3, pz]
  · have h6 := (H5.out.drop.drop).rm 6
    exact ⟨_, _, _, _, ss, sls, rfl, ((((h6.front 2 rfl).front 2 rfl).front 3 rfl).front 5 rfl).front 5 rfl⟩
-- szKernel
set_option maxHeartbeats 4000000 in
theorem szKernel_c (k : Kern) (v : Value) (left : Int) (w : World) (hx : RdK w v k) (hf : fitF k.inf) (he : fitE k.env) (hl : 0 ≤ left ∧ left ≤ 1048576) :
    Calls Tryz.prog 7 #[v, .int .i64 left] w fun e w' => e = .returned (.int .i64 (szv left (szK k))) ∧ Below w.heap.size w w' := by
  obtain ⟨a, b, c, d, rfl, x1, x2, x3, x4⟩ := hx
  have X1 := Lib.hid x1
  have X2 := Lib.hid x2
  have X3 := Lib.hid x3
  have X4 := Lib.hid x4
  have HF := Lib.hid hf
  have HE := Lib.hid he
  have HB0 := Lib.hid ((Bun.refl w none).alloc (.cells #[a, b, c, d] 27))
  have HK := Lib.hid (show szK k = ((k.me.length : Int) + sumLen k.me) + ((k.inf.length : Int) + infSum k.inf) + ((k.env.length : Int) + sumBy szE k.env) + (k.ca.length : Int) from rfl)
  obtain ⟨hl0, hl1⟩ := hl
  clear x1 x2 x3 x4 hf he
  obtain ⟨s0, hs0⟩ : ∃ s, s = ((k.me.length : Int) + sumLen k.me) := ⟨_, rfl⟩
  have hp0 : 0 ≤ s0 := by omega
  have HS0 := Lib.hid hs0
  clear hs0
  obtain ⟨s1, hs1⟩ : ∃ s, s = ((k.inf.length : Int) + infSum k.inf) := ⟨_, rfl⟩
  have hp1 : 0 ≤ s1 := by omega
  have HS1 := Lib.hid hs1
  clear hs1
  obtain ⟨s2, hs2⟩ : ∃ s, s = ((k.env.length : Int) + sumBy szE k.env) := ⟨_, rfl⟩
  have hp2 : 0 ≤ s2 := by omega
  have HS2 := Lib.hid hs2
  clear hs2
  obtain ⟨s3, hs3⟩ : ∃ s, s = (k.ca.length : Int) := ⟨_, rfl⟩
  have hp3 : 0 ≤ s3 := by omega
  have HS3 := Lib.hid hs3
  clear hs3
  rw [← HS0.out, ← HS1.out, ← HS2.out, ← HS3.out] at HK
  by_cases h0 : left < s0
  · have HZ0 := Lib.hid (szv_neg h0)
    obtain ⟨z0, z1, z2, z3, -, -, -, -, zz⟩ := blk4 (HB0.out.get 0 rfl)
    go_enter Tryz.func7, Tryz.ntmps7
    go_wp2_with fail
    refine (szIntSS_c k.me a left _ (X1.out.below HB0.out.below) (by omega)).mono ?_
    rintro e w' ⟨rfl, rfl⟩
    rw [← HS0.out, HZ0.out]
    go_wp2
    go_ret
    exact ⟨ret_int (by rw [HK.out, szv_neg (by omega)]), HB0.out.below⟩
  have HZ0 := Lib.hid (szv_pos (left := left) (n := s0) (by omega))
  by_cases h1 : (left - s0) < s1
  · have HZ1 := Lib.hid (szv_neg h1)
    obtain ⟨z0, z1, z2, z3, -, -, -, -, zz⟩ := blk4 (HB0.out.get 0 rfl)
    go_enter Tryz.func7, Tryz.ntmps7
    go_wp2_with fail
    refine (szIntSS_c k.me a left _ (X1.out.below HB0.out.below) (by omega)).mono ?_
    rintro e w' ⟨rfl, rfl⟩
    rw [← HS0.out, HZ0.out]
    have hq0 : 0 ≤ (left - s0) := by omega
    go_wp2_with fail
    refine (szInfoS_c k.inf b (left - s0) _ (X2.out.below HB0.out.below) HF.out (by omega)).mono ?_
    rintro e w1 ⟨rfl, hb⟩
    have HB1 := Lib.hid (HB0.out.call hb)
    clear hb z0 z1 z2 z3 zz
    obtain ⟨z0, z1, z2, z3, -, -, -, -, zz⟩ := blk4 (HB1.out.get 0 rfl)
    rw [← HS1.out, HZ1.out]
    go_wp2
    go_ret
    exact ⟨ret_int (by rw [HK.out, szv_neg (by omega)]), HB1.out.below⟩
  have HZ1 := Lib.hid (szv_pos (left := (left - s0)) (n := s1) (by omega))
  by_cases h2 : (left - s0 - s1) < s2
  · have HZ2 := Lib.hid (szv_neg h2)
    obtain ⟨z0, z1, z2, z3, -, -, -, -, zz⟩ := blk4 (HB0.out.get 0 rfl)
    go_enter Tryz.func7, Tryz.ntmps7
    go_wp2_with fail
    refine (szIntSS_c k.me a left _ (X1.out.below HB0.out.below) (by omega)).mono ?_
    rintro e w' ⟨rfl, rfl⟩
    rw [← HS0.out, HZ0.out]
    have hq0 : 0 ≤ (left - s0) := by omega
    go_wp2_with fail
    refine (szInfoS_c k.inf b (left - s0) _ (X2.out.below HB0.out.below) HF.out (by omega)).mono ?_
    rintro e w1 ⟨rfl, hb⟩
    have HB1 := Lib.hid (HB0.out.call hb)
    clear hb z0 z1 z2 z3 zz
    obtain ⟨z0, z1, z2, z3, -, -, -, -, zz⟩ := blk4 (HB1.out.get 0 rfl)
    rw [← HS1.out, HZ1.out]
    have hq1 : 0 ≤ (left - s0 - s1) := by omega
    go_wp2_with fail
    refine (szEnvS_c k.env c (left - s0 - s1) _ (X3.out.below HB1.out.below) HE.out (by omega)).mono ?_
    rintro e w1 ⟨rfl, hb⟩
    have HB2 := Lib.hid (HB1.out.call hb)
    clear hb z0 z1 z2 z3 zz
    obtain ⟨z0, z1, z2, z3, -, -, -, -, zz⟩ := blk4 (HB2.out.get 0 rfl)
    rw [← HS2.out, HZ2.out]
    go_wp2
    go_ret
    exact ⟨ret_int (by rw [HK.out, szv_neg (by omega)]), HB2.out.below⟩
  have HZ2 := Lib.hid (szv_pos (left := (left - s0 - s1)) (n := s2) (by omega))
  by_cases h3 : (left - s0 - s1 - s2) < s3
  · have HZ3 := Lib.hid (szv_neg h3)
    obtain ⟨z0, z1, z2, z3, -, -, -, -, zz⟩ := blk4 (HB0.out.get 0 rfl)
    go_enter Tryz.func7, Tryz.ntmps7
    go_wp2_with fail
    refine (szIntSS_c k.me a left _ (X1.out.below HB0.out.below) (by omega)).mono ?_
    rintro e w' ⟨rfl, rfl⟩
    rw [← HS0.out, HZ0.out]
    have hq0 : 0 ≤ (left - s0) := by omega
    go_wp2_with fail
    refine (szInfoS_c k.inf b (left - s0) _ (X2.out.below HB0.out.below) HF.out (by omega)).mono ?_
    rintro e w1 ⟨rfl, hb⟩
    have HB1 := Lib.hid (HB0.out.call hb)
    clear hb z0 z1 z2 z3 zz
    obtain ⟨z0, z1, z2, z3, -, -, -, -, zz⟩ := blk4 (HB1.out.get 0 rfl)
    rw [← HS1.out, HZ1.out]
    have hq1 : 0 ≤ (left - s0 - s1) := by omega
    go_wp2_with fail
    refine (szEnvS_c k.env c (left - s0 - s1) _ (X3.out.below HB1.out.below) HE.out (by omega)).mono ?_
    rintro e w1 ⟨rfl, hb⟩
    have HB2 := Lib.hid (HB1.out.call hb)
    clear hb z0 z1 z2 z3 zz
    obtain ⟨z0, z1, z2, z3, -, -, -, -, zz⟩ := blk4 (HB2.out.get 0 rfl)
    rw [← HS2.out, HZ2.out]
    have hq2 : 0 ≤ (left - s0 - s1 - s2) := by omega
    go_wp2_with fail
    refine (szCachedS_c k.ca d (left - s0 - s1 - s2) _ (X4.out.below HB2.out.below) (by omega)).mono ?_
    rintro e w' ⟨rfl, rfl⟩
    rw [← HS3.out, HZ3.out]
    go_wp2
    go_ret
    exact ⟨ret_int (by rw [HK.out, szv_neg (by omega)]), HB2.out.below⟩
  have HZ3 := Lib.hid (szv_pos (left := (left - s0 - s1 - s2)) (n := s3) (by omega))
  obtain ⟨z0, z1, z2, z3, -, -, -, -, zz⟩ := blk4 (HB0.out.get 0 rfl)
  go_enter Tryz.func7, Tryz.ntmps7
  go_wp2_with fail
  refine (szIntSS_c k.me a left _ (X1.out.below HB0.out.below) (by omega)).mono ?_
  rintro e w' ⟨rfl, rfl⟩
  rw [← HS0.out, HZ0.out]
  have hq0 : 0 ≤ (left - s0) := by omega
  go_wp2_with fail
  refine (szInfoS_c k.inf b (left - s0) _ (X2.out.below HB0.out.below) HF.out (by omega)).mono ?_
  rintro e w1 ⟨rfl, hb⟩
  have HB1 := Lib.hid (HB0.out.call hb)
  clear hb z0 z1 z2 z3 zz
  obtain ⟨z0, z1, z2, z3, -, -, -, -, zz⟩ := blk4 (HB1.out.get 0 rfl)
  rw [← HS1.out, HZ1.out]
  have hq1 : 0 ≤ (left - s0 - s1) := by omega
  go_wp2_with fail
  refine (szEnvS_c k.env c (left - s0 - s1) _ (X3.out.below HB1.out.below) HE.out (by omega)).mono ?_
  rintro e w1 ⟨rfl, hb⟩
  have HB2 := Lib.hid (HB1.out.call hb)
  clear hb z0 z1 z2 z3 zz
  obtain ⟨z0, z1, z2, z3, -, -, -, -, zz⟩ := blk4 (HB2.out.get 0 rfl)
  rw [← HS2.out, HZ2.out]
  have hq2 : 0 ≤ (left - s0 - s1 - s2) := by omega
  go_wp2_with fail
  refine (szCachedS_c k.ca d (left - s0 - s1 - s2) _ (X4.out.below HB2.out.below) (by omega)).mono ?_
  rintro e w' ⟨rfl, rfl⟩
  rw [← HS3.out, HZ3.out]
  have hq3 : 0 ≤ (left - s0 - s1 - s2 - s3) := by omega
  go_wp2
  go_ret
  exact ⟨ret_int (by rw [HK.out, szv_pos (by omega)]; omega), HB2.out.below⟩
end Go.Proofs.YtojknkpjnchchaaGreatDoor
