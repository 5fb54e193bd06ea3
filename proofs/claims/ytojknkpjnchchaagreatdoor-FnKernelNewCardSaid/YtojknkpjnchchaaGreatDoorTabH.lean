/- Contracts of the functions that count what tables name. No conditions but the readings of the arguments and the sizes of the texts. -/
import Derived.Test.YtojknkpjnchchaaGreatDoorTabE
namespace Go.Proofs.YtojknkpjnchchaaGreatDoor
open Go.ChangeShapes Go.WideShapes Go.RowKit
set_option linter.all false
set_option maxRecDepth 100000
attribute [local go_sem ↓] Go.wp_at_zero Go.wp_at_succ

theorem cnt_in {a : Nat → Int} {ns : List Int} {n : Nat} (ha : 0 ≤ a n ∧ a n ≤ 1000) (hl : ns.length ≤ 1000) : 0 ≤ a n + cntI ns n ∧ a n + cntI ns n ≤ 2000 := by
  have h1 := cntI_nonneg ns n
  have h2 := cntI_le ns n
  omega
theorem cntTo_in (m : List (List Int)) (xs : List Info) (hm : ∀ ws ∈ m, ws.length ≤ 4) (f : Nat) : ∀ t, 0 ≤ cntTo m xs t f ∧ cntTo m xs t f ≤ 4 * t := by
  intro t
  induction t with
  | zero => simp [cntTo]
  | succ t ih =>
    unfold cntTo
    have h1 := cntI_nonneg (names (rowAt m (t : Int))) f
    have h2 := cntI_le (names (rowAt m (t : Int))) f
    have h3 := names_le (rowAt m (t : Int))
    have h4 : (rowAt m (t : Int)).length ≤ 4 := by
      unfold rowAt
      rw [Int.toNat_natCast]
      cases hx : m[t]? with
      | none => simp
      | some ws => exact hm ws (List.mem_of_getElem? hx)
    split <;> omega

/-- What stands in the row of counts while a table's words are looked at. -/
def mid (m : List (List Int)) (xs : List Info) (t : Nat) (ns : List Int) : List Int := tab (fun f => cntTo m xs t f + cntI ns f)
theorem mid_nil (m : List (List Int)) (xs : List Info) (t : Nat) : mid m xs t [] = tab (cntTo m xs t) := by unfold mid; exact tab_ext fun f _ => by rw [cntI_nil]; omega
theorem mid_len (m : List (List Int)) (xs : List Info) (t : Nat) (ns : List Int) : (mid m xs t ns).length = 12 := tab_len _
theorem mid_bump (m : List (List Int)) (xs : List Info) (t : Nat) (ns : List Int) (n : Nat) : (mid m xs t ns).set n (cntTo m xs t n + cntI ns n + 1) = mid m xs t (ns ++ [(n : Int)]) := tab_bump rfl
theorem mid_next {m : List (List Int)} {xs : List Info} {t : Nat} {x : Info} {ws : List Int} (hx : xs[t]? = some x) (hw : m[t]? = some ws) (hk : tabK x.kd = true) : mid m xs t (names ws) = mid m xs (t + 1) [] := by
  rw [mid_nil]
  refine tab_ext fun f _ => ?_
  rw [show cntTo m xs (t + 1) f = cntTo m xs t f + (if tabK (infAt xs (t : Int)).kd then cntI (names (rowAt m (t : Int))) f else 0) from rfl, infAt_eq hx, rowAt_eq hw, if_pos hk]
theorem mid_skip {m : List (List Int)} {xs : List Info} {t : Nat} {x : Info} (hx : xs[t]? = some x) (hk : tabK x.kd = false) : mid m xs t [] = mid m xs (t + 1) [] := by
  rw [mid_nil, mid_nil]
  refine tab_ext fun f _ => ?_
  rw [show cntTo m xs (t + 1) f = cntTo m xs t f + (if tabK (infAt xs (t : Int)).kd then cntI (names (rowAt m (t : Int))) f else 0) from rfl, infAt_eq hx, hk]
  simp
theorem mid_get (m : List (List Int)) (xs : List Info) (t : Nat) (ns : List Int) {n : Nat} (h : n < 12) : (mid m xs t ns)[n]? = some (cntTo m xs t n + cntI ns n) := tab_get _ h

set_option maxHeartbeats 8000000 in
theorem counted_c (m : List (List Int)) (xs : List Info) (v v2 : Value) (w : World) (hm : RdII w v m) (hx : RdF w v2 xs) (hmo : memOk m = true) (hxl : xs.length = 12) :
    Calls Tryz.prog 44 #[v, v2] w fun e w' => ∃ u, e = .returned u ∧ OwI w.heap.size w' u (cnt m xs) ∧ Below w.heap.size w w' := by
  have HM := Lib.hid hm
  have HMO := Lib.hid hmo
  have HMR := Lib.hid (fun ws (hw : ws ∈ m) => (show ws.length ≤ 4 by rw [wordsOk_len (memOk_all hmo hw)]; exact Nat.le_refl _))
  have HML := Lib.hid (memOk_len hmo)
  obtain ⟨a, c, rfl, t1, t2, -, t3⟩ := hx
  have H3 := Lib.hid t3
  have HXL := Lib.hid hxl
  rw [hxl] at t1 ⊢
  unfold maxLen at t2
  obtain ⟨w0', hw0⟩ : ∃ ws, m[0]? = some ws := ⟨_, List.getElem?_eq_getElem (by rw [memOk_len hmo]; omega)⟩
  obtain ⟨ad, cm, s0, rfl, s1, s2, s3, -, -, -, -⟩ := RdN.rowOf hm hw0
  rw [HML.out] at s1 s3 HM ⊢
  unfold maxLen at s2
  clear hm hmo hxl t3 hw0 s3
  go_enter Tryz.func44, Tryz.ntmps44
  go_wp2_with (refine make_T eltInt rfl _ _ rfl 12 rfl rfl (by omega) ?_; intro w1 ho hb1)
  have H1 := Lib.hid ((Bun.refl w none).addT ho hb1)
  rw [show List.replicate 12 (0 : Int) = mid m xs 0 [] by rw [mid_nil, tab_zero]; rfl] at H1
  obtain ⟨g, hg⟩ : ∃ g, g = w.heap.size := ⟨_, rfl⟩
  rw [← hg] at H1 ⊢
  clear ho hb1 hg
  go_wp2
  go_loopw [16] (fun i wr => ∃ t : Nat, t ≤ 12 ∧ i = .int .i64 t ∧ Bun w none wr [Res.row encI 1 3 (.slice (some ⟨g, 0, none⟩) 12 12) (mid m xs t [])]) (fun i _ => 12 - (intOf i).toNat)
  case atStart => exact ⟨0, Nat.zero_le _, rfl, H1.out⟩
  case round =>
    obtain ⟨t, ht, rfl, hb⟩ := hrel
    have HB := Lib.hid hb
    clear hb
    by_cases hlt : t < 12
    · have hltb : decide ((t : Int) < 12) = true := by simp; omega
      obtain ⟨x, hx⟩ : ∃ x, xs[t]? = some x := ⟨_, List.getElem?_eq_getElem (by have := HXL.out; omega)⟩
      obtain ⟨b, o, rfl, hbl, hc⟩ := H3.out t x hx
      have c0 := (HB.out.below.cell (p := ⟨b, o + t * 3 + 0, none⟩) hbl).trans (hc 0 _ rfl)
      have c1 := (HB.out.below.cell (p := ⟨b, o + t * 3 + 1, none⟩) hbl).trans (hc 1 _ rfl)
      have c2 := (HB.out.below.cell (p := ⟨b, o + t * 3 + 2, none⟩) hbl).trans (hc 2 _ rfl)
      simp only [Nat.add_zero] at c0
      obtain ⟨ws, hws⟩ : ∃ ws, m[t]? = some ws := ⟨_, List.getElem?_eq_getElem (by have := HML.out; omega)⟩
      obtain ⟨ad2, cm2, s, e1, -, -, -, hbl2, hsp, hcell, hrd⟩ := RdN.rowOf HM.out hws
      simp only [Value.slice.injEq, Option.some.injEq] at e1
      obtain ⟨rfl, -, rfl⟩ := e1
      obtain ⟨mb, mo, sp⟩ := ad
      simp only at hsp hbl2 hcell
      subst hsp
      obtain ⟨ar, cr, hsv, r1, r2, -, r3⟩ := hrd
      have hwl := wordsOk_len (memOk_all HMO.out (List.mem_of_getElem? hws))
      have HW := Lib.hid (fun x hx => words_in (memOk_all HMO.out (List.mem_of_getElem? hws)) (x := x) hx)
      rw [hsv, hwl] at hcell
      rw [hwl] at r1
      have HWL := Lib.hid hwl
      have HR3 := Lib.hid r3
      have HCELL := Lib.hid hcell
      have HX := Lib.hid hx
      have HWS := Lib.hid hws
      unfold maxLen at r2
      clear hc hx hws r3 hsv hwl hcell
      go_wp2_with fail
      refine (isTable_c x.kd _).mono ?_
      rintro e w2 ⟨rfl, rfl⟩
      cases hk : tabK x.kd
      · have HS := Lib.hid (mid_skip (m := m) HX.out hk)
        clear hk
        go_wp2
        go_roundw
        case rel => exact ⟨t + 1, by omega, by go_num, by rw [← HS.out]; exact HB.out.call (by go_grown)⟩
        case measure => simp [intOf]; omega
      · have HS := Lib.hid (mid_next HX.out HWS.out hk)
        have H2 := Lib.hid (HB.out.over (.cells #[.int .i64 x.kd, tv x.gd, .int .i64 x.rf] 73))
        have d0 := (H2.out.below.cell (p := ⟨mb, mo + t, none⟩) hbl2).trans HCELL.out
        clear hk
        go_wp2
        go_loopw [30] (fun i wr2 => ∃ k : Nat, k ≤ 4 ∧ i = .int .i64 k ∧ Bun w none wr2 [Res.row encI 1 3 (.slice (some ⟨g, 0, none⟩) 12 12) (mid m xs t (names (ws.take k)))]) (fun i _ => 4 - (intOf i).toNat)
        case atStart => exact ⟨0, Nat.zero_le _, rfl, by simpa [names] using H2.out⟩
        case round =>
          obtain ⟨k, hk4, rfl, hb3⟩ := hrel
          have H3' := Lib.hid hb3
          clear hb3
          by_cases hlt2 : k < 4
          · obtain ⟨y, hy⟩ : ∃ y, ws[k]? = some y := ⟨_, List.getElem?_eq_getElem (by have := HWL.out; omega)⟩
            obtain ⟨b2, o2, rfl, hbl3, hc3⟩ := HR3.out k y hy
            have e0 := (H3'.out.below.cell (p := ⟨b2, o2 + k * 1 + 0, none⟩) hbl3).trans (hc3 0 _ rfl)
            simp only [Nat.mul_one, Nat.add_zero] at e0
            have hyr := HW.out y (List.mem_of_getElem? hy)
            have HY := Lib.hid hy
            clear hc3 hy
            go_wp2_with fail
            refine (implEntryGet_c y _ hyr).mono ?_
            rintro e w5 ⟨rfl, rfl⟩
            cases he : entB y
            · have HS3 := Lib.hid (names_skip HY.out he)
              clear he
              go_wp2
              go_roundw
              case rel => exact ⟨k + 1, by omega, by go_num, by rw [HS3.out]; exact H3'.out⟩
              case measure => simp [intOf]; omega
            · have HS3 := Lib.hid (names_succ HY.out he)
              have hyl := ent_lt he
              have hI : entI y = y / 4 := by simp [entI, he]
              obtain ⟨n, hn⟩ := Int.eq_ofNat_of_zero_le hyl.1
              rw [hI, hn]
              rw [hn] at HS3
              have hn12 : n < 12 := by omega
              have hg1 := mid_get m xs t (names (ws.take k)) hn12
              obtain ⟨g', c', e1, -, -, -, -, hfz, hcs⟩ := H3'.out.at 0 rfl encI_len hg1
              simp only [Value.slice.injEq, Option.some.injEq, Addr.mk.injEq, and_true] at e1
              obtain ⟨rfl, -, rfl⟩ := e1
              have q0 := hcs 0 _ rfl
              have f0 := hfz n
              have hin := cntTo_in m xs HMR.out n t
              have hin2 := cnt_in (a := cntTo m xs t) (ns := names (ws.take k)) (n := n) (by omega) (by have h8 := names_le (ws.take k); have h9 : (ws.take k).length ≤ 4 := (by rw [List.length_take]; omega); omega)
              have H4 := Lib.hid (H3'.out.store encI_len (j := 0) (x' := cntTo m xs t n + cntI (names (ws.take k)) n + 1) (u := .int .i64 (cntTo m xs t n + cntI (names (ws.take k)) n + 1)) hg1 (by omega) rfl)
              rw [mid_bump, ← HS3.out] at H4
              simp only [Nat.mul_one, Nat.add_zero] at q0 H4
              generalize cntTo m xs t n + cntI (names (ws.take k)) n = q at *
              obtain ⟨hq0, hq1⟩ := hin2
              clear hfz hcs hg1 hin hyl hI hn he HS3
              go_wp2
              go_roundw
              case rel => exact ⟨k + 1, by omega, by go_num, H4.out⟩
              case measure => simp [intOf]; omega
          · obtain rfl : k = 4 := by omega
            have HE := Lib.hid (show ws.take 4 = ws from List.take_of_length_le (by have := HWL.out; omega))
            go_wp2
            go_roundw
            case rel => exact ⟨t + 1, by omega, by go_num, by have h := H3'.out; rw [HE.out, HS.out] at h; exact h⟩
            case measure => simp [intOf]; omega
    · obtain rfl : t = 12 := by omega
      go_wp2
      go_ret
      have h := HB.out
      rw [mid_nil] at h
      exact ⟨_, rfl, h.ow 0 rfl, h.below⟩

set_option maxHeartbeats 8000000 in
theorem l13Count_c (m : List (List Int)) (xs : List Info) (v v2 : Value) (w : World) (hm : RdII w v m) (hx : RdF w v2 xs) (hmo : memOk m = true) (hxl : xs.length = 12) :
    Calls Tryz.prog 90 #[v, v2] w fun e w' => ∃ u, e = .returned u ∧ OwI w.heap.size w' u (cnt m xs) ∧ Below w.heap.size w w' := by
  have HM := Lib.hid hm
  have HMO := Lib.hid hmo
  have HMR := Lib.hid (fun ws (hw : ws ∈ m) => (show ws.length ≤ 4 by rw [wordsOk_len (memOk_all hmo hw)]; exact Nat.le_refl _))
  have HML := Lib.hid (memOk_len hmo)
  obtain ⟨a, c, rfl, t1, t2, -, t3⟩ := hx
  have H3 := Lib.hid t3
  have HXL := Lib.hid hxl
  rw [hxl] at t1 ⊢
  unfold maxLen at t2
  obtain ⟨w0', hw0⟩ : ∃ ws, m[0]? = some ws := ⟨_, List.getElem?_eq_getElem (by rw [memOk_len hmo]; omega)⟩
  obtain ⟨ad, cm, s0, rfl, s1, s2, s3, -, -, -, -⟩ := RdN.rowOf hm hw0
  rw [HML.out] at s1 s3 HM ⊢
  unfold maxLen at s2
  clear hm hmo hxl t3 hw0 s3
  go_enter Tryz.func90, Tryz.ntmps90
  go_wp2_with (refine make_T eltInt rfl _ _ rfl 12 rfl rfl (by omega) ?_; intro w1 ho hb1)
  have H1 := Lib.hid ((Bun.refl w none).addT ho hb1)
  rw [show List.replicate 12 (0 : Int) = mid m xs 0 [] by rw [mid_nil, tab_zero]; rfl] at H1
  obtain ⟨g, hg⟩ : ∃ g, g = w.heap.size := ⟨_, rfl⟩
  rw [← hg] at H1 ⊢
  clear ho hb1 hg
  go_wp2
  go_loopw [6] (fun i wr => ∃ t : Nat, t ≤ 12 ∧ i = .int .i64 t ∧ Bun w none wr [Res.row encI 1 3 (.slice (some ⟨g, 0, none⟩) 12 12) (mid m xs t [])]) (fun i _ => 12 - (intOf i).toNat)
  case atStart => exact ⟨0, Nat.zero_le _, rfl, H1.out⟩
  case round =>
    obtain ⟨t, ht, rfl, hb⟩ := hrel
    have HB := Lib.hid hb
    clear hb
    by_cases hlt : t < 12
    · obtain ⟨x, hx⟩ : ∃ x, xs[t]? = some x := ⟨_, List.getElem?_eq_getElem (by have := HXL.out; omega)⟩
      obtain ⟨b, o, rfl, hbl, hc⟩ := H3.out t x hx
      have k0 := hc 0 _ rfl
      simp only [Nat.add_zero] at k0
      have K0 := Lib.hid k0
      obtain ⟨ws, hws⟩ : ∃ ws, m[t]? = some ws := ⟨_, List.getElem?_eq_getElem (by have := HML.out; omega)⟩
      obtain ⟨ad2, cm2, s, e1, -, -, -, hbl2, hsp, hcell, hrd⟩ := RdN.rowOf HM.out hws
      simp only [Value.slice.injEq, Option.some.injEq] at e1
      obtain ⟨rfl, -, rfl⟩ := e1
      obtain ⟨mb, mo, sp⟩ := ad
      simp only at hsp hbl2 hcell
      subst hsp
      have hwl := wordsOk_len (memOk_all HMO.out (List.mem_of_getElem? hws))
      have HW := Lib.hid (fun x hx => words_in (memOk_all HMO.out (List.mem_of_getElem? hws)) (x := x) hx)
      have d0 := (HB.out.below.cell (p := ⟨mb, mo + t, none⟩) hbl2).trans hcell
      have HR := Lib.hid (RdT.below hrd HB.out.below)
      have HWL := Lib.hid hwl
      have HX := Lib.hid hx
      have HWS := Lib.hid hws
      clear hc hx hws hwl hcell hrd k0
      go_wp2_with fail
      refine (l3Named_c ws (slv s) _ HR.out HW.out (by have := HWL.out; omega)).mono ?_
      rintro e w2 ⟨u, rfl, ho2, hb2⟩
      have H2 := Lib.hid (HB.out.addT ho2 hb2)
      clear ho2 hb2 d0
      obtain ⟨an, cn, rfl, n1, n2, -, -⟩ := H2.out.rd 0 rfl encI_len
      unfold maxLen at n2
      obtain ⟨nn, hnn⟩ : ∃ nn, nn = (names ws).length := ⟨_, rfl⟩
      rw [← hnn] at n1 H2 ⊢
      have HNN := Lib.hid hnn
      have hn4 : nn ≤ 4 := by have h1 := names_le ws; have h2 := HWL.out; omega
      clear hnn
      cases hk : tabK x.kd
      · have HS := Lib.hid (mid_skip (m := m) HX.out hk)
        have HK := Lib.hid hk
        clear hk
        go_wp2
        go_loopw [8] (fun i wr2 => i = .int .i64 0 ∧ Bun w none wr2 [Res.row encI 1 3 (.slice an nn cn) (names ws), Res.row encI 1 3 (.slice (some ⟨g, 0, none⟩) 12 12) (mid m xs t [])]) (fun i _ => 0)
        case atStart => exact ⟨rfl, H2.out⟩
        case round =>
          obtain ⟨rfl, hb3⟩ := hrel
          have H3' := Lib.hid hb3
          clear hb3
          by_cases hn0 : nn = 0
          · subst hn0
            go_wp2
            go_roundw
            case rel => exact ⟨t + 1, by omega, by go_num, by rw [← HS.out]; exact (H3'.out.drop)⟩
            case measure => simp [intOf]; omega
          · have c0 := (H3'.out.below.cell (p := ⟨b, o + t * 3, none⟩) hbl).trans K0.out
            have hn1 : (0 : Int) < (nn : Int) := by omega
            go_wp2_with fail
            refine (l13Table_c x.kd _).mono ?_
            rintro e w5 ⟨rfl, rfl⟩
            rw [HK.out]
            go_wp2
            go_roundw
            case rel => exact ⟨t + 1, by omega, by go_num, by rw [← HS.out]; exact (H3'.out.drop)⟩
            case measure => simp [intOf]; omega
      · have HS := Lib.hid (mid_next HX.out HWS.out hk)
        have HK := Lib.hid hk
        clear hk
        go_wp2
        go_loopw [8] (fun i wr2 => ∃ k : Nat, k ≤ nn ∧ i = .int .i64 k ∧ Bun w none wr2 [Res.row encI 1 3 (.slice an nn cn) (names ws), Res.row encI 1 3 (.slice (some ⟨g, 0, none⟩) 12 12) (mid m xs t ((names ws).take k))]) (fun i _ => nn - (intOf i).toNat)
        case atStart => exact ⟨0, Nat.zero_le _, rfl, by simpa using H2.out⟩
        case round =>
          obtain ⟨k, hk4, rfl, hb3⟩ := hrel
          have H3' := Lib.hid hb3
          clear hb3
          by_cases hlt2 : k < nn
          · obtain ⟨y, hy⟩ : ∃ y, (names ws)[k]? = some y := ⟨_, List.getElem?_eq_getElem (by have := HNN.out; omega)⟩
            have c0 := (H3'.out.below.cell (p := ⟨b, o + t * 3, none⟩) hbl).trans K0.out
            have hyl := names_mem (List.mem_of_getElem? hy)
            obtain ⟨n, rfl⟩ := Int.eq_ofNat_of_zero_le hyl.1
            have hn12 : n < 12 := by omega
            have hg1 := mid_get m xs t ((names ws).take k) hn12
            obtain ⟨g', c', e1, -, -, -, -, hfz, hcs⟩ := H3'.out.at 1 rfl encI_len hg1
            simp only [Value.slice.injEq, Option.some.injEq, Addr.mk.injEq, and_true] at e1
            obtain ⟨rfl, -, rfl⟩ := e1
            obtain ⟨gn, c2', e2, -, -, -, -, -, hcn⟩ := H3'.out.at 0 rfl encI_len hy
            simp only [Value.slice.injEq, and_true] at e2
            obtain ⟨rfl, -, rfl⟩ := e2
            have q0 := hcs 0 _ rfl
            have e0 := hcn 0 _ rfl
            have f0 := hfz n
            have hin := cntTo_in m xs HMR.out n t
            have hin2 := cnt_in (a := cntTo m xs t) (ns := (names ws).take k) (n := n) (by omega) (by have h9 : ((names ws).take k).length ≤ 4 := (by rw [List.length_take]; omega); omega)
            have H4 := Lib.hid (((H3'.out.drew.front 1 rfl).store encI_len (j := 0) (x' := cntTo m xs t n + cntI ((names ws).take k) n + 1) (u := .int .i64 (cntTo m xs t n + cntI ((names ws).take k) n + 1)) hg1 (by omega) rfl).front 1 rfl)
            rw [mid_bump, show (names ws).take k ++ [(n : Int)] = (names ws).take (k + 1) by rw [List.take_add_one, hy]; rfl] at H4
            simp only [Nat.mul_one, Nat.add_zero] at q0 e0 H4
            generalize cntTo m xs t n + cntI ((names ws).take k) n = q at *
            obtain ⟨hq0, hq1⟩ := hin2
            have hlt3 : (k : Int) < (nn : Int) := by omega
            have hlt4 : (n : Int) < 12 := by omega
            have hlt5 : (0 : Int) ≤ (n : Int) := by omega
            have hlt6 : (0 : Int) ≤ (k : Int) := by omega
            clear hfz hcs hg1 hin hyl hcn hy
            go_wp2_with fail
            refine (l13Table_c x.kd _).mono ?_
            rintro e w5 ⟨rfl, rfl⟩
            rw [HK.out]
            go_wp2
            go_still_tail 14, (by kernel_rfl)
            go_wp2
            go_roundw
            case rel => exact ⟨k + 1, by omega, by go_num, H4.out⟩
            case measure => simp [intOf]; omega
          · obtain rfl : nn = k := by omega
            have HE := Lib.hid (show (names ws).take nn = names ws from List.take_of_length_le (by have := HNN.out; omega))
            go_wp2
            go_roundw
            case rel => exact ⟨t + 1, by omega, by go_num, by have h := H3'.out.drop; rw [HE.out, HS.out] at h; exact h⟩
            case measure => simp [intOf]; omega
    · obtain rfl : t = 12 := by omega
      go_wp2
      go_ret
      have h := HB.out
      rw [mid_nil] at h
      exact ⟨_, rfl, h.ow 0 rfl, h.below⟩

end Go.Proofs.YtojknkpjnchchaaGreatDoor
