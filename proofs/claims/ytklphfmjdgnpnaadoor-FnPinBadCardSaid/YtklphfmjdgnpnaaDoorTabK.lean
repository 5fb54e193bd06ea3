/- Contracts of the functions that change the uses of the frames that a table names. No conditions but the readings of the arguments and the sizes of the texts. -/
import Derived.Test.YtklphfmjdgnpnaaDoorTabE
namespace Go.Proofs.YtklphfmjdgnpnaaDoor
open Go.ChangeShapes Go.WideShapes Go.RowKit
set_option linter.all false
set_option maxRecDepth 100000
attribute [local go_sem ↓] Go.wp_at_zero Go.wp_at_succ

theorem byc_in {by_ : Int} {ns : List Int} {n : Nat} {r : Int} (hb : by_ = 1 ∨ by_ = -1) (hl : ns.length ≤ 4) (hr : 0 ≤ r ∧ r ≤ 50) : -10 ≤ r + by_ * cntI ns n ∧ r + by_ * cntI ns n ≤ 60 := by
  have h1 := cntI_nonneg ns n
  have h2 := cntI_le ns n
  rcases hb with rfl | rfl <;> omega
set_option maxHeartbeats 8000000 in
theorem refer_c (m : List (List Int)) (xs : List Info) (v v2 : Value) (k : Nat) (by_ : Int) (w : World) (hm : RdII w v m) (hx : RdF w v2 xs) (hmo : memOk m = true) (hxl : xs.length = 12) (hrf : ∀ x ∈ xs, 0 ≤ x.rf ∧ x.rf ≤ 50) (hk : k < 12) (hby : by_ = 1 ∨ by_ = -1) :
    Calls Tryd.prog 73 #[v, v2, .int .i64 k, .int .i64 by_] w fun e w' => ∃ u, e = .returned u ∧ OwFr w.heap.size w' u (addR xs (fun i => by_ * cntI (names (rowAt m (k : Int))) i)) ∧ Below w.heap.size w w' := by
  have HX := Lib.hid hx
  have HXL := Lib.hid hxl
  have HRF := Lib.hid hrf
  have HBY := Lib.hid hby
  have hml := memOk_len hmo
  obtain ⟨ws, hws⟩ : ∃ ws, m[k]? = some ws := ⟨_, List.getElem?_eq_getElem (by omega)⟩
  obtain ⟨ad, cm, s, rfl, s1, s2, s3, hbl2, hsp, hcell, hrd⟩ := RdN.rowOf hm hws
  obtain ⟨mb, mo, sp⟩ := ad
  simp only at hsp hbl2 hcell
  subst hsp
  have hwl := wordsOk_len (memOk_all hmo (List.mem_of_getElem? hws))
  have HW := Lib.hid (fun x hx => words_in (memOk_all hmo (List.mem_of_getElem? hws)) (x := x) hx)
  have HROW := Lib.hid (rowAt_eq hws)
  have hk0 : (0 : Int) ≤ (k : Int) := by omega
  have hk1 : (k : Int) < 12 := by omega
  have hb0 : -1 ≤ by_ := by omega
  have hb1 : by_ ≤ 1 := by omega
  have HWL := Lib.hid hwl
  rw [hml] at s1 ⊢
  unfold maxLen at s2
  obtain ⟨ar, cr, hsv, r1, r2, -, r3⟩ := hrd
  rw [hsv, hwl] at hcell
  rw [hwl] at r1
  unfold maxLen at r2
  have HR3 := Lib.hid r3
  have HCELL := Lib.hid hcell
  clear hm hx hmo hxl hrf hby hml hws hwl hcell hsv r3 s3
  go_enter Tryd.func73, Tryd.ntmps73
  go_wp2_with fail
  refine (cloneInfo_c xs v2 _ HX.out (by have := HXL.out; omega)).mono ?_
  rintro e w1 ⟨u, rfl, ho, hbl⟩
  have H1 := Lib.hid ((Bun.refl w none).addT ho hbl)
  clear ho hbl
  obtain ⟨x0, hx0⟩ : ∃ x, xs[0]? = some x := ⟨_, List.getElem?_eq_getElem (by have := HXL.out; omega)⟩
  obtain ⟨g, c, rfl, g1, g2, g3, g4, -, -⟩ := H1.out.at 0 rfl Info.enc_len hx0
  unfold maxLen at g3
  rw [HXL.out] at H1 g1 g2 ⊢
  clear hx0
  have d0 := (H1.out.below.cell (p := ⟨mb, mo + k, none⟩) hbl2).trans HCELL.out
  go_wp2
  go_loopw [22] (fun i wr => ∃ j : Nat, j ≤ 4 ∧ i = .int .i64 j ∧ Bun w none wr [Res.row Info.enc 3 36 (.slice (some ⟨g, 0, none⟩) 12 c) (addR xs (fun f => by_ * cntI (names (ws.take j)) f))]) (fun i _ => 4 - (intOf i).toNat)
  case atStart => exact ⟨0, Nat.zero_le _, rfl, by rw [show (fun f => by_ * cntI (names (ws.take 0)) f) = (fun _ => 0) by funext f; simp [names, cntI_nil], addR_zero]; exact H1.out⟩
  case round =>
    obtain ⟨j, hj4, rfl, hb3⟩ := hrel
    have H3' := Lib.hid hb3
    clear hb3
    by_cases hlt2 : j < 4
    · obtain ⟨y, hy⟩ : ∃ y, ws[j]? = some y := ⟨_, List.getElem?_eq_getElem (by have := HWL.out; omega)⟩
      obtain ⟨b2, o2, rfl, hbl3, hc3⟩ := HR3.out j y hy
      have e0 := (H3'.out.below.cell (p := ⟨b2, o2 + j * 1 + 0, none⟩) hbl3).trans (hc3 0 _ rfl)
      simp only [Nat.mul_one, Nat.add_zero] at e0
      have hyr := HW.out y (List.mem_of_getElem? hy)
      have HY := Lib.hid hy
      clear hc3 hy
      go_wp2_with fail
      refine (implEntryGet_c y _ hyr).mono ?_
      rintro e w5 ⟨rfl, rfl⟩
      cases he : entB y
      · have HS3 := Lib.hid (names_skip HY.out he)
        clear he
        go_wp2
        go_roundw
        case rel => exact ⟨j + 1, by omega, by go_num, by rw [HS3.out]; exact H3'.out⟩
        case measure => simp [intOf]; omega
      · have HS3 := Lib.hid (names_succ HY.out he)
        have hyl := ent_lt he
        have hI : entI y = y / 4 := by simp [entI, he]
        obtain ⟨n, hn⟩ := Int.eq_ofNat_of_zero_le hyl.1
        rw [hI, hn]
        rw [hn] at HS3
        have hn12 : n < 12 := by omega
        obtain ⟨x, hxn⟩ : ∃ x, xs[n]? = some x := ⟨_, List.getElem?_eq_getElem (by have := HXL.out; omega)⟩
        have hg1 := addR_get (g := fun f => by_ * cntI (names (ws.take j)) f) hxn
        obtain ⟨g', c', e1, -, -, -, -, hfz, hcs⟩ := H3'.out.at 0 rfl Info.enc_len hg1
        simp only [Value.slice.injEq, Option.some.injEq, Addr.mk.injEq, and_true] at e1
        obtain ⟨rfl, -, rfl⟩ := e1
        have q2 := hcs 2 _ rfl
        have f2 := hfz (n * 3 + 2)
        have hin := byc_in (ns := names (ws.take j)) (n := n) HBY.out (by have h8 := names_le (ws.take j); have h9 : (ws.take j).length ≤ 4 := (by rw [List.length_take]; omega); omega) (HRF.out x (List.mem_of_getElem? hxn))
        have H4 := Lib.hid (H3'.out.store Info.enc_len (j := 2) (x' := { x with rf := x.rf + by_ * cntI (names (ws.take j)) n + by_ }) (u := .int .i64 (x.rf + by_ * cntI (names (ws.take j)) n + by_)) hg1 (by omega) rfl)
        rw [addR_bump hxn, ← HS3.out] at H4
        simp only [Nat.add_zero] at q2 H4
        generalize x.rf + by_ * cntI (names (ws.take j)) n = q at *
        obtain ⟨hq0, hq1⟩ := hin
        clear hfz hcs hg1 hyl hI hn he HS3 hxn
        go_wp2
        go_roundw
        case rel => exact ⟨j + 1, by omega, by go_num, H4.out⟩
        case measure => simp [intOf]; omega
    · obtain rfl : j = 4 := by omega
      have HE := Lib.hid (show ws.take 4 = ws from List.take_of_length_le (by have := HWL.out; omega))
      go_wp2
      go_ret
      have h := H3'.out
      rw [HE.out, ← HROW.out] at h
      exact ⟨_, rfl, h.ow 0 rfl, h.below⟩

set_option maxHeartbeats 8000000 in
theorem l13Add_c (m : List (List Int)) (xs : List Info) (v v2 : Value) (k : Nat) (by_ : Int) (w : World) (hm : RdII w v m) (hx : RdF w v2 xs) (hmo : memOk m = true) (hxl : xs.length = 12) (hrf : ∀ x ∈ xs, 0 ≤ x.rf ∧ x.rf ≤ 50) (hk : k < 12) (hby : by_ = 1 ∨ by_ = -1) :
    Calls Tryd.prog 74 #[v, v2, .int .i64 k, .int .i64 by_] w fun e w' => ∃ u, e = .returned u ∧ OwFr w.heap.size w' u (addR xs (fun i => by_ * cntI (names (rowAt m (k : Int))) i)) ∧ Below w.heap.size w w' := by
  have HX := Lib.hid hx
  have HXL := Lib.hid hxl
  have HRF := Lib.hid hrf
  have HBY := Lib.hid hby
  have hml := memOk_len hmo
  obtain ⟨ws, hws⟩ : ∃ ws, m[k]? = some ws := ⟨_, List.getElem?_eq_getElem (by omega)⟩
  obtain ⟨ad, cm, s, rfl, s1, s2, s3, hbl2, hsp, hcell, hrd⟩ := RdN.rowOf hm hws
  obtain ⟨mb, mo, sp⟩ := ad
  simp only at hsp hbl2 hcell
  subst hsp
  have hwl := wordsOk_len (memOk_all hmo (List.mem_of_getElem? hws))
  have HW := Lib.hid (fun x hx => words_in (memOk_all hmo (List.mem_of_getElem? hws)) (x := x) hx)
  have HROW := Lib.hid (rowAt_eq hws)
  have hk0 : (0 : Int) ≤ (k : Int) := by omega
  have hk1 : (k : Int) < 12 := by omega
  have hb0 : -1 ≤ by_ := by omega
  have hb1 : by_ ≤ 1 := by omega
  have HWL := Lib.hid hwl
  rw [hml] at s1 ⊢
  unfold maxLen at s2
  have HRD := Lib.hid hrd
  have HCELL := Lib.hid hcell
  clear hm hmo hrf hby hml hws hwl hcell hrd s3 hx hxl
  go_enter Tryd.func74, Tryd.ntmps74
  go_wp2_with (at_builtin; refine append_b eltInfo rfl _ _ rfl _ _ xs rfl rfl ((Bun.refl w none).lit eltInfo #[] [] rfl (by simp)) (HX.out.below (balloc _ _)) (by have := HXL.out; simp; omega) ?_; intro u w1 h4 hnil4; simp only [List.nil_append] at h4; have H1 := Lib.hid h4; clear h4 hnil4; obtain ⟨x0, hx0⟩ : ∃ x, xs[0]? = some x := ⟨_, List.getElem?_eq_getElem (by have := HXL.out; omega)⟩; obtain ⟨g, c, rfl, g1, g2, g3, g4, -, -⟩ := H1.out.at 0 rfl Info.enc_len hx0; unfold maxLen at g3; rw [HXL.out] at H1 g1 g2 ⊢; clear hx0; have d0 := (H1.out.below.cell (p := ⟨mb, mo + k, none⟩) hbl2).trans HCELL.out)
  refine (l3Named_c ws (slv s) _ (RdT.below HRD.out H1.out.below) HW.out (by have := HWL.out; omega)).mono ?_
  rintro e w2 ⟨u, rfl, ho2, hb2⟩
  have H2 := Lib.hid (H1.out.addT ho2 hb2)
  clear ho2 hb2 d0
  obtain ⟨an, cn, rfl, n1, n2, -, -⟩ := H2.out.rd 0 rfl encI_len
  unfold maxLen at n2
  obtain ⟨nn, hnn⟩ : ∃ nn, nn = (names ws).length := ⟨_, rfl⟩
  rw [← hnn] at n1 H2 ⊢
  have HNN := Lib.hid hnn
  have hn4 : nn ≤ 4 := by have h1 := names_le ws; have h2 := HWL.out; omega
  clear hnn
  go_wp2
  go_loopw [11] (fun i wr => ∃ j : Nat, j ≤ nn ∧ i = .int .i64 j ∧ Bun w none wr [Res.row encI 1 3 (.slice an nn cn) (names ws), Res.row Info.enc 3 36 (.slice (some ⟨g, 0, none⟩) 12 c) (addR xs (fun f => by_ * cntI ((names ws).take j) f))]) (fun i _ => nn - (intOf i).toNat)
  case atStart => exact ⟨0, Nat.zero_le _, rfl, by rw [show (fun f => by_ * cntI ((names ws).take 0) f) = (fun _ => 0) by funext f; simp [cntI_nil], addR_zero]; exact H2.out⟩
  case round =>
    obtain ⟨j, hj4, rfl, hb3⟩ := hrel
    have H3' := Lib.hid hb3
    clear hb3
    by_cases hlt2 : j < nn
    · obtain ⟨y, hy⟩ : ∃ y, (names ws)[j]? = some y := ⟨_, List.getElem?_eq_getElem (by have := HNN.out; omega)⟩
      have hyl := names_mem (List.mem_of_getElem? hy)
      obtain ⟨n, rfl⟩ := Int.eq_ofNat_of_zero_le hyl.1
      have hn12 : n < 12 := by omega
      obtain ⟨x, hxn⟩ : ∃ x, xs[n]? = some x := ⟨_, List.getElem?_eq_getElem (by have := HXL.out; omega)⟩
      have hg1 := addR_get (g := fun f => by_ * cntI ((names ws).take j) f) hxn
      obtain ⟨g', c', e1, -, -, -, -, hfz, hcs⟩ := H3'.out.at 1 rfl Info.enc_len hg1
      simp only [Value.slice.injEq, Option.some.injEq, Addr.mk.injEq, and_true] at e1
      obtain ⟨rfl, -, rfl⟩ := e1
      obtain ⟨gn, c2', e2, -, -, -, -, -, hcn⟩ := H3'.out.at 0 rfl encI_len hy
      simp only [Value.slice.injEq, and_true] at e2
      obtain ⟨rfl, -, rfl⟩ := e2
      have q2 := hcs 2 _ rfl
      have e0 := hcn 0 _ rfl
      have f2 := hfz (n * 3 + 2)
      have hin := byc_in (ns := (names ws).take j) (n := n) HBY.out (by have h9 : ((names ws).take j).length ≤ 4 := (by rw [List.length_take]; omega); omega) (HRF.out x (List.mem_of_getElem? hxn))
      have H4 := Lib.hid (((H3'.out.drew.front 1 rfl).store Info.enc_len (j := 2) (x' := { x with rf := x.rf + by_ * cntI ((names ws).take j) n + by_ }) (u := .int .i64 (x.rf + by_ * cntI ((names ws).take j) n + by_)) hg1 (by omega) rfl).front 1 rfl)
      rw [addR_bump hxn, show (names ws).take j ++ [(n : Int)] = (names ws).take (j + 1) by rw [List.take_add_one, hy]; rfl] at H4
      simp only [Nat.mul_one, Nat.add_zero] at q2 e0 H4
      generalize x.rf + by_ * cntI ((names ws).take j) n = q at *
      obtain ⟨hq0, hq1⟩ := hin
      have hlt3 : (j : Int) < (nn : Int) := by omega
      have hlt4 : (n : Int) < 12 := by omega
      have hlt5 : (0 : Int) ≤ (n : Int) := by omega
      have hlt6 : (0 : Int) ≤ (j : Int) := by omega
      clear hfz hcs hg1 hyl hcn hy hxn
      go_wp2
      go_still_tail 17, (by kernel_rfl)
      go_wp2
      go_roundw
      case rel => exact ⟨j + 1, by omega, by go_num, H4.out⟩
      case measure => simp [intOf]; omega
    · obtain rfl : nn = j := by omega
      have HE := Lib.hid (show (names ws).take nn = names ws from List.take_of_length_le (by have := HNN.out; omega))
      go_wp2
      go_ret
      have h := H3'.out.drop
      rw [HE.out, ← HROW.out] at h
      exact ⟨_, rfl, h.ow 0 rfl, h.below⟩

theorem fitF_addR {xs : List Info} (g : Nat → Int) (h : fitF xs) : fitF (addR xs g) := by
  intro y hy
  unfold addR at hy
  rw [List.mem_mapIdx] at hy
  obtain ⟨i, hi, rfl⟩ := hy
  exact h (xs[i]) (List.getElem_mem hi)
theorem fitF_set {xs : List Info} {k : Nat} {y : Info} (h : fitF xs) (hy : y.gd.length ≤ 9223372036854775807) : fitF (xs.set k y) := by
  intro z hz
  rcases List.mem_or_eq_of_mem_set hz with hz | rfl
  · exact h z hz
  · exact hy
theorem refs_set {xs : List Info} {k : Nat} {y : Info} (h : ∀ x ∈ xs, 0 ≤ x.rf ∧ x.rf ≤ 50) (hy : 0 ≤ y.rf ∧ y.rf ≤ 50) : ∀ x ∈ xs.set k y, 0 ≤ x.rf ∧ x.rf ≤ 50 := by
  intro z hz
  rcases List.mem_or_eq_of_mem_set hz with hz | rfl
  · exact h z hz
  · exact hy
set_option maxHeartbeats 8000000 in
theorem implTableUnpin_c (m : List (List Int)) (xs : List Info) (v v2 : Value) (f : Int) (w : World) (hm : RdII w v m) (hx : RdF w v2 xs) (hff : fitF xs) :
    Calls Tryd.prog 29 #[v, v2, .int .i64 f] w fun e w' => ∃ u, e = .returned (.tuple #[u, .int .i64 (unpC m xs f)]) ∧ OwFr w.heap.size w' u (unpL m xs f) ∧ Below w.heap.size w w' := by
  have HM := Lib.hid hm
  have HX := Lib.hid hx
  clear hm hx
  cases d0 : memOk m
  · have C0 := Lib.hid d0
    clear d0
    go_enter Tryd.func29, Tryd.ntmps29
    go_wp2_with fail
    refine (implMemoryValid_c m v _ (HM.out.below (bref _))).mono ?_
    rintro e v0 ⟨rfl, hb0⟩
    rw [C0.out]
    go_wp2
    go_ret2
    have hz := unp_bad (show argB m xs f = false by simp [argB, C0.out])
    rw [hz.1, hz.2]
    exact ⟨_, rfl, World.ownsRow_nil _ _ _ _, hb0⟩
  cases d1 : infosOk xs
  · have C0 := Lib.hid d0
    have C1 := Lib.hid d1
    clear d0 d1
    go_enter Tryd.func29, Tryd.ntmps29
    go_wp2_with fail
    refine (implMemoryValid_c m v _ (HM.out.below (bref _))).mono ?_
    rintro e v0 ⟨rfl, hb0⟩
    rw [C0.out]
    go_wp2_with fail
    refine (implInfosValid_c xs v2 _ (HX.out.below hb0) hff).mono ?_
    rintro e v1 ⟨rfl, hb1⟩
    have hb1 := bnext hb0 hb1
    rw [C1.out]
    go_wp2
    go_ret2
    have hz := unp_bad (show argB m xs f = false by simp [argB, C0.out, C1.out])
    rw [hz.1, hz.2]
    exact ⟨_, rfl, World.ownsRow_nil _ _ _ _, hb1⟩
  cases d2 : btw 0 f 11
  · have C0 := Lib.hid d0
    have C1 := Lib.hid d1
    have C2 := Lib.hid d2
    clear d0 d1 d2
    go_enter Tryd.func29, Tryd.ntmps29
    go_wp2_with fail
    refine (implMemoryValid_c m v _ (HM.out.below (bref _))).mono ?_
    rintro e v0 ⟨rfl, hb0⟩
    rw [C0.out]
    go_wp2_with fail
    refine (implInfosValid_c xs v2 _ (HX.out.below hb0) hff).mono ?_
    rintro e v1 ⟨rfl, hb1⟩
    have hb1 := bnext hb0 hb1
    rw [C1.out]
    go_wp2_with fail
    refine (isFrame_c f _).mono ?_
    rintro e v2 ⟨rfl, rfl⟩
    rw [C2.out]
    go_wp2
    go_ret2
    have hz := unp_bad (show argB m xs f = false by simp [argB, C0.out, C1.out, C2.out])
    rw [hz.1, hz.2]
    exact ⟨_, rfl, World.ownsRow_nil _ _ _ _, hb1⟩
  have ha : argB m xs f = true := by simp [argB, d0, d1, d2]
  have HA := Lib.hid ha
  have C0 := Lib.hid d0
  have C1 := Lib.hid d1
  have C2 := Lib.hid d2
  clear d0 d1 d2
  obtain ⟨hmo, hio, k, rfl, hk, -, x, hxk, hxo, hat⟩ := arg_parts ha
  have HMO := Lib.hid hmo
  have HXL := Lib.hid (infosOk_len hio)
  have HRF := Lib.hid (fun y (hy : y ∈ xs) => infoOk_refs (infosOk_all hio hy))
  have hxr := infoOk_refs hxo
  have HXK := Lib.hid hxk
  have HAT := Lib.hid hat
  obtain ⟨a, c, rfl, t1, t2, -, t3⟩ := HX.out
  obtain ⟨b, o, rfl, hbl, hc⟩ := t3 k x hxk
  have k0 := hc 0 _ rfl
  have k2 := hc 2 _ rfl
  simp only [Nat.add_zero] at k0
  have C0' := Lib.hid k0
  have C2' := Lib.hid k2
  rw [HXL.out] at t1 HX ⊢
  unfold maxLen at t2
  have hk0 : (0 : Int) ≤ (k : Int) := by omega
  have hk1 : (k : Int) < 12 := by omega
  have HFU := Lib.hid (fitF_set (k := k) (y := ⟨1, x.gd, x.rf + -1 * cntI (names (rowAt m (k : Int))) k⟩) (fitF_addR (fun i => -1 * cntI (names (rowAt m (k : Int))) i) hff) (hff x (List.mem_of_getElem? hxk)))
  have HU := Lib.hid (show (addR xs (fun i => -1 * cntI (names (rowAt m (k : Int))) i)).set k ⟨1, x.gd, x.rf + -1 * cntI (names (rowAt m (k : Int))) k⟩ = unpd m xs (k : Int) by simp [unpd, setK, infAt_addR hxk])
  rw [HU.out] at HFU
  clear hmo hio hxk hxo hat t3 hc k0 k2
  have R1 := Lib.hid (fun (hb : ubusyB xs (k : Int) = true) => (show unpC m xs (k : Int) = 1 ∧ unpL m xs (k : Int) = xs by simp [unpC, unpL, HA.out, hb]))
  have R3 := Lib.hid (fun (hb : ubusyB xs (k : Int) = false) (hi : infosOk (unpd m xs (k : Int)) = false) => (show unpC m xs (k : Int) = 2 ∧ unpL m xs (k : Int) = xs by simp [unpC, unpL, HA.out, hb, hi]))
  have R4 := Lib.hid (fun (hb : ubusyB xs (k : Int) = false) (hi : infosOk (unpd m xs (k : Int)) = true) => (show unpC m xs (k : Int) = 0 ∧ unpL m xs (k : Int) = unpd m xs (k : Int) by simp [unpC, unpL, HA.out, hb, hi]))
  clear ha
  go_enter Tryd.func29, Tryd.ntmps29
  go_wp2_with fail
  refine (implMemoryValid_c m v _ (HM.out.below (bref _))).mono ?_
  rintro e v0 ⟨rfl, hb0⟩
  rw [C0.out]
  go_wp2_with fail
  refine (implInfosValid_c xs _ _ (HX.out.below hb0) hff).mono ?_
  rintro e v1 ⟨rfl, hb1⟩
  have hb1 := bnext hb0 hb1
  rw [C1.out]
  go_wp2_with fail
  refine (isFrame_c _ _).mono ?_
  rintro e v2 ⟨rfl, rfl⟩
  rw [C2.out]
  have c0 := ((hb1).cell (p := ⟨b, o + k * 3, none⟩) hbl).trans C0'.out
  have c2 := ((hb1).cell (p := ⟨b, o + k * 3 + 2, none⟩) hbl).trans C2'.out
  go_wp2_with fail
  refine (isTable_c x.kd _).mono ?_
  rintro e v10 ⟨rfl, rfl⟩
  cases hkd : tabK x.kd
  · have HK := Lib.hid hkd
    clear hkd
    have HRES := Lib.hid (R1.out (by simp [ubusyB, HAT.out, HK.out]))
    clear R1 R3 R4
    go_wp2_with fail
    refine (cloneInfo_c xs _ _ (HX.out.below hb1) (by have := HXL.out; omega)).mono ?_
    rintro e v20 ⟨u, rfl, ho, hb20⟩
    go_wp2
    go_ret2
    rw [HRES.out.1, HRES.out.2]
    exact ⟨_, rfl, OwT.mono ho (Below.size hb1), bnext hb1 hb20⟩
  by_cases hrz : x.rf = 0
  rotate_left
  · have hrb : (x.rf != 0) = true := bne_iff_ne.2 hrz
    have HRES := Lib.hid (R1.out (by simp [ubusyB, HAT.out, hrz]))
    clear R1 R3 R4
    go_wp2_with fail
    refine (cloneInfo_c xs _ _ (HX.out.below hb1) (by have := HXL.out; omega)).mono ?_
    rintro e v20 ⟨u, rfl, ho, hb20⟩
    go_wp2
    go_ret2
    rw [HRES.out.1, HRES.out.2]
    exact ⟨_, rfl, OwT.mono ho (Below.size hb1), bnext hb1 hb20⟩
  have hrb : (x.rf != 0) = false := by simp [hrz]
  have HNB := Lib.hid (show ubusyB xs (k : Int) = false by simp [ubusyB, HAT.out, hkd, hrz])
  go_wp2_with fail
  refine (refer_c m xs v _ k (-1) _ (HM.out.below hb1) (HX.out.below hb1) HMO.out HXL.out HRF.out hk (.inr rfl)).mono ?_
  rintro e v12 ⟨u, rfl, ho, hb12⟩
  have H6 := Lib.hid (((Bun.refl w none).call hb1).addT ho hb12)
  have hb12 := bnext hb1 hb12
  clear ho
  have hg1 := addR_get (g := (fun i => -1 * cntI (names (rowAt m (k : Int))) i)) HXK.out
  obtain ⟨g, c3, rfl, g1, g2, g3, g4, g5, g6⟩ := H6.out.at 0 rfl Info.enc_len hg1
  have f0 := g5 (k * 3)
  have e0 := g6 0 _ rfl
  simp only [Nat.add_zero] at e0
  have H7 := Lib.hid (H6.out.store Info.enc_len (j := 0) (x' := ⟨1, x.gd, x.rf + (-1) * cntI (names (rowAt m (k : Int))) k⟩) (u := .int .i64 1) hg1 (by omega) rfl)
  rw [HU.out] at H7
  unfold maxLen at g3
  rw [addR_len, HXL.out] at H7 g1 g2 ⊢
  simp only [Nat.add_zero] at H7
  clear g5 g6 hg1 H6
  go_wp2_with fail
  refine (implInfosValid_c (unpd m xs (k : Int)) _ _ (H7.out.rd 0 rfl Info.enc_len) HFU.out).mono ?_
  rintro e v13 ⟨rfl, hb13⟩
  have H8 := Lib.hid (H7.out.call hb13)
  clear hb13
  cases hval : infosOk (unpd m xs (k : Int))
  · have HRES := Lib.hid (R3.out HNB.out hval)
    clear R1 R3 R4 hval
    go_wp2_with fail
    refine (cloneInfo_c xs _ _ (HX.out.below H8.out.below) (by have := HXL.out; omega)).mono ?_
    rintro e v20 ⟨u, rfl, ho, hb20⟩
    go_wp2
    go_ret2
    rw [HRES.out.1, HRES.out.2]
    exact ⟨_, rfl, OwT.mono ho (Below.size H8.out.below), bnext H8.out.below hb20⟩
  have HRES := Lib.hid (R4.out HNB.out hval)
  clear R1 R3 R4 hval
  go_wp2
  go_ret2
  rw [HRES.out.1, HRES.out.2]
  exact ⟨_, rfl, H8.out.ow 0 rfl, H8.out.below⟩
set_option maxHeartbeats 8000000 in
theorem specTableUnpin_c (m : List (List Int)) (xs : List Info) (v v2 : Value) (f : Int) (w : World) (hm : RdII w v m) (hx : RdF w v2 xs) (hff : fitF xs) :
    Calls Tryd.prog 30 #[v, v2, .int .i64 f] w fun e w' => ∃ u, e = .returned (.tuple #[u, .int .i64 (unpC m xs f)]) ∧ OwFr w.heap.size w' u (unpL m xs f) ∧ Below w.heap.size w w' := by
  have HM := Lib.hid hm
  have HX := Lib.hid hx
  clear hm hx
  cases d0 : argB m xs f
  · have C0 := Lib.hid d0
    clear d0
    go_enter Tryd.func30, Tryd.ntmps30
    go_wp2_with fail
    refine (l13Args_c m xs v v2 f _ (HM.out.below (bref _)) (HX.out.below (bref _)) hff).mono ?_
    rintro e v0 ⟨rfl, hb0⟩
    rw [C0.out]
    have H9 := Lib.hid (((Bun.refl w none).call hb0).lit eltInfo #[] [] rfl (by simp))
    go_wp2
    go_ret2
    have hz := unp_bad C0.out
    rw [hz.1, hz.2]
    exact ⟨_, rfl, H9.out.ow 0 rfl, H9.out.below⟩
  have ha := d0
  have HA := Lib.hid ha
  have C0 := Lib.hid d0
  clear d0
  obtain ⟨hmo, hio, k, rfl, hk, -, x, hxk, hxo, hat⟩ := arg_parts ha
  have HMO := Lib.hid hmo
  have HXL := Lib.hid (infosOk_len hio)
  have HRF := Lib.hid (fun y (hy : y ∈ xs) => infoOk_refs (infosOk_all hio hy))
  have hxr := infoOk_refs hxo
  have HXK := Lib.hid hxk
  have HAT := Lib.hid hat
  obtain ⟨a, c, rfl, t1, t2, -, t3⟩ := HX.out
  obtain ⟨b, o, rfl, hbl, hc⟩ := t3 k x hxk
  have k0 := hc 0 _ rfl
  have k2 := hc 2 _ rfl
  simp only [Nat.add_zero] at k0
  have C0' := Lib.hid k0
  have C2' := Lib.hid k2
  rw [HXL.out] at t1 HX ⊢
  unfold maxLen at t2
  have hk0 : (0 : Int) ≤ (k : Int) := by omega
  have hk1 : (k : Int) < 12 := by omega
  have HFU := Lib.hid (fitF_set (k := k) (y := ⟨1, x.gd, x.rf + -1 * cntI (names (rowAt m (k : Int))) k⟩) (fitF_addR (fun i => -1 * cntI (names (rowAt m (k : Int))) i) hff) (hff x (List.mem_of_getElem? hxk)))
  have HU := Lib.hid (show (addR xs (fun i => -1 * cntI (names (rowAt m (k : Int))) i)).set k ⟨1, x.gd, x.rf + -1 * cntI (names (rowAt m (k : Int))) k⟩ = unpd m xs (k : Int) by simp [unpd, setK, infAt_addR hxk])
  rw [HU.out] at HFU
  clear hmo hio hxk hxo hat t3 hc k0 k2
  have HSET := Lib.hid (show addR (xs.set k { x with kd := 1 }) (fun i => -1 * cntI (names (rowAt m (k : Int))) i) = unpd m xs (k : Int) by rw [addR_set HXK.out]; exact HU.out)
  have HRS := Lib.hid (refs_set (k := k) (y := { x with kd := 1 }) HRF.out hxr)
  have R1 := Lib.hid (fun (hb : ubusyB xs (k : Int) = true) => (show unpC m xs (k : Int) = 1 ∧ unpL m xs (k : Int) = xs by simp [unpC, unpL, HA.out, hb]))
  have R3 := Lib.hid (fun (hb : ubusyB xs (k : Int) = false) (hi : infosOk (unpd m xs (k : Int)) = false) => (show unpC m xs (k : Int) = 2 ∧ unpL m xs (k : Int) = xs by simp [unpC, unpL, HA.out, hb, hi]))
  have R4 := Lib.hid (fun (hb : ubusyB xs (k : Int) = false) (hi : infosOk (unpd m xs (k : Int)) = true) => (show unpC m xs (k : Int) = 0 ∧ unpL m xs (k : Int) = unpd m xs (k : Int) by simp [unpC, unpL, HA.out, hb, hi]))
  clear ha
  go_enter Tryd.func30, Tryd.ntmps30
  go_wp2_with fail
  refine (l13Args_c m xs v _ _ _ (HM.out.below (bref _)) (HX.out.below (bref _)) hff).mono ?_
  rintro e v0 ⟨rfl, hb0⟩
  rw [C0.out]
  go_wp2_with (at_builtin; refine append_b eltInfo rfl _ _ rfl _ _ xs rfl rfl (((Bun.refl w none).call hb0).lit eltInfo #[] [] rfl (by simp)) ((HX.out.below hb0).below (balloc _ _)) (by have := HXL.out; simp; omega) ?_; intro u w1 h4 hnil4; simp only [List.nil_append] at h4; have H4 := Lib.hid h4; clear h4 hnil4; have c0 := (H4.out.below.cell (p := ⟨b, o + k * 3, none⟩) hbl).trans C0'.out; have c2 := (H4.out.below.cell (p := ⟨b, o + k * 3 + 2, none⟩) hbl).trans C2'.out; obtain ⟨g, c3, rfl, g1, g2, g3, g4, g5, g6⟩ := H4.out.at 0 rfl Info.enc_len HXK.out; have f0 := g5 (k * 3); have e0 := g6 0 _ rfl; simp only [Nat.add_zero] at e0; have H5 := Lib.hid (H4.out.store Info.enc_len (j := 0) (x' := { x with kd := 1 }) (u := .int .i64 1) HXK.out (by omega) rfl); unfold maxLen at g3; rw [HXL.out] at H4 H5 g1 g2 ⊢; simp only [Nat.add_zero] at H5; clear g5 g6)
  refine (l13Table_c x.kd _).mono ?_
  rintro e v10 ⟨rfl, rfl⟩
  cases hkd : tabK x.kd
  · have HK := Lib.hid hkd
    clear hkd
    have HRES := Lib.hid (R1.out (by simp [ubusyB, HAT.out, HK.out]))
    clear R1 R3 R4
    go_wp2
    go_ret2
    rw [HRES.out.1, HRES.out.2]
    exact ⟨_, rfl, H4.out.ow 0 rfl, H4.out.below⟩
  by_cases hrz : x.rf = 0
  rotate_left
  · have hrb : (0 : Int) < x.rf := by omega
    have HRES := Lib.hid (R1.out (by simp [ubusyB, HAT.out, hrz]))
    clear R1 R3 R4
    go_wp2
    go_ret2
    rw [HRES.out.1, HRES.out.2]
    exact ⟨_, rfl, H4.out.ow 0 rfl, H4.out.below⟩
  have HNB := Lib.hid (show ubusyB xs (k : Int) = false by simp [ubusyB, HAT.out, hkd, hrz])
  go_wp2_with fail
  refine (l13Add_c m (xs.set k { x with kd := 1 }) v _ k (-1) _ (HM.out.below H5.out.below) (H5.out.rd 0 rfl Info.enc_len) HMO.out (by rw [List.length_set]; exact HXL.out) HRS.out hk (.inr rfl)).mono ?_
  rintro e v12 ⟨u, rfl, ho, hb12⟩
  rw [HSET.out] at ho
  have H6 := Lib.hid (H5.out.addT ho hb12)
  clear ho hb12
  go_wp2_with fail
  refine (specInfosValid_c (unpd m xs (k : Int)) _ _ (H6.out.rd 0 rfl Info.enc_len) HFU.out).mono ?_
  rintro e v13 ⟨rfl, hb13⟩
  have H8 := Lib.hid (H6.out.call hb13)
  clear hb13
  cases hval : infosOk (unpd m xs (k : Int))
  · have HRES := Lib.hid (R3.out HNB.out hval)
    clear R1 R3 R4 hval
    go_wp2_with (at_builtin; refine append_b eltInfo rfl _ _ rfl _ _ xs rfl rfl ((H8.out).lit eltInfo #[] [] rfl (by simp)) ((HX.out.below H8.out.below).below (balloc _ _)) (by have := HXL.out; simp; omega) ?_; intro u w1 h4 hnil4; simp only [List.nil_append] at h4; have H9 := Lib.hid h4; clear h4 hnil4)
    go_ret2
    rw [HRES.out.1, HRES.out.2]
    exact ⟨_, rfl, H9.out.ow 0 rfl, H9.out.below⟩
  have HRES := Lib.hid (R4.out HNB.out hval)
  clear R1 R3 R4 hval
  go_wp2
  go_ret2
  rw [HRES.out.1, HRES.out.2]
  exact ⟨_, rfl, H8.out.ow 0 rfl, H8.out.below⟩
end Go.Proofs.YtklphfmjdgnpnaaDoor
