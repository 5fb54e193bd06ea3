/- Contracts of the program's functions that put and clear words of a memory. No conditions but the readings of the arguments. -/
import Derived.Test.YtklphfmjdgnpnaaDoorTabC
import Derived.Lib.SliceRun
namespace Go.Proofs.YtklphfmjdgnpnaaDoor
open Go.ChangeShapes Go.WideShapes Go.RowKit
set_option linter.all false
set_option maxRecDepth 100000
attribute [local go_sem ↓] Go.wp_at_zero Go.wp_at_succ

def memClrB (m : List (List Int)) (f : Int) : Bool := memOk m && btw 0 f 11
def memClrL (m : List (List Int)) (f : Int) : List (List Int) := if memClrB m f then clearM m f.toNat else []
def memPutB (m : List (List Int)) (f a x : Int) : Bool := memOk m && btw 0 f 11 && btw 0 a 3 && btw 0 x 9999
def memPutL (m : List (List Int)) (f a x : Int) : List (List Int) := if memPutB m f a x then m.set f.toNat ((rowAt m f).set a.toNat x) else []

theorem implEntryPut_c (f : Int) (b : Bool) (w : World) (hf : btw 0 f 11 = true) : Calls Tryd.prog 32 #[.int .i64 f, .bool b] w fun e w' => e = .returned (.tuple #[.int .i64 (if b then 4 * f + 3 else 4 * f + 1), .bool true]) ∧ w = w' := by
  have HF := Lib.hid hf
  simp only [btw, decide_eq_true_eq] at hf
  obtain ⟨h0, h1⟩ := hf
  cases b
  all_goals
    go_enter Tryd.func32, Tryd.ntmps32
    go_wp2_with fail
    refine (isFrame_c f _).mono ?_
    rintro e w1 ⟨rfl, rfl⟩
    rw [HF.out]
    go_wp2
    go_ret2
    exact ⟨rfl, rfl⟩

theorem isPlace_c (n : Int) (w : World) : Calls Tryd.prog 75 #[.int .i64 n] w fun e w' => e = .returned (.bool (btw 0 n 3)) ∧ w = w' := by
  go_enter Tryd.func75, Tryd.ntmps75
  go_wp2_with (go_at_call 98; refine (within_c _ _ _ _).mono ?_; rintro e w' ⟨rfl, rfl⟩)
  go_ret
  exact ⟨rfl, rfl⟩

theorem memOk_sum {m : List (List Int)} (h : memOk m = true) : (m.length : Int) + sumLen m ≤ 2000000 := by
  have hl := memOk_len h
  have : ∀ (xss : List (List Int)), (∀ xs ∈ xss, xs.length ≤ 4) → sumLen xss ≤ xss.length * 4 := by
    intro xss
    induction xss with
    | nil => intro _; simp [sumLen]
    | cons x t ih =>
      intro h2
      have h3 := ih (fun xs h => h2 xs (by simp [h]))
      have h4 := h2 x (by simp)
      simp only [sumLen, List.map_cons, List.sum_cons, List.length_cons] at h3 ⊢
      omega
  have h2 := this m (fun xs hx => by rw [wordsOk_len (memOk_all h hx)]; exact Nat.le_refl _)
  rw [hl] at h2
  omega

set_option maxHeartbeats 4000000 in
theorem implMemoryPut_c (m : List (List Int)) (v : Value) (f a x : Int) (w : World) (hm : RdII w v m) : Calls Tryd.prog 33 #[v, .int .i64 f, .int .i64 a, .int .i64 x] w fun e w' =>
    ∃ u, e = .returned (.tuple #[u, .bool (memPutB m f a x)]) ∧ OwII w.heap.size w'.heap.size w' u (memPutL m f a x) ∧ Below w.heap.size w w' := by
  have HM := Lib.hid hm
  have HB := Lib.hid (show memPutB m f a x = (memOk m && btw 0 f 11 && btw 0 a 3 && btw 0 x 9999) from rfl)
  have HL := Lib.hid (fun h => show memPutL m f a x = [] by unfold memPutL; rw [show memPutB m f a x = false from h]; rfl)
  have HNIL := Lib.hid (fun W : World => (⟨[], OwF.nil _ _ _, InO.empty _ _ _⟩ : OwII w.heap.size W.heap.size W (.slice none 0 0) []))
  clear hm
  cases d0 : memOk m
  · have C0 := Lib.hid d0
    clear d0
    go_enter Tryd.func33, Tryd.ntmps33
    go_wp2_with fail
    refine (implMemoryValid_c m v _ (HM.out.below (bref _))).mono ?_
    rintro e v0 ⟨rfl, hb0⟩
    rw [C0.out]
    go_wp2
    go_ret2
    have hz : memPutB m f a x = false := by rw [HB.out]; simp [C0.out]
    rw [hz, HL.out hz]
    exact ⟨_, rfl, HNIL.out _, hb0⟩
  cases d1 : btw 0 f 11
  · have C0 := Lib.hid d0
    have C1 := Lib.hid d1
    clear d0 d1
    go_enter Tryd.func33, Tryd.ntmps33
    go_wp2_with fail
    refine (implMemoryValid_c m v _ (HM.out.below (bref _))).mono ?_
    rintro e v0 ⟨rfl, hb0⟩
    rw [C0.out]
    go_wp2_with fail
    refine (isFrame_c f _).mono ?_
    rintro e v1 ⟨rfl, rfl⟩
    rw [C1.out]
    go_wp2
    go_ret2
    have hz : memPutB m f a x = false := by rw [HB.out]; simp [C0.out, C1.out]
    rw [hz, HL.out hz]
    exact ⟨_, rfl, HNIL.out _, hb0⟩
  cases d2 : btw 0 a 3
  · have C0 := Lib.hid d0
    have C1 := Lib.hid d1
    have C2 := Lib.hid d2
    clear d0 d1 d2
    go_enter Tryd.func33, Tryd.ntmps33
    go_wp2_with fail
    refine (implMemoryValid_c m v _ (HM.out.below (bref _))).mono ?_
    rintro e v0 ⟨rfl, hb0⟩
    rw [C0.out]
    go_wp2_with fail
    refine (isFrame_c f _).mono ?_
    rintro e v1 ⟨rfl, rfl⟩
    rw [C1.out]
    go_wp2_with fail
    refine (isPlace_c a _).mono ?_
    rintro e v2 ⟨rfl, rfl⟩
    rw [C2.out]
    go_wp2
    go_ret2
    have hz : memPutB m f a x = false := by rw [HB.out]; simp [C0.out, C1.out, C2.out]
    rw [hz, HL.out hz]
    exact ⟨_, rfl, HNIL.out _, hb0⟩
  cases d3 : btw 0 x 9999
  · have C0 := Lib.hid d0
    have C1 := Lib.hid d1
    have C2 := Lib.hid d2
    have C3 := Lib.hid d3
    clear d0 d1 d2 d3
    go_enter Tryd.func33, Tryd.ntmps33
    go_wp2_with fail
    refine (implMemoryValid_c m v _ (HM.out.below (bref _))).mono ?_
    rintro e v0 ⟨rfl, hb0⟩
    rw [C0.out]
    go_wp2_with fail
    refine (isFrame_c f _).mono ?_
    rintro e v1 ⟨rfl, rfl⟩
    rw [C1.out]
    go_wp2_with fail
    refine (isPlace_c a _).mono ?_
    rintro e v2 ⟨rfl, rfl⟩
    rw [C2.out]
    go_wp2_with fail
    refine (isWord_c x _).mono ?_
    rintro e v3 ⟨rfl, rfl⟩
    rw [C3.out]
    go_wp2
    go_ret2
    have hz : memPutB m f a x = false := by rw [HB.out]; simp [C0.out, C1.out, C2.out, C3.out]
    rw [hz, HL.out hz]
    exact ⟨_, rfl, HNIL.out _, hb0⟩
  have hz : memPutB m f a x = true := by rw [HB.out]; simp [d0, d1, d2, d3]
  have HZ := Lib.hid hz
  have hf := d1
  have ha := d2
  simp only [btw, decide_eq_true_eq] at hf ha
  obtain ⟨k, rfl⟩ := Int.eq_ofNat_of_zero_le hf.1
  obtain ⟨j, rfl⟩ := Int.eq_ofNat_of_zero_le ha.1
  have hk : k < 12 := by omega
  have hj : j < 4 := by omega
  obtain ⟨ws, hws⟩ : ∃ ws, m[k]? = some ws := ⟨_, List.getElem?_eq_getElem (by rw [memOk_len d0]; exact hk)⟩
  have hwl := wordsOk_len (memOk_all d0 (List.mem_of_getElem? hws))
  have HSUM := Lib.hid (memOk_sum d0)
  have HPL := Lib.hid (show memPutL m k j x = m.set k (ws.set j x) by simp only [memPutL, hz, if_true, rowAt_eq hws]; rfl)
  have HWS := Lib.hid hws
  have HWL := Lib.hid hwl
  have C0 := Lib.hid d0
  have C1 := Lib.hid d1
  have C2 := Lib.hid d2
  have C3 := Lib.hid d3
  clear d0 d1 d2 d3 hf ha hz hws hwl HL
  go_enter Tryd.func33, Tryd.ntmps33
  go_wp2_with fail
  refine (implMemoryValid_c m v _ (HM.out.below (bref _))).mono ?_
  rintro e v0 ⟨rfl, hb0⟩
  rw [C0.out]
  go_wp2_with fail
  refine (isFrame_c k _).mono ?_
  rintro e v1 ⟨rfl, rfl⟩
  rw [C1.out]
  go_wp2_with fail
  refine (isPlace_c j _).mono ?_
  rintro e v2 ⟨rfl, rfl⟩
  rw [C2.out]
  go_wp2_with fail
  refine (isWord_c x _).mono ?_
  rintro e v3 ⟨rfl, rfl⟩
  rw [C3.out]
  go_wp2_with fail
  refine (ownWords_c m v _ (HM.out.below hb0) HSUM.out).mono ?_
  rintro e v9 ⟨u, rfl, ho, hb9⟩
  obtain ⟨ss, h9⟩ := ((Bun.refl w none).call hb0).addN neSl ho hb9
  have H9 := Lib.hid h9
  clear h9 ho hb9
  have hlen := (show InO encI 1 3 0 v9.heap.size v9 ss m from H9.out.get 1 rfl).len
  obtain ⟨s, hs⟩ : ∃ s, ss[k]? = some s := ⟨_, List.getElem?_eq_getElem (by rw [hlen]; exact (List.getElem?_eq_some_iff.1 HWS.out).1)⟩
  obtain ⟨G, C, rfl, g1, g2, g3, g4, g5, g6⟩ := H9.out.at 0 rfl encL_len hs
  have d0 := g6 0 _ rfl
  obtain ⟨g, c, rfl, i1, i2, i3, i4, i5⟩ := H9.out.inner (i := 1) rfl hs HWS.out (by intro h; have := HWL.out; rw [h] at this; simp at this)
  simp only [Nat.mul_one, Nat.add_zero, slv] at d0
  obtain ⟨z, hz⟩ : ∃ z, ws[j]? = some z := ⟨_, List.getElem?_eq_getElem (by have := HWL.out; omega)⟩
  have e0 := i5 j z hz
  have f0 := i4 j
  have H10 := Lib.hid (((H9.out.front 1 rfl).storeRow hs HWS.out (show j < ws.length by have := HWL.out; omega) x).front 1 rfl)
  rw [HWL.out] at i1 d0
  unfold maxLen at g3 i2
  have HSL := Lib.hid hlen
  obtain ⟨n, hn⟩ : ∃ n, n = ss.length := ⟨_, rfl⟩
  rw [← hn] at g1 g2 H10 ⊢
  clear g5 g6 i4 i5 hz hs hlen H9 hn
  go_wp2
  go_ret2
  rw [HZ.out, HPL.out]
  exact ⟨_, rfl, H10.out.owN 0 1 rfl rfl, H10.out.below⟩

theorem Bun.clearRow {w0 w : World} {row : Option Nat} {rs : List Res} {ss : List Sl} {xss : List (List Int)} {k g c : Nat} {ws : List Int} (h : Bun w0 row w (rowsI ss xss :: rs)) (hs : ss[k]? = some (some ⟨g, 0, none⟩, 4, c)) (hw : xss[k]? = some ws) (hl : ws.length = 4) :
    Bun w0 row (w.setCells g 0 (List.replicate 4 (.int .i64 0))) (rowsI ss (xss.set k [0, 0, 0, 0]) :: rs) := by
  have hk : k < xss.length := (List.getElem?_eq_some_iff.1 hw).1
  have h0 := h.storeRow hs hw (j := 0) (by omega) 0
  have h1 := h0.storeRow hs (ws := ws.set 0 0) (by simp [hk]) (j := 1) (by simp; omega) 0
  have h2 := h1.storeRow hs (ws := (ws.set 0 0).set 1 0) (by simp [hk]) (j := 2) (by simp; omega) 0
  have h3 := h2.storeRow hs (ws := ((ws.set 0 0).set 1 0).set 2 0) (by simp [hk]) (j := 3) (by simp; omega) 0
  match ws, hl with
  | [a, b, c, d], _ =>
    simp only [List.set_set, List.set] at h3
    exact h3

theorem zeroInt (w : World) : (zeroValue 3).run Tryd.prog w = .ok (.int .i64 0) w := by kernel_rfl

set_option maxHeartbeats 4000000 in
theorem implMemoryClear_c (m : List (List Int)) (v : Value) (f : Int) (w : World) (hm : RdII w v m) : Calls Tryd.prog 27 #[v, .int .i64 f] w fun e w' =>
    ∃ u, e = .returned (.tuple #[u, .bool (memClrB m f)]) ∧ OwII w.heap.size w'.heap.size w' u (memClrL m f) ∧ Below w.heap.size w w' := by
  have HM := Lib.hid hm
  have HB := Lib.hid (show memClrB m f = (memOk m && btw 0 f 11) from rfl)
  have HL := Lib.hid (fun h => show memClrL m f = [] by unfold memClrL; rw [show memClrB m f = false from h]; rfl)
  have HNIL := Lib.hid (fun W : World => (⟨[], OwF.nil _ _ _, InO.empty _ _ _⟩ : OwII w.heap.size W.heap.size W (.slice none 0 0) []))
  clear hm
  cases d0 : memOk m
  · have C0 := Lib.hid d0
    clear d0
    go_enter Tryd.func27, Tryd.ntmps27
    go_wp2_with fail
    refine (implMemoryValid_c m v _ (HM.out.below (bref _))).mono ?_
    rintro e v0 ⟨rfl, hb0⟩
    rw [C0.out]
    go_wp2
    go_ret2
    have hz : memClrB m f = false := by rw [HB.out]; simp [C0.out]
    rw [hz, HL.out hz]
    exact ⟨_, rfl, HNIL.out _, hb0⟩
  cases d1 : btw 0 f 11
  · have C0 := Lib.hid d0
    have C1 := Lib.hid d1
    clear d0 d1
    go_enter Tryd.func27, Tryd.ntmps27
    go_wp2_with fail
    refine (implMemoryValid_c m v _ (HM.out.below (bref _))).mono ?_
    rintro e v0 ⟨rfl, hb0⟩
    rw [C0.out]
    go_wp2_with fail
    refine (isFrame_c f _).mono ?_
    rintro e v1 ⟨rfl, rfl⟩
    rw [C1.out]
    go_wp2
    go_ret2
    have hz : memClrB m f = false := by rw [HB.out]; simp [C0.out, C1.out]
    rw [hz, HL.out hz]
    exact ⟨_, rfl, HNIL.out _, hb0⟩
  have hz : memClrB m f = true := by rw [HB.out]; simp [d0, d1]
  have HZ := Lib.hid hz
  have hf := d1
  simp only [btw, decide_eq_true_eq] at hf
  obtain ⟨k, rfl⟩ := Int.eq_ofNat_of_zero_le hf.1
  have hk : k < 12 := by omega
  obtain ⟨ws, hws⟩ : ∃ ws, m[k]? = some ws := ⟨_, List.getElem?_eq_getElem (by rw [memOk_len d0]; exact hk)⟩
  have hwl := wordsOk_len (memOk_all d0 (List.mem_of_getElem? hws))
  have HSUM := Lib.hid (memOk_sum d0)
  have HPL := Lib.hid (show memClrL m k = m.set k [0, 0, 0, 0] by simp only [memClrL, hz, if_true, clearM]; rfl)
  have HWS := Lib.hid hws
  have HWL := Lib.hid hwl
  have C0 := Lib.hid d0
  have C1 := Lib.hid d1
  clear d0 d1 hf hz hws hwl HL
  go_enter Tryd.func27, Tryd.ntmps27
  go_wp2_with fail
  refine (implMemoryValid_c m v _ (HM.out.below (bref _))).mono ?_
  rintro e v0 ⟨rfl, hb0⟩
  rw [C0.out]
  go_wp2_with fail
  refine (isFrame_c k _).mono ?_
  rintro e v1 ⟨rfl, rfl⟩
  rw [C1.out]
  go_wp2_with fail
  refine (ownWords_c m v _ (HM.out.below hb0) HSUM.out).mono ?_
  rintro e v9 ⟨u, rfl, ho, hb9⟩
  obtain ⟨ss, h9⟩ := ((Bun.refl w none).call hb0).addN neSl ho hb9
  have H9 := Lib.hid h9
  clear h9 ho hb9
  have hlen := (show InO encI 1 3 0 v9.heap.size v9 ss m from H9.out.get 1 rfl).len
  obtain ⟨s, hs⟩ : ∃ s, ss[k]? = some s := ⟨_, List.getElem?_eq_getElem (by rw [hlen]; exact (List.getElem?_eq_some_iff.1 HWS.out).1)⟩
  obtain ⟨G, C, rfl, g1, g2, g3, g4, g5, g6⟩ := H9.out.at 0 rfl encL_len hs
  have d0 := g6 0 _ rfl
  obtain ⟨g, c, rfl, i1, i2, i3, i4, i5⟩ := H9.out.inner (i := 1) rfl hs HWS.out (by intro h; have := HWL.out; rw [h] at this; simp at this)
  simp only [Nat.mul_one, Nat.add_zero, slv] at d0
  rw [HWL.out] at i1 d0 hs
  have H10 := Lib.hid ((((H9.out.front 1 rfl).clearRow hs HWS.out HWL.out).front 1 rfl))
  have hcl : ∀ ty, (Builtin.clear_ #[27] ty #[.slice (some ⟨g, 0, none⟩) 4 c]).run Tryd.prog v9 = .ok (.tuple #[]) (v9.setCells g 0 (List.replicate 4 (.int .i64 0))) :=
    fun ty => Lib.run_clear_slice v9 _ _ ty _ Tryd.underlying27 zeroInt rfl rfl g 0 4 c (by omega)
      (fun j hj => by
        obtain ⟨z, hz⟩ : ∃ z, ws[j]? = some z := ⟨_, List.getElem?_eq_getElem (by have := HWL.out; omega)⟩
        rw [Nat.zero_add, i5 j z hz]; rfl)
      (fun j hj => by rw [Nat.zero_add]; exact i4 j)
  unfold maxLen at g3 i2
  obtain ⟨n, hn⟩ : ∃ n, n = ss.length := ⟨_, rfl⟩
  rw [← hn] at g1 g2 H10 ⊢
  clear g5 g6 i4 i5 hs hlen H9 hn
  go_wp2_with (simp only [hcl])
  go_ret2
  rw [HZ.out, HPL.out]
  exact ⟨_, rfl, H10.out.owN 0 1 rfl rfl, H10.out.below⟩
end Go.Proofs.YtklphfmjdgnpnaaDoor
