/- Contracts of the functions that store words in a swap. No conditions but the readings of the arguments. -/
import Derived.Test.YtppbhlocnccpnaaSwapH
import Derived.Test.YtppbhlocnccpnaaBun
namespace Go.Proofs.Ytppbhlocnccpnaa
open Go.ChangeShapes Go.WideShapes Go.RowKit
set_option linter.all false
attribute [local go_sem ↓] Go.wp_at_zero Go.wp_at_succ

abbrev rowS (v : Value) (ss : List Sl) : Res := Res.row encL 1 29 v ss
abbrev rowI (v : Value) (xs : List Int) : Res := Res.row encI 1 3 v xs
abbrev rowsI (ss : List Sl) (xss : List (List Int)) : Res := Res.rows encI 1 3 ss xss

theorem idx_found {α : Type} {p : α → Bool} {xs : List α} (h : xs.any p = true) : ∃ (k : Nat) (x : α), idxOf p xs = (k : Int) ∧ xs[k]? = some x ∧ p x = true ∧ (xs.take k).any p = false := by
  have hlt : xs.findIdx p < xs.length := List.findIdx_lt_length.2 (by simpa using h)
  refine ⟨xs.findIdx p, xs[xs.findIdx p], by unfold idxOf; rw [if_pos h], List.getElem?_eq_getElem hlt, List.findIdx_getElem, ?_⟩
  rw [List.any_eq_false]
  intro x hx
  obtain ⟨i, hi, rfl⟩ := List.mem_take_iff_getElem.1 hx
  have := List.not_of_lt_findIdx (p := p) (xs := xs) (i := i) (by omega)
  simpa using this

/-- A place is free. -/
def isFree (xs : List Int) : Bool := decide (xs.length = 0)
def freeI (xss : List (List Int)) : Int := idxOf isFree xss
def putAt (xss : List (List Int)) (ys : List Int) : List (List Int) := if xss.any isFree then xss.set (freeI xss).toNat ys else xss
def putB (xss : List (List Int)) (ys : List Int) : Bool := swapOk xss && wordsOk ys && xss.any isFree
def putI (xss : List (List Int)) (ys : List Int) : Int := if putB xss ys then freeI xss else 0
def putL (xss : List (List Int)) (ys : List Int) : List (List Int) := if putB xss ys then putAt xss ys else []

theorem freeRow_c (xs : List Int) (v : Value) (w : World) (hx : RdI w v xs) : Calls Try.prog 57 #[v] w fun e w' => e = .returned (.bool (isFree xs)) ∧ Below w.heap.size w w' := by
  obtain ⟨a, c, rfl, h1, h2, -, -⟩ := hx
  unfold maxLen at h2
  have HF := Lib.hid (show isFree xs = ((xs.length : Int) == 0) by unfold isFree; by_cases h : xs.length = 0 <;> simp [h])
  go_enter Try.func57, Try.ntmps57
  go_wp2
  go_ret
  exact ⟨ret_bool HF.out.symm, bref _⟩

theorem swapPut_b {w0 : World} {row : Option Nat} {rs : List Res} (xss : List (List Int)) (ys : List Int) (u v2 : Value) (ss : List Sl) (w : World) (H : Bun w0 row w (rowS u ss :: rowsI ss xss :: rs)) (hy : RdI w v2 ys) (hl : ys.length ≤ 2000000) :
    Calls Try.prog 48 #[u, v2] w fun e w' => ∃ ss', e = .returned (.int .i64 (freeI xss)) ∧ Bun w0 row w' (rowS u ss' :: rowsI ss' (putAt xss ys) :: rs) := by
  have HH := Lib.hid H
  have HY := Lib.hid hy
  have hrd := H.rd 0 rfl encL_len
  have hin : InR encI 1 w ss xss := InO.rd encI_len (H.get 1 rfl)
  have hlen := hin.1
  have hp : ∀ (k : Nat) (m : Sl) (p : Bool) W, ss[k]? = some m → (xss.map isFree)[k]? = some p → Below w.heap.size w W → Calls Try.prog 57 (#[slv m] ++ #[]) W fun e W' => e = .returned (.bool p) ∧ Below W.heap.size W W' := by
    intro k m p W hm hp hb
    obtain ⟨xs, hxs⟩ : ∃ xs, xss[k]? = some xs := ⟨_, List.getElem?_eq_getElem (by rw [← hlen]; exact (List.getElem?_eq_some_iff.1 hm).1)⟩
    have := get_map hxs hp
    subst this
    exact freeRow_c xs (slv m) W ((hin.2 k m xs hm hxs).below hb)
  have HE := enters_of (P := Try.prog) (f := 57) Try.func57 (by kernel_rfl) rfl
  have HC := Lib.hid (idxRow_c 57 #[] (xss.map isFree) ss u w (by rw [List.length_map]; exact hlen.symm) hrd HE hp)
  cases hf : xss.any isFree
  · have HF := Lib.hid (show freeI xss = -1 by simp [freeI, idxOf, hf])
    have HP := Lib.hid (show putAt xss ys = xss by simp [putAt, hf])
    clear H hy hrd hin hlen hp HE hf
    go_enter Try.func48, Try.ntmps48
    go_wp2_with fail
    refine HC.out.mono ?_
    rintro e w1 ⟨rfl, hb1⟩
    rw [idxOf_map, show idxOf isFree xss = freeI xss from rfl, HF.out]
    have H1 := Lib.hid (HH.out.call hb1)
    go_wp2
    go_ret
    exact ⟨ss, ret_int HF.out.symm, by rw [HP.out]; exact H1.out⟩
  · obtain ⟨k, x, hk, hx, -, -⟩ := idx_found hf
    have HF := Lib.hid (show freeI xss = (k : Int) from hk)
    have HP := Lib.hid (show putAt xss ys = xss.set k ys by simp [putAt, hf, HF.out])
    have hkl : k < ss.length := by rw [hlen]; exact (List.getElem?_eq_some_iff.1 hx).1
    have hrow : OwT encL 1 29 0 w u ss := H.get 0 rfl
    obtain ⟨g, c, hu⟩ : ∃ g c, u = .slice (some ⟨g, 0, none⟩) ss.length c := by
      rcases hrow.2 with ⟨-, hz⟩ | ⟨g, c, cur, hu, -⟩
      · omega
      · exact ⟨g, c, hu⟩
    subst hu
    obtain ⟨n, hn⟩ : ∃ n, n = ss.length := ⟨_, rfl⟩
    rw [← hn] at HH HC hkl ⊢
    clear H hy hrd hin hlen hp HE hf hk hx hrow hn
    go_enter Try.func48, Try.ntmps48
    go_wp2_with fail
    refine HC.out.mono ?_
    rintro e w1 ⟨rfl, hb1⟩
    rw [idxOf_map, show idxOf isFree xss = freeI xss from rfl, HF.out]
    have H1 := Lib.hid (HH.out.call hb1)
    go_wp2_with fail
    refine (cloneInt_c ys v2 _ (HY.out.below hb1) hl).mono ?_
    rintro e w2 ⟨v, rfl, ho, hb2⟩
    obtain ⟨⟨sa, sn, sc⟩, rfl⟩ := (ho.rd encI_len).sl
    have H2 := H1.out.addT ho hb2
    obtain ⟨-, -, -, hnc, hcm, hfz, hcs⟩ := OwT.open encL_len (H2.get 1 rfl : OwT encL 1 29 0 w2 (.slice (some ⟨g, 0, none⟩) n c) ss)
    have hn2 : n = ss.length := (OwT.open encL_len (H2.get 1 rfl : OwT encL 1 29 0 w2 (.slice (some ⟨g, 0, none⟩) n c) ss)).1
    obtain ⟨z, hz⟩ : ∃ z, ss[k]? = some z := ⟨_, List.getElem?_eq_getElem (by omega)⟩
    have d0 := hcs k z 0 _ hz rfl
    have f0 := hfz k
    simp only [Nat.mul_one, Nat.add_zero] at d0
    have H3 := Lib.hid (H2.putRow hkl)
    unfold maxLen at hcm
    clear hcs hfz hz H2 hn2 ho hb1 hb2
    simp only [slv] at H3 d0 ⊢
    go_wp2
    go_ret
    exact ⟨_, ret_int HF.out.symm, by rw [HP.out]; exact H3.out⟩

theorem put_len {xss : List (List Int)} {ys : List Int} (h : putB xss ys = true) : swapOk xss = true ∧ wordsOk ys = true ∧ xss.any isFree = true := by
  simp only [putB, Bool.and_eq_true] at h; exact ⟨h.1.1, h.1.2, h.2⟩

theorem implSwapPut_c (xss : List (List Int)) (ys : List Int) (v v2 : Value) (w : World) (hx : RdII w v xss) (hy : RdI w v2 ys) :
    Calls Try.prog 31 #[v, v2] w fun e w' => ∃ u, e = .returned (.tuple #[u, .int .i64 (putI xss ys), .bool (putB xss ys)]) ∧ OwII w.heap.size w'.heap.size w' u (putL xss ys) ∧ Below w.heap.size w w' := by
  have HX := Lib.hid hx
  have HY := Lib.hid hy
  have hnil : ∀ W : World, OwII w.heap.size W.heap.size W (.slice none 0 0) [] := fun W => ⟨[], OwF.nil _ _ _, InO.empty _ _ _⟩
  have HN := Lib.hid hnil
  clear hx hy hnil
  cases hv : swapOk xss
  · have HV := Lib.hid hv
    have HB := Lib.hid (show putB xss ys = false by simp [putB, hv])
    have HI := Lib.hid (show putI xss ys = 0 by simp [putI, HB.out])
    have HL := Lib.hid (show putL xss ys = [] by simp [putL, HB.out])
    clear hv
    go_enter Try.func31, Try.ntmps31
    go_wp2_with fail
    refine (implSwapValid_c xss _ _ HX.out).mono ?_
    rintro e w1 ⟨rfl, hb1⟩
    rw [HV.out]
    go_wp2
    go_ret3
    rw [HB.out, HI.out, HL.out]
    exact ⟨_, rfl, HN.out _, hb1⟩
  cases hw : wordsOk ys
  · have HV := Lib.hid hv
    have HW := Lib.hid hw
    have HB := Lib.hid (show putB xss ys = false by simp [putB, hw])
    have HI := Lib.hid (show putI xss ys = 0 by simp [putI, HB.out])
    have HL := Lib.hid (show putL xss ys = [] by simp [putL, HB.out])
    clear hv hw
    go_enter Try.func31, Try.ntmps31
    go_wp2_with fail
    refine (implSwapValid_c xss _ _ HX.out).mono ?_
    rintro e w1 ⟨rfl, hb1⟩
    rw [HV.out]
    go_wp2_with fail
    refine (isWords_c ys _ _ (HY.out.below hb1)).mono ?_
    rintro e w2 ⟨rfl, hb2⟩
    rw [HW.out]
    go_wp2
    go_ret3
    rw [HB.out, HI.out, HL.out]
    exact ⟨_, rfl, HN.out _, bnext hb1 hb2⟩
  have HV := Lib.hid hv
  have HW := Lib.hid hw
  have HSUM := Lib.hid (show (xss.length : Int) + sumLen xss ≤ 2000000 by have := swapOk_sum hv; omega)
  have HYL := Lib.hid (show ys.length ≤ 2000000 by have := wordsOk_len hw; omega)
  cases hf : xss.any isFree
  all_goals
    have HFR := Lib.hid hf
    clear hv hw hf
    go_enter Try.func31, Try.ntmps31
    go_wp2_with fail
    refine (implSwapValid_c xss _ _ HX.out).mono ?_
    rintro e w1 ⟨rfl, hb1⟩
    rw [HV.out]
    go_wp2_with fail
    refine (isWords_c ys _ _ (HY.out.below hb1)).mono ?_
    rintro e w2 ⟨rfl, hb2⟩
    rw [HW.out]
    have hb2' := bnext hb1 hb2
    go_wp2_with fail
    refine (ownWords_c xss _ _ (HX.out.below hb2') HSUM.out).mono ?_
    rintro e w3 ⟨u, rfl, ho, hb3⟩
    obtain ⟨ss, H3⟩ := ((Bun.refl w none).call hb2').addN neSl ho hb3
    clear ho
    go_wp2_with fail
    refine (swapPut_b xss ys u v2 ss _ H3 (HY.out.below (bnext hb2' hb3)) HYL.out).mono ?_
    rintro e w4 ⟨ss', rfl, H4⟩
    have HH := Lib.hid H4
    clear H4 H3 hb1 hb2 hb2' hb3
  · have HF := Lib.hid (show freeI xss = -1 by simp [freeI, idxOf, HFR.out])
    have HB := Lib.hid (show putB xss ys = false by simp [putB, HFR.out])
    have HI := Lib.hid (show putI xss ys = 0 by simp [putI, HB.out])
    have HL := Lib.hid (show putL xss ys = [] by simp [putL, HB.out])
    rw [HF.out]
    go_wp2
    go_ret3
    rw [HB.out, HI.out, HL.out]
    exact ⟨_, rfl, HN.out _, HH.out.below⟩
  · obtain ⟨k, x, hk, hx, -, -⟩ := idx_found HFR.out
    have HF := Lib.hid (show freeI xss = (k : Int) from hk)
    have HB := Lib.hid (show putB xss ys = true by simp [putB, HV.out, HW.out, HFR.out])
    have HI := Lib.hid (show putI xss ys = (k : Int) by simp [putI, HB.out, HF.out])
    have HL := Lib.hid (show putL xss ys = putAt xss ys by simp [putL, HB.out])
    clear hk hx
    rw [HF.out]
    go_wp2
    go_ret3
    rw [HB.out, HI.out, HL.out]
    exact ⟨_, rfl, HH.out.owN 0 1 rfl rfl, HH.out.below⟩
end Go.Proofs.Ytppbhlocnccpnaa
