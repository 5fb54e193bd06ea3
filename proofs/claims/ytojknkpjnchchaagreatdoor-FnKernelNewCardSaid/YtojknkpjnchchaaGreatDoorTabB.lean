/- Contracts of the reference's functions on tables. No conditions but the readings of the arguments and the sizes of the texts. -/
import Derived.Test.YtojknkpjnchchaaGreatDoorTabA
import Derived.Test.YtojknkpjnchchaaGreatDoorTabP
import Derived.Test.YtojknkpjnchchaaGreatDoorRightD
namespace Go.Proofs.YtojknkpjnchchaaGreatDoor
open Go.ChangeShapes Go.WideShapes Go.RowKit
set_option linter.all false
set_option maxRecDepth 100000
attribute [local go_sem ↓] Go.wp_at_zero Go.wp_at_succ

theorem wGood_no {xs : List Info} {f kind x : Int} {rs : List Txt} (h : entB x = false) : wGood xs f kind rs x = (x == 0) := by
  unfold wGood; rw [h]; simp only [Bool.false_eq_true, if_false]; by_cases h0 : x = 0 <;> simp [h0]
theorem wGood_yes {xs : List Info} {f kind x : Int} {rs : List Txt} {k : Nat} {m : Info} (h : entB x = true) (hk : x / 4 = (k : Int)) (hm : xs[k]? = some m) : wGood xs f kind rs x = (!((k : Int) == f) && ((m.kd == needK kind) && mayB rs m.gd)) := by
  unfold wGood; rw [if_pos h, hk, infAt_eq hm]
  by_cases h1 : (k : Int) = f <;> by_cases h2 : m.kd = needK kind <;> simp [h1, h2]

set_option maxHeartbeats 2000000 in
theorem l13Entry_c (xs : List Info) (v : Value) (f x kind : Int) (rs : List Txt) (v2 : Value) (w : World) (hx : RdF w v xs) (hl : xs.length = 12) (hff : fitF xs) (hr : RdS w v2 rs) (hfr : fitS rs) (hxr : 0 ≤ x ∧ x ≤ 9999) (hk : tabK kind = true) :
    Calls Tryz.prog 132 #[v, .int .i64 f, .int .i64 x, .int .i64 kind, v2] w fun e w' => e = .returned (.bool (wGood xs f kind rs x)) ∧ w = w' := by
  have hxr0 := hxr.1
  have hxr1 := hxr.2
  have HR := Lib.hid hr
  have HN := Lib.hid (show needK kind = kind - 1 by simp [needK, hk])
  have hkb : 2 ≤ kind ∧ kind ≤ 3 := by rw [tabK_iff] at hk; omega
  have HFR := Lib.hid hfr
  clear hr hfr hk
  cases he : entB x
  · have HE := Lib.hid he
    have HG := Lib.hid (wGood_no (xs := xs) (f := f) (kind := kind) (rs := rs) he)
    clear he
    go_enter Tryz.func132, Tryz.ntmps132
    go_wp2_with fail
    refine (specEntryGet_c x _ hxr).mono ?_
    rintro e w1 ⟨rfl, rfl⟩
    rw [HE.out]
    go_wp2
    go_ret
    exact ⟨ret_bool HG.out.symm, rfl⟩
  have hlt := ent_lt he
  obtain ⟨k, hkk⟩ := Int.eq_ofNat_of_zero_le hlt.1
  obtain ⟨m, hm⟩ : ∃ m, xs[k]? = some m := ⟨_, List.getElem?_eq_getElem (by omega)⟩
  have HE := Lib.hid he
  have HI := Lib.hid (show entI x = (k : Int) by simp [entI, he]; exact hkk)
  have HG := Lib.hid (wGood_yes (f := f) (kind := kind) (rs := rs) he hkk hm)
  have hk12 : k < 12 := by omega
  obtain ⟨a, c, rfl, t1, t2, -, t3⟩ := hx
  obtain ⟨b, o, rfl, hbl, hc⟩ := t3 k m hm
  have c0 := hc 0 _ rfl
  have c1 := hc 1 _ rfl
  simp only [Nat.add_zero] at c0
  have hml := hff m (List.mem_of_getElem? hm)
  unfold maxLen at t2
  rw [hl] at t1 ⊢
  clear he hlt hkk hm t3 hc hff hl
  by_cases h1 : (k : Int) = f
  · have h1b : ((k : Int) != f) = false := by simp [h1]
    have h1c : ((k : Int) == f) = true := beq_iff_eq.2 h1
    clear h1
    go_enter Tryz.func132, Tryz.ntmps132
    go_wp2_with fail
    refine (specEntryGet_c x _ hxr).mono ?_
    rintro e w1 ⟨rfl, rfl⟩
    rw [HE.out, HI.out]
    go_wp2
    go_ret
    exact ⟨ret_bool (by rw [HG.out, h1c]; rfl), rfl⟩
  have h1b : ((k : Int) != f) = true := bne_iff_ne.2 h1
  have h1c : ((k : Int) == f) = false := beq_eq_false_iff_ne.2 h1
  clear h1
  by_cases h2 : m.kd = kind - 1
  · have h2b : (m.kd == kind - 1) = true := beq_iff_eq.2 h2
    clear h2
    go_enter Tryz.func132, Tryz.ntmps132
    go_wp2_with fail
    refine (specEntryGet_c x _ hxr).mono ?_
    rintro e w1 ⟨rfl, rfl⟩
    rw [HE.out, HI.out]
    go_wp2_with fail
    refine (l11May_c rs v2 m.gd _ HR.out HFR.out hml).mono ?_
    rintro e w2 ⟨rfl, rfl⟩
    go_wp2
    go_ret
    exact ⟨ret_bool (by rw [HG.out, h1c, HN.out, h2b]; simp), rfl⟩
  · have h2b : (m.kd == kind - 1) = false := beq_eq_false_iff_ne.2 h2
    clear h2
    go_enter Tryz.func132, Tryz.ntmps132
    go_wp2_with fail
    refine (specEntryGet_c x _ hxr).mono ?_
    rintro e w1 ⟨rfl, rfl⟩
    rw [HE.out, HI.out]
    go_wp2
    go_ret
    exact ⟨ret_bool (by rw [HG.out, h1c, HN.out, h2b]; rfl), rfl⟩

theorem all_take {α : Type} {p : α → Bool} {xs : List α} {k : Nat} {x : α} (hx : xs[k]? = some x) (h : p x = false) : xs.all p = false := by
  rw [List.all_eq_false]; exact ⟨x, List.mem_of_getElem? hx, by simp [h]⟩

/-- A row of a memory that can be read, in its slice's words. -/
theorem RdN.rowOf {w : World} {v : Value} {m : List (List Int)} (h : RdII w v m) {k : Nat} {ws : List Int} (hk : m[k]? = some ws) : ∃ (a : Addr) (c : Nat) (s : Sl), v = .slice (some a) m.length c ∧ m.length ≤ c ∧ c ≤ maxLen ∧ k < m.length ∧ a.block < w.heap.size ∧ a.spot = none ∧ w.cell? ⟨a.block, a.off + k, none⟩ = some (slv s) ∧ RdI w (slv s) ws := by
  obtain ⟨rows, ⟨a, c, rfl, h1, h2, -, h3⟩, hin⟩ := h
  obtain ⟨s, hs, hr⟩ := hin.get hk
  obtain ⟨b, o, rfl, hbl, hc⟩ := h3 k s hs
  have := hc 0 _ rfl
  simp only [Nat.mul_one, Nat.add_zero] at this
  exact ⟨⟨b, o, none⟩, c, s, by rw [hin.1], by rw [← hin.1]; exact h1, h2, (List.getElem?_eq_some_iff.1 hk).1, hbl, rfl, this, hr⟩

set_option maxHeartbeats 2000000 in
theorem l13Ok_c (m : List (List Int)) (xs : List Info) (v v2 v3 : Value) (f kind : Int) (rs : List Txt) (w : World) (hm : RdII w v m) (hx : RdF w v2 xs) (hff : fitF xs) (hr : RdS w v3 rs) (hfr : fitS rs) (ha : argB m xs f = true) (hk : tabK kind = true) :
    Calls Tryz.prog 89 #[v, v2, .int .i64 f, .int .i64 kind, v3] w fun e w' => e = .returned (.bool (goodB m xs f kind rs)) ∧ w = w' := by
  obtain ⟨hmo, hxo, kf, rfl, hkf, ⟨ws, hws, hwo, hwl, hrow⟩, -⟩ := arg_parts ha
  have HG := Lib.hid (show goodB m xs (kf : Int) kind rs = ws.all (wGood xs (kf : Int) kind rs) by unfold goodB; rw [hrow])
  have HW := Lib.hid (fun x hx => words_in hwo (x := x) hx)
  obtain ⟨ad, c, s, rfl, s1, s2, s3, s4, s5, s6, hrd⟩ := RdN.rowOf hm hws
  obtain ⟨b, o, sp⟩ := ad
  simp only at s5 s4 s6
  subst s5
  obtain ⟨ar, cr, hsv, r1, r2, -, r3⟩ := hrd
  rw [hsv] at s6
  have H3 := Lib.hid r3
  have HWL := Lib.hid hwl
  have HX := Lib.hid hx
  have HR := Lib.hid hr
  have HL := Lib.hid (show xs.length = 12 by simp [infosOk] at hxo; exact hxo.1)
  have hml := memOk_len hmo
  rw [hml] at s1 s3 ⊢
  rw [hwl] at r1 s6
  unfold maxLen at s2 r2
  clear hm hx hr ha hmo hxo hws hwo hrow hsv r3 hml hwl
  go_enter Tryz.func89, Tryz.ntmps89
  go_wp2
  go_loop [11] (fun i => ∃ k : Nat, k ≤ 4 ∧ i = .int .i64 k ∧ Hid ((ws.take k).all (wGood xs (kf : Int) kind rs) = true)) (fun i => 4 - (intOf i).toNat)
  case atStart => exact ⟨0, Nat.zero_le _, rfl, by simp [Hid]⟩
  case round =>
    obtain ⟨k, hk4, rfl, hal⟩ := hrel
    by_cases hlt : k < 4
    · obtain ⟨x, hx⟩ : ∃ x, ws[k]? = some x := ⟨_, List.getElem?_eq_getElem (by have := HWL.out; omega)⟩
      obtain ⟨b', o', rfl, hbl', hc⟩ := H3.out k x hx
      have d0 := hc 0 _ rfl
      simp only [Nat.mul_one, Nat.add_zero] at d0
      have hxr := HW.out x (List.mem_of_getElem? hx)
      have HXK := Lib.hid hx
      clear hx hc
      go_wp2_with fail
      refine (l13Entry_c xs v2 kf x kind rs v3 _ HX.out HL.out hff HR.out hfr hxr hk).mono ?_
      rintro e w1 ⟨rfl, rfl⟩
      cases hv : wGood xs (kf : Int) kind rs x
      · have HV := Lib.hid hv
        clear hv
        go_wp2
        go_ret
        exact ⟨ret_bool (by rw [HG.out]; exact (all_take HXK.out HV.out).symm), rfl⟩
      · have HV := Lib.hid hv
        clear hv
        go_wp2
        go_round
        case rel => exact ⟨k + 1, by omega, by go_num, all_take_succ HXK.out hal.out HV.out⟩
        case measure => simp [intOf]; omega
    · go_wp2
      go_ret
      exact ⟨ret_bool (by rw [HG.out]; have h := hal.out; rw [List.take_of_length_le (by have := HWL.out; omega)] at h; exact h.symm), rfl⟩

end Go.Proofs.YtojknkpjnchchaaGreatDoor
