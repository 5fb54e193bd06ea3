/- Contracts of the program's functions on tables. No conditions but the readings of the arguments and the sizes of the texts. -/
import Derived.Test.YtojknkpjnchchaaGreatDoorTabC
namespace Go.Proofs.YtojknkpjnchchaaGreatDoor
open Go.ChangeShapes Go.WideShapes Go.RowKit
set_option linter.all false
set_option maxRecDepth 100000
attribute [local go_sem ↓] Go.wp_at_zero Go.wp_at_succ

theorem Bun.allocAt {w0 w : World} {row : Option Nat} {rs : List Res} (h : Bun w0 row w rs) (o : Obj) (a : Nat) (ha : a = w.heap.size) : Bun w0 row (w.alloc o) (Res.blk a o :: rs) := by subst ha; exact h.alloc o

theorem implTableNeeds_q (n : Int) (w : World) : Calls Tryz.prog 113 #[.int .i64 n] w fun e w' => e = .returned (.int .i64 (needK n)) ∧ ∃ n, w' = w.drewN n :=
  (implTableNeeds_c n w).mono (by rintro e w' ⟨he, hw⟩; exact ⟨he, 0, hw.symm⟩)

set_option maxHeartbeats 4000000 in
theorem goodFn_c (xs : List Info) (v : Value) (f x kind : Int) (rs : List Txt) (v2 : Value) (b1 b2 b3 b4 : Nat) (w : World) (hx : RdF w v xs) (hl : xs.length = 12) (hff : fitF xs) (hr : RdS w v2 rs) (hfr : fitS rs) (hxr : 0 ≤ x ∧ x ≤ 9999)
    (h1 : w.cell? ⟨b1, 0, none⟩ = some v) (h2 : w.cell? ⟨b2, 0, none⟩ = some (.int .i64 f)) (h3 : w.cell? ⟨b3, 0, none⟩ = some (.int .i64 kind)) (h4 : w.cell? ⟨b4, 0, none⟩ = some v2) :
    Calls Tryz.prog 112 #[.int .i64 x, .pointer (some ⟨b2, 0, none⟩), .pointer (some ⟨b1, 0, none⟩), .pointer (some ⟨b3, 0, none⟩), .pointer (some ⟨b4, 0, none⟩)] w fun e w' => e = .returned (.bool (!wGood xs f kind rs x)) ∧ Below w.heap.size w w' := by
  have hxr0 := hxr.1
  have hxr1 := hxr.2
  have HR := Lib.hid hr
  have HFR := Lib.hid hfr
  clear hr hfr
  cases he : entB x
  · have HE := Lib.hid he
    have HG := Lib.hid (wGood_no (xs := xs) (f := f) (kind := kind) (rs := rs) he)
    clear he
    by_cases hz : x = 0
    all_goals
      have HZ := Lib.hid hz
      first
      | have hzb : (x != 0) = true := bne_iff_ne.2 hz
      | have hzb : (x != 0) = false := by simp [hz]
      first
      | have hzc : (x == 0) = false := beq_eq_false_iff_ne.2 hz
      | have hzc : (x == 0) = true := beq_iff_eq.2 hz
      clear hz
      go_enter Tryz.func112, Tryz.ntmps112
      go_wp2_with fail
      refine (implEntryGet_c x _ hxr).mono ?_
      rintro e w1 ⟨rfl, rfl⟩
      rw [HE.out]
      go_wp2
      go_quiet (fail)
      go_wp2
      go_ret
      exact ⟨ret_bool (by have := HZ.out; rw [HG.out]; simp [this]), below_drewN (bref _) _⟩
  have hlt := ent_lt he
  obtain ⟨k, hkk⟩ := Int.eq_ofNat_of_zero_le hlt.1
  obtain ⟨m, hm⟩ : ∃ m, xs[k]? = some m := ⟨_, List.getElem?_eq_getElem (by omega)⟩
  have hz : (x != 0) = true := by rw [bne_iff_ne]; rw [entB_iff] at he; omega
  have hz2 : (x == 0) = false := by rw [beq_eq_false_iff_ne]; rw [entB_iff] at he; omega
  have HE := Lib.hid he
  have HI := Lib.hid (show entI x = (k : Int) by simp [entI, he]; exact hkk)
  have HG := Lib.hid (wGood_yes (f := f) (kind := kind) (rs := rs) he hkk hm)
  have hk12 : k < 12 := by omega
  have hki : (0 : Int) ≤ (k : Int) := by omega
  have hkj : (k : Int) < 12 := by omega
  obtain ⟨a, c, rfl, t1, t2, -, t3⟩ := hx
  obtain ⟨b, o, rfl, hbl, hc⟩ := t3 k m hm
  have c0 := hc 0 _ rfl
  have c1 := hc 1 _ rfl
  simp only [Nat.add_zero] at c0
  have hml := hff m (List.mem_of_getElem? hm)
  unfold maxLen at t2
  rw [hl] at t1 h1
  clear he hlt hkk hm t3 hc hff hl
  by_cases e1 : (k : Int) = f
  · have e1b : ((k : Int) == f) = true := beq_iff_eq.2 e1
    clear e1
    go_enter Tryz.func112, Tryz.ntmps112
    go_wp2_with fail
    refine (implEntryGet_c x _ hxr).mono ?_
    rintro e w1 ⟨rfl, rfl⟩
    rw [HE.out, HI.out]
    go_wp2
    go_quiet (fail)
    go_wp2
    go_ret
    exact ⟨ret_bool (by rw [HG.out, e1b]; rfl), below_drewN (bref _) _⟩
  have e1b : ((k : Int) == f) = false := beq_eq_false_iff_ne.2 e1
  clear e1
  by_cases e2 : m.kd = needK kind
  · have e2b : (m.kd == needK kind) = true := beq_iff_eq.2 e2
    have e2n : (m.kd != needK kind) = false := by simp [e2]
    clear e2
    go_enter Tryz.func112, Tryz.ntmps112
    go_wp2_with fail
    refine (implEntryGet_c x _ hxr).mono ?_
    rintro e w1 ⟨rfl, rfl⟩
    rw [HE.out, HI.out]
    have l1 := World.block_lt_of_cell? w _ h1
    have l2 := World.block_lt_of_cell? w _ h2
    have l3 := World.block_lt_of_cell? w _ h3
    have l4 := World.block_lt_of_cell? w _ h4
    go_wp2
    go_region_held3 (fun w' => w'.cell? ⟨b1, 0, none⟩ = some (.slice (some ⟨b, o, none⟩) 12 c) ∧ w'.cell? ⟨b2, 0, none⟩ = some (.int .i64 f) ∧ w'.cell? ⟨b3, 0, none⟩ = some (.int .i64 kind) ∧ w'.cell? ⟨b4, 0, none⟩ = some v2 ∧ w'.cell? ⟨b, o + k * 3, none⟩ = some (.int .i64 m.kd) ∧ w'.cell? ⟨b, o + k * 3 + 1, none⟩ = some (tv m.gd)) (first | go_keep | exact ⟨z1, z2, z3, z4, z5, z6⟩ | fail)
      (first
       | (go_at_call 113; refine (implTableNeeds_c kind _).mono ?_; rintro e w2 ⟨rfl, rfl⟩)
       | (go_at_call 108; refine (may_c rs v2 m.gd _ (HR.out.below (bref w).drew)).mono ?_; rintro e w3 ⟨rfl, hb3⟩; have z1 := (hb3.cell (p := ⟨b1, 0, none⟩) l1).trans h1; have z2 := (hb3.cell (p := ⟨b2, 0, none⟩) l2).trans h2; have z3 := (hb3.cell (p := ⟨b3, 0, none⟩) l3).trans h3; have z4 := (hb3.cell (p := ⟨b4, 0, none⟩) l4).trans h4; have z5 := (hb3.cell (p := ⟨b, o + k * 3, none⟩) hbl).trans c0; have z6 := (hb3.cell (p := ⟨b, o + k * 3 + 1, none⟩) hbl).trans c1))
    all_goals
      have hb4 := bdrew (bref w) hb3
      go_wp2
      go_ret
      exact ⟨ret_bool (by rw [HG.out, e1b, e2b]; simp), hb4⟩
  · have e2b : (m.kd == needK kind) = false := beq_eq_false_iff_ne.2 e2
    have e2n : (m.kd != needK kind) = true := bne_iff_ne.2 e2
    clear e2
    go_enter Tryz.func112, Tryz.ntmps112
    go_wp2_with fail
    refine (implEntryGet_c x _ hxr).mono ?_
    rintro e w1 ⟨rfl, rfl⟩
    rw [HE.out, HI.out]
    go_wp2
    go_quiet (exact Calls.quiet_of (implTableNeeds_q kind _))
    go_wp2
    go_ret
    exact ⟨ret_bool (by rw [HG.out, e1b, e2b]; rfl), below_drewN (bref _) _⟩

set_option maxHeartbeats 4000000 in
theorem good_c (m : List (List Int)) (xs : List Info) (v v2 v3 : Value) (f kind : Int) (rs : List Txt) (w : World) (hm : RdII w v m) (hx : RdF w v2 xs) (hff : fitF xs) (hr : RdS w v3 rs) (hfr : fitS rs) (ha : argB m xs f = true) :
    Calls Tryz.prog 50 #[v, v2, .int .i64 f, .int .i64 kind, v3] w fun e w' => e = .returned (.bool (goodB m xs f kind rs)) ∧ Below w.heap.size w w' := by
  obtain ⟨hmo, hxo, kf, rfl, hkf, ⟨ws, hws, hwo, hwl, hrow⟩, -⟩ := arg_parts ha
  have hxl : xs.length = 12 := by simp [infosOk] at hxo; exact hxo.1
  have hx' := hx
  have hr' := hr
  obtain ⟨ax, cx, hvx, -, -, -, -⟩ := hx'
  obtain ⟨ay, cy, hvy, -, -, -, -⟩ := hr'
  subst hvx
  subst hvy
  have hbun := ((((Bun.refl w none).allocAt (.cells #[.slice ax xs.length cx] 30) w.heap.size rfl).allocAt (.cells #[.int .i64 kf] 3) (w.heap.size + 1) (by simp)).allocAt (.cells #[.int .i64 kind] 3) (w.heap.size + 1 + 1) (by simp)).allocAt (.cells #[.slice ay rs.length cy] 53) (w.heap.size + 1 + 1 + 1) (by simp)
  have hbel := hbun.below
  obtain ⟨ad, c, s, rfl, s1, s2, s3, s4, s5, s6, hrd⟩ := RdN.rowOf hm hws
  obtain ⟨b, o, sp⟩ := ad
  simp only at s5 s4 s6
  subst s5
  have hrd2 := hrd.below hbel
  obtain ⟨ar, cr, hsv, r1, r2, -, r3⟩ := hrd
  rw [hsv] at s6 hrd2
  have s7 := (hbel.cell (p := ⟨b, o + kf, none⟩) s4).trans s6
  have hp : ∀ (k : Nat) (x : Int) (p : Bool) W, ws[k]? = some x → (ws.map fun x => !wGood xs (kf : Int) kind rs x)[k]? = some p → Below ((((w.alloc (.cells #[.slice ax xs.length cx] 30)).alloc (.cells #[.int .i64 kf] 3)).alloc (.cells #[.int .i64 kind] 3)).alloc (.cells #[.slice ay rs.length cy] 53)).heap.size ((((w.alloc (.cells #[.slice ax xs.length cx] 30)).alloc (.cells #[.int .i64 kf] 3)).alloc (.cells #[.int .i64 kind] 3)).alloc (.cells #[.slice ay rs.length cy] 53)) W →
      Calls Tryz.prog 112 (#[.int .i64 x] ++ #[.pointer (some ⟨w.heap.size + 1, 0, none⟩), .pointer (some ⟨w.heap.size, 0, none⟩), .pointer (some ⟨w.heap.size + 1 + 1, 0, none⟩), .pointer (some ⟨w.heap.size + 1 + 1 + 1, 0, none⟩)]) W fun e W' => e = .returned (.bool p) ∧ Below W.heap.size W W' := by
    intro k x p W hxk hpk hb
    have := get_map hxk hpk
    subst this
    have hbW := hbun.call hb
    exact goodFn_c xs (.slice ax xs.length cx) kf x kind rs (.slice ay rs.length cy) w.heap.size (w.heap.size + 1) (w.heap.size + 1 + 1) (w.heap.size + 1 + 1 + 1) W (hx.below hbW.below) hxl hff (hr.below hbW.below) hfr (words_in hwo (List.mem_of_getElem? hxk)) (blk1 (hbW.get 3 rfl)).1 (blk1 (hbW.get 2 rfl)).1 (blk1 (hbW.get 1 rfl)).1 (blk1 (hbW.get 0 rfl)).1
  have HE := enters_of (P := Tryz.prog) (f := 112) Tryz.func112 (by kernel_rfl) rfl
  have HC := Lib.hid (hasInt_c 112 #[.pointer (some ⟨w.heap.size + 1, 0, none⟩), .pointer (some ⟨w.heap.size, 0, none⟩), .pointer (some ⟨w.heap.size + 1 + 1, 0, none⟩), .pointer (some ⟨w.heap.size + 1 + 1 + 1, 0, none⟩)] (ws.map fun x => !wGood xs (kf : Int) kind rs x) ws _ _ (by simp) hrd2 HE hp)
  have HG := Lib.hid (show goodB m xs (kf : Int) kind rs = !(ws.any fun x => !wGood xs (kf : Int) kind rs x) by unfold goodB; rw [hrow, List.not_any_eq_all_not]; simp)
  have HBEL := Lib.hid hbel
  have hml := memOk_len hmo
  rw [hml] at s1 s3 ⊢
  rw [hwl] at r1 s7 HC
  unfold maxLen at s2 r2
  generalize hq : (ws.any fun x => !wGood xs (kf : Int) kind rs x) = q at HG
  have HQ := Lib.hid hq
  clear hm hx hr ha hmo hxo hxl hws hwo hrow hsv r3 hml hwl hbun hp HE hrd2 s6 hq hbel
  go_enter Tryz.func50, Tryz.ntmps50
  go_wp2_with fail
  refine HC.out.mono ?_
  rintro e w1 ⟨rfl, hb1⟩
  rw [any_map_id, HQ.out]
  have HB := Lib.hid (bnext HBEL.out hb1)
  clear hb1
  go_wp2
  go_ret
  exact ⟨ret_bool HG.out.symm, HB.out⟩
end Go.Proofs.YtojknkpjnchchaaGreatDoor
