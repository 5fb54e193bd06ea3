/- The reference's check of a kernel's cache. No conditions but the readings of the arguments. -/
import Derived.Test.YtojknkpjnchchaaGreatDoorKerS
namespace Go.Proofs.YtojknkpjnchchaaGreatDoor
open Go.BigFrame Go.ChangeShapes Go.WideShapes Go.ChangeAt Go.RowKit
set_option linter.all false
set_option maxRecDepth 100000
attribute [local go_sem ↓] Go.wp_at_zero Go.wp_at_succ

theorem dec_bne (a b : Int) : decide (a = b) = !(a != b) := by by_cases h : a = b <;> simp [h, bne]
theorem dec_bneB (a b : Bool) : decide (a = b) = !(a != b) := by cases a <;> cases b <;> rfl
theorem caOk_eq {m : List (List Int)} {es : List Env} {x : Cac} {r C F : Int} {W : Bool} (hr : rootAt es x.en = r) (hC : walkC m r (x.pg * 4) = C) (hF : walkF m r (x.pg * 4) = F) (hW : walkW m r (x.pg * 4) = W) :
    caOk m es x = (decide (0 ≤ r) && (!(C != 0) && (!(F != x.fr) && !(W != x.wr)))) := by
  unfold caOk
  rw [hr, hC, hF, hW, dec_bne, dec_bne, dec_bneB]

set_option maxHeartbeats 4000000 in
theorem l21Cache_c (k : Kern) (v : Value) (w : World) (hx : RdK w v k) (hm : memOk k.me = true) (hc : cachB k.ca = true) (hl : k.env.length = 3) (he : k.env.all (envOk k.me k.inf) = true) :
    Calls Tryz.prog 36 #[v] w fun e w' => e = .returned (.bool (casB k)) ∧ Below w.heap.size w w' := by
  obtain ⟨a, b, c, d, rfl, x1, x2, x3, x4⟩ := hx
  have X1 := Lib.hid x1
  have HMO := Lib.hid hm
  have HCB := Lib.hid hc
  have HEA := Lib.hid he
  obtain ⟨rows, ⟨ae, ce, rfl, e1, e2, -, e3⟩, hin, hrt⟩ := x3
  rw [(RdE.len hin).trans hl] at e1 ⊢
  have HIN := Lib.hid hin
  have HRT := Lib.hid hrt
  have HEL := Lib.hid hl
  have E3 := Lib.hid e3
  obtain ⟨ac, cc, rfl, t1, t2, -, t3⟩ := x4
  obtain ⟨n, hn⟩ : ∃ n, n = k.ca.length := ⟨_, rfl⟩
  rw [← hn] at t1 ⊢
  have HN := Lib.hid hn
  have T3 := Lib.hid t3
  unfold maxLen at t2 e2
  have HB0 := Lib.hid ((Bun.refl w none).alloc (.cells #[a, b, .slice ae 3 ce, .slice ac n cc] 34))
  clear x1 x2 e3 hin hrt hl t3 hn hm hc he
  go_enter Tryz.func36, Tryz.ntmps36
  go_wp2
  obtain ⟨B, hB⟩ : ∃ B, B = w.heap.size := ⟨_, rfl⟩
  rw [← hB] at HB0 ⊢
  clear hB
  go_loopw [3] (fun i wr => ∃ t : Nat, t ≤ n ∧ i = .int .i64 t ∧ Bun w none wr [Res.blk B (.cells #[a, b, .slice ae 3 ce, .slice ac n cc] 34)] ∧ Hid ((k.ca.take t).all (caOk k.me k.env) = true)) (fun i _ => n - (intOf i).toNat)
  case atStart => exact ⟨0, Nat.zero_le _, rfl, HB0.out, by simp [Hid]⟩
  case round =>
    obtain ⟨t, ht, rfl, hb, hok⟩ := hrel
    have HB := Lib.hid hb
    have HOK := Lib.hid hok.out
    clear hb hok
    obtain ⟨z0, z1, z2, z3, -, -, -, -, zz⟩ := blk4 (HB.out.get 0 rfl)
    by_cases hlt : t < n
    · obtain ⟨⟨en, pg, fr, wrt⟩, hx⟩ : ∃ x, k.ca[t]? = some x := ⟨_, List.getElem?_eq_getElem (by have := HN.out; omega)⟩
      obtain ⟨bb, o, rfl, hbl, hcc⟩ := T3.out t _ hx
      have c0 := (HB.out.below.cell (p := ⟨bb, o + t * 4 + 0, none⟩) hbl).trans (hcc 0 _ rfl)
      have c1 := (HB.out.below.cell (p := ⟨bb, o + t * 4 + 1, none⟩) hbl).trans (hcc 1 _ rfl)
      have c2 := (HB.out.below.cell (p := ⟨bb, o + t * 4 + 2, none⟩) hbl).trans (hcc 2 _ rfl)
      have c3 := (HB.out.below.cell (p := ⟨bb, o + t * 4 + 3, none⟩) hbl).trans (hcc 3 _ rfl)
      simp only [Nat.add_zero] at c0 c1 c2 c3
      obtain ⟨m0, m1, m2, m3, m4, m5⟩ := cachB_mem HCB.out (List.mem_of_getElem? hx)
      simp only at m0 m1 m2 m3 m4 m5
      obtain ⟨q, e, hq, hq3, heq, hroot, hr0, hr1⟩ := rootAt_in HEA.out HEL.out ⟨m0, m1⟩
      subst hq
      obtain ⟨s, hrow, -⟩ := getE HIN.out HRT.out heq
      obtain ⟨b5, o5, rfl, hbl5, hc5⟩ := E3.out q _ hrow
      have H1 := Lib.hid (HB.out.alloc (.cells #[.int .i64 q, .int .i64 pg, .int .i64 fr, .bool wrt] 78))
      obtain ⟨y0, y1, y2, y3, -, -, -, -, yz⟩ := blk4 (H1.out.get 0 rfl)
      obtain ⟨v0, v1, v2, v3, -, -, -, -, vz⟩ := blk4 (H1.out.get 1 rfl)
      have d1 := (H1.out.below.cell (p := ⟨b5, o5 + q * 2 + 1, none⟩) hbl5).trans (hc5 1 _ rfl)
      obtain ⟨r, hr⟩ : ∃ r, r = e.rt := ⟨_, rfl⟩
      rw [← hr] at hr0 hr1 hroot
      have d1' : (wr.alloc (.cells #[.int .i64 q, .int .i64 pg, .int .i64 fr, .bool wrt] 78)).cell? ⟨b5, o5 + q * 2 + 1, none⟩ = some (.int .i64 r) := by rw [hr]; exact d1
      have hq0 : (0 : Int) ≤ (q : Int) := by omega
      have hq1 : (q : Int) < 3 := by omega
      have ht0 : (0 : Int) ≤ (t : Int) := by omega
      have ht1 : (t : Int) < (n : Int) := by omega
      have HX := Lib.hid hx
      have HROOT := Lib.hid hroot
      clear hcc hx hc5 hrow heq d1 hr hroot e
      by_cases hneg : r < 0
      · have H8 := Lib.hid (all_bad (p := caOk k.me k.env) HX.out (by unfold caOk; rw [show rootAt k.env (Cac.mk (q : Int) pg fr wrt).en = r from HROOT.out]; simp; omega))
        go_wp2
        go_ret
        exact ⟨ret_bool H8.out.symm, H1.out.below⟩
      · have hr0' : 0 ≤ r := by omega
        have HCON := Lib.hid (l3Walk_c k.me r (4 * pg) a _ (X1.out.below H1.out.below) HMO.out ⟨hr0', hr1⟩ (by omega))
        obtain ⟨C, hC⟩ : ∃ C, walkC k.me r (4 * pg) = C := ⟨_, rfl⟩
        obtain ⟨F, hF⟩ : ∃ C, walkF k.me r (4 * pg) = C := ⟨_, rfl⟩
        obtain ⟨W, hW⟩ : ∃ C, walkW k.me r (4 * pg) = C := ⟨_, rfl⟩
        obtain ⟨A, hA⟩ : ∃ C, walkA k.me r (4 * pg) = C := ⟨_, rfl⟩
        have HOE := Lib.hid (caOk_eq (x := Cac.mk (q : Int) pg fr wrt) HROOT.out (show walkC k.me r (pg * 4) = C by rw [Int.mul_comm, hC]) (show walkF k.me r (pg * 4) = F by rw [Int.mul_comm, hF]) (show walkW k.me r (pg * 4) = W by rw [Int.mul_comm, hW]))
        rw [hC, hF, hW, hA] at HCON
        rw [decide_eq_true hr0'] at HOE
        simp only at HOE
        clear hC hF hW hA
        cases h1 : (C != 0) <;> cases h2 : (F != fr) <;> cases h3 : (W != wrt)
        all_goals
          have G1 := Lib.hid h1
          have G2 := Lib.hid h2
          have G3 := Lib.hid h3
          have h3' : (W == wrt) = !(W != wrt) := by simp [bne]
          rw [h3] at h3'
          simp only [Bool.not_true, Bool.not_false] at h3'
          go_wp2_with fail
          refine HCON.out.mono ?_
          rintro e w2 ⟨rfl, hb2⟩
          have H2 := Lib.hid ((H1.out.call hb2).alloc (.cells #[.int .i64 F, .int .i64 A, .bool W] 80))
          obtain ⟨p0, p1, p2, -, -, -, pz⟩ := blk3 (H2.out.get 0 rfl)
          obtain ⟨y0', y1', y2', y3', -, -, -, -, yz'⟩ := blk4 (H2.out.get 1 rfl)
          clear hb2 y0 y1 y2 y3 v0 v1 v2 v3 z0 z1 z2 z3 c0 c1 c2 c3
          go_wp2
          first
            | (go_ret
               exact ⟨ret_bool (by unfold casB; rw [all_bad HX.out (by rw [HOE.out, G1.out, G2.out, G3.out]; rfl)]), H2.out.below⟩)
            | (go_roundw
               case rel => exact ⟨t + 1, by omega, by go_num, H2.out.drop.drop, all_take_succ HX.out HOK.out (by rw [HOE.out, G1.out, G2.out, G3.out]; rfl)⟩
               case measure => simp [intOf]; omega)
    · have HA := Lib.hid (all_upto (p := caOk k.me k.env) (by have := HN.out; omega) HOK.out)
      go_wp2
      go_ret
      exact ⟨ret_bool HA.out.symm, HB.out.below⟩
end Go.Proofs.YtojknkpjnchchaaGreatDoor
