/- Contracts of the functions that find the place of an address. No conditions but the readings of the arguments. -/
import Derived.Test.YtojknkpjnchchaaGreatDoorTabB
namespace Go.Proofs.YtojknkpjnchchaaGreatDoor
open Go.ChangeShapes Go.WideShapes Go.ChangeAt Go.RowKit
set_option linter.all false
set_option maxRecDepth 100000
attribute [local go_sem ↓] Go.wp_at_zero Go.wp_at_succ

def wordAt (m : List (List Int)) (f i : Int) : Int := ((rowAt m f)[i.toNat]?).getD 0
/-- The code, the frame and whether it may be written, of an address's place. -/
def walkC (m : List (List Int)) (root ad : Int) : Int := if entB (wordAt m root (ad / 16)) then (if entB (wordAt m (wordAt m root (ad / 16) / 4) (ad / 4 % 4)) then 0 else 2) else 1
def walkF (m : List (List Int)) (root ad : Int) : Int := if walkC m root ad = 0 then wordAt m (wordAt m root (ad / 16) / 4) (ad / 4 % 4) / 4 else 0
def walkA (m : List (List Int)) (root ad : Int) : Int := if walkC m root ad = 0 then ad % 4 else 0
def walkW (m : List (List Int)) (root ad : Int) : Bool := if walkC m root ad = 0 then entW (wordAt m root (ad / 16)) && entW (wordAt m (wordAt m root (ad / 16) / 4) (ad / 4 % 4)) else false

theorem results_tmp4 {fn : Func} {t1 t2 t3 t4 : Tmp} (h : fn.results = #[.tmp t1, .tmp t2, .tmp t3, .tmp t4]) (tmps : Array Value) (P : Program) (w : World) :
    (results fn tmps).run P w = .ok (.tuple #[tmps.getD t1 undef, tmps.getD t2 undef, tmps.getD t3 undef, tmps.getD t4 undef]) w := by
  simp [results, h]

theorem isAddress_c (n : Int) (w : World) : Calls Tryz.prog 60 #[.int .i64 n] w fun e w' => e = .returned (.bool (btw 0 n 63)) ∧ w = w' := by
  go_enter Tryz.func60, Tryz.ntmps60
  go_wp2_with (go_at_call 105; refine (within_c _ _ _ _).mono ?_; rintro e w' ⟨rfl, rfl⟩)
  go_ret
  exact ⟨rfl, rfl⟩
theorem l1Address_c (n : Int) (w : World) : Calls Tryz.prog 57 #[.int .i64 n] w fun e w' => e = .returned (.bool (btw 0 n 63)) ∧ w = w' := by
  go_enter Tryz.func57, Tryz.ntmps57
  go_wp2_with (go_at_call 86; refine (l6In_c _ _ _ _).mono ?_; rintro e w' ⟨rfl, rfl⟩)
  go_ret
  exact ⟨rfl, rfl⟩

theorem AddressCut_c (n : Int) (w : World) (h : 0 ≤ n ∧ n ≤ 63) : Calls Tryz.prog 114 #[.int .i64 n] w fun e w' => e = .returned (.tuple #[.int .i64 (n / 16), .int .i64 (n / 4 % 4), .int .i64 (n % 4), .bool true]) ∧ w = w' := by
  have HB := Lib.hid (show btw 0 n 63 = true by simp only [btw, decide_eq_true_eq]; omega)
  obtain ⟨h0, h1⟩ := h
  go_enter Tryz.func114, Tryz.ntmps114
  go_wp2_with fail
  refine (isAddress_c n _).mono ?_
  rintro e w1 ⟨rfl, rfl⟩
  rw [HB.out]
  go_wp2
  ((try simp only [Exit.inBlock, Exit.then]); refine bodyPost_ret (results_tmp4 rfl _ _ _) rfl ?_)
  exact ⟨rfl, rfl⟩

/-- What a walk asks of a word of a memory. -/
theorem RdN.word {w : World} {v : Value} {m : List (List Int)} (h : RdII w v m) (hmo : memOk m = true) {k j : Nat} (hk : k < 12) (hj : j < 4) :
    ∃ (a : Addr) (c : Nat) (b o c2 : Nat), v = .slice (some a) 12 c ∧ 12 ≤ c ∧ c ≤ maxLen ∧ a.spot = none ∧ a.block < w.heap.size ∧ w.cell? ⟨a.block, a.off + k, none⟩ = some (.slice (some ⟨b, o, none⟩) 4 c2) ∧ 4 ≤ c2 ∧ c2 ≤ maxLen ∧ b < w.heap.size ∧
      w.cell? ⟨b, o + j, none⟩ = some (.int .i64 (wordAt m (k : Int) (j : Int))) ∧ 0 ≤ wordAt m (k : Int) (j : Int) ∧ wordAt m (k : Int) (j : Int) ≤ 9999 := by
  have hml := memOk_len hmo
  obtain ⟨ws, hws⟩ : ∃ ws, m[k]? = some ws := ⟨_, List.getElem?_eq_getElem (by omega)⟩
  have hwo := memOk_all hmo (List.mem_of_getElem? hws)
  have hwl := wordsOk_len hwo
  obtain ⟨x, hx⟩ : ∃ x, ws[j]? = some x := ⟨_, List.getElem?_eq_getElem (by omega)⟩
  obtain ⟨a, c, s, rfl, h1, h2, h3, hbl, hsp, hcell, ⟨sa, sc, hse, q1, q2, -, q3⟩⟩ := RdN.rowOf h hws
  obtain ⟨b, o, rfl, hb, hc⟩ := q3 j x hx
  have e0 := hc 0 _ rfl
  simp only [Nat.mul_one, Nat.add_zero] at e0
  have hw : wordAt m (k : Int) (j : Int) = x := by unfold wordAt; rw [rowAt_eq hws, Int.toNat_natCast, hx]; rfl
  rw [hse, hwl] at hcell
  rw [hml]
  rw [hw]
  have hr := words_in hwo (List.mem_of_getElem? hx)
  exact ⟨a, c, b, o, sc, rfl, by omega, h2, hsp, hbl, hcell, by omega, q2, hb, e0, hr.1, hr.2⟩

set_option maxHeartbeats 4000000 in
theorem walk_c (m : List (List Int)) (root ad : Int) (v : Value) (w : World) (hm : RdII w v m) (hmo : memOk m = true) (hr : 0 ≤ root ∧ root ≤ 11) (ha : 0 ≤ ad ∧ ad ≤ 63) :
    Calls Tryz.prog 51 #[v, .int .i64 root, .int .i64 ad] w fun e w' => e = .returned (.tuple #[.agg #[.int .i64 (walkF m root ad), .int .i64 (walkA m root ad), .bool (walkW m root ad)], .int .i64 (walkC m root ad)]) ∧ Below w.heap.size w w' := by
  obtain ⟨k, rfl⟩ := Int.eq_ofNat_of_zero_le hr.1
  have hk : k < 12 := by omega
  have hk0 : (0 : Int) ≤ (k : Int) := by omega
  have hk1 : (k : Int) < 12 := by omega
  obtain ⟨j, hj⟩ := Int.eq_ofNat_of_zero_le (show 0 ≤ ad / 16 by omega)
  have hj4 : j < 4 := by omega
  obtain ⟨i, hi⟩ := Int.eq_ofNat_of_zero_le (show 0 ≤ ad / 4 % 4 by omega)
  have hi4 : i < 4 := by omega
  have hj0 : (0 : Int) ≤ (j : Int) := by omega
  have hj1 : (j : Int) < 4 := by omega
  have hi0 : (0 : Int) ≤ (i : Int) := by omega
  have hi1 : (i : Int) < 4 := by omega
  have HC := Lib.hid (show walkC m k ad = if entB (wordAt m k (ad / 16)) then (if entB (wordAt m (wordAt m k (ad / 16) / 4) (ad / 4 % 4)) then 0 else 2) else 1 from rfl)
  have HF := Lib.hid (show walkF m k ad = if walkC m k ad = 0 then wordAt m (wordAt m k (ad / 16) / 4) (ad / 4 % 4) / 4 else 0 from rfl)
  have HA := Lib.hid (show walkA m k ad = if walkC m k ad = 0 then ad % 4 else 0 from rfl)
  have HW := Lib.hid (show walkW m k ad = if walkC m k ad = 0 then entW (wordAt m k (ad / 16)) && entW (wordAt m (wordAt m k (ad / 16) / 4) (ad / 4 % 4)) else false from rfl)
  rw [hj] at HC HF HW
  rw [hi] at HC HF HW
  have HB0 := Lib.hid ((Bun.refl w none).alloc (.cells #[.int .i64 0, .int .i64 0, .bool false] 80))
  have hm1 := hm.below HB0.out.below
  obtain ⟨a, c, b, o, c2, rfl, s1, s2, sp, hbl, hc, s3, s4, hb, e0, x0, x1⟩ := RdN.word hm1 hmo hk hj4
  obtain ⟨p0, p1, p2, f0, f1, f2, pz⟩ := blk3 (HB0.out.get 0 rfl)
  have HCUT := Lib.hid (fun W => (AddressCut_c ad W ha).mono (R' := fun e w' => e = .returned (.tuple #[.int .i64 j, .int .i64 i, .int .i64 (ad % 4), .bool true]) ∧ W = w') (by rintro e w' ⟨rfl, hb⟩; rw [hj, hi]; exact ⟨rfl, hb⟩))
  have HM1 := Lib.hid hm1
  obtain ⟨mb, mo, msp⟩ := a
  simp only at sp hc hbl
  subst sp
  unfold maxLen at s2 s4
  clear hm hm1 hr ha hj hi
  cases h1 : entB (wordAt m k j)
  · have H1 := Lib.hid h1
    have HCC := Lib.hid (show walkC m k ad = 1 by rw [HC.out, h1]; rfl)
    clear h1
    go_enter Tryz.func51, Tryz.ntmps51
    go_wp2_with fail
    refine (HCUT.out _).mono ?_
    rintro e w1 ⟨rfl, rfl⟩
    go_wp2_with fail
    refine (implEntryGet_c (wordAt m k j) _ ⟨x0, x1⟩).mono ?_
    rintro e w2 ⟨rfl, rfl⟩
    rw [H1.out]
    go_wp2
    refine bodyPost_ret (v := .tuple #[.agg #[.int .i64 0, .int .i64 0, .bool false], .int .i64 1]) ?_ rfl ?_
    · simp [results, Tryz.results51, go_sem, pz, p0, p1, p2]
    · rw [HF.out, HA.out, HW.out, HCC.out]
      exact ⟨rfl, by first | exact HB0.out.below | exact (((HB0.out.put 0 _).put 1 _).put 2 _).below⟩
  have hlt := ent_lt h1
  obtain ⟨t, ht⟩ := Int.eq_ofNat_of_zero_le hlt.1
  have ht12 : t < 12 := by omega
  have ht0 : (0 : Int) ≤ (t : Int) := by omega
  have ht1 : (t : Int) < 12 := by omega
  have HI := Lib.hid (show entI (wordAt m k j) = (t : Int) by simp [entI, h1]; exact ht)
  rw [ht] at HC HF HW
  obtain ⟨a9, c9, b9, o9, c8, hv9, -, -, -, -, hc9, s5, s6, hb9, e9, y0, y1⟩ := RdN.word HM1.out hmo ht12 hi4
  simp only [Value.slice.injEq, Option.some.injEq] at hv9
  obtain ⟨rfl, -, rfl⟩ := hv9
  simp only at hc9
  unfold maxLen at s6
  have H1 := Lib.hid h1
  clear h1 hlt ht
  cases h2 : entB (wordAt m t i)
  · have H2 := Lib.hid h2
    have HCC := Lib.hid (show walkC m k ad = 2 by rw [HC.out, H1.out, h2]; rfl)
    clear h2
    go_enter Tryz.func51, Tryz.ntmps51
    go_wp2_with fail
    refine (HCUT.out _).mono ?_
    rintro e w1 ⟨rfl, rfl⟩
    go_wp2_with fail
    refine (implEntryGet_c (wordAt m k j) _ ⟨x0, x1⟩).mono ?_
    rintro e w2 ⟨rfl, rfl⟩
    rw [H1.out, HI.out]
    go_wp2_with fail
    refine (implEntryGet_c (wordAt m t i) _ ⟨y0, y1⟩).mono ?_
    rintro e w3 ⟨rfl, rfl⟩
    rw [H2.out]
    go_wp2
    refine bodyPost_ret (v := .tuple #[.agg #[.int .i64 0, .int .i64 0, .bool false], .int .i64 2]) ?_ rfl ?_
    · simp [results, Tryz.results51, go_sem, pz, p0, p1, p2]
    · rw [HF.out, HA.out, HW.out, HCC.out]
      exact ⟨rfl, by first | exact HB0.out.below | exact (((HB0.out.put 0 _).put 1 _).put 2 _).below⟩
  · have H2 := Lib.hid h2
    have HCC := Lib.hid (show walkC m k ad = 0 by rw [HC.out, H1.out, h2]; rfl)
    have HI2 := Lib.hid (show entI (wordAt m t i) = wordAt m t i / 4 by simp [entI, h2])
    clear h2
    cases hw1 : entW (wordAt m k j)
    · have HW1 := Lib.hid hw1
      clear hw1
      have h9 := (((HB0.out.put 0 (.int .i64 (wordAt m t i / 4))).put 1 (.int .i64 (ad % 4))).put 2 (.bool false))
      obtain ⟨g0, g1, g2, -, -, -, gz⟩ := blk3 (h9.get 0 rfl)
      have h8 := (Bun.refl w none).alloc (.cells #[.int .i64 (wordAt m t i / 4), .int .i64 (ad % 4), .bool false] 80)
      obtain ⟨n0, n1, n2, -, -, -, nz⟩ := blk3 (h8.get 0 rfl)
      have H9 := Lib.hid h9
      have H8 := Lib.hid h8
      have G := Lib.hid (And.intro g0 (And.intro g1 (And.intro g2 (And.intro gz (And.intro n0 (And.intro n1 (And.intro n2 nz)))))))
      clear h9 g0 g1 g2 gz h8 n0 n1 n2 nz
      go_enter Tryz.func51, Tryz.ntmps51
      go_wp2_with fail
      refine (HCUT.out _).mono ?_
      rintro e w1 ⟨rfl, rfl⟩
      go_wp2_with fail
      refine (implEntryGet_c (wordAt m k j) _ ⟨x0, x1⟩).mono ?_
      rintro e w2 ⟨rfl, rfl⟩
      rw [H1.out, HI.out, HW1.out]
      go_wp2_with fail
      refine (implEntryGet_c (wordAt m t i) _ ⟨y0, y1⟩).mono ?_
      rintro e w3 ⟨rfl, rfl⟩
      rw [H2.out, HI2.out]
      go_wp2
      obtain ⟨g0, g1, g2, gz, n0, n1, n2, nz⟩ := G.out
      refine bodyPost_ret (v := .tuple #[.agg #[.int .i64 (wordAt m t i / 4), .int .i64 (ad % 4), .bool false], .int .i64 0]) ?_ rfl ?_
      · first
        | (simp [results, Tryz.results51, go_sem, nz, n0, n1, n2]; done)
        | (simp [results, Tryz.results51, go_sem, gz, g0, g1, g2]; done)
      · have e1 : walkF m k ad = wordAt m t i / 4 := by rw [HF.out, HCC.out]; rfl
        have e2 : walkA m k ad = ad % 4 := by rw [HA.out, HCC.out]; rfl
        have e3 : walkW m k ad = false := by rw [HW.out, HCC.out, HW1.out]; simp
        rw [e1, e2, e3, HCC.out]
        exact ⟨rfl, by first | exact H8.out.below | exact H9.out.below⟩
    · have HW1 := Lib.hid hw1
      clear hw1
      have h9 := (((HB0.out.put 0 (.int .i64 (wordAt m t i / 4))).put 1 (.int .i64 (ad % 4))).put 2 (.bool (entW (wordAt m t i))))
      obtain ⟨g0, g1, g2, -, -, -, gz⟩ := blk3 (h9.get 0 rfl)
      have h8 := (Bun.refl w none).alloc (.cells #[.int .i64 (wordAt m t i / 4), .int .i64 (ad % 4), .bool (entW (wordAt m t i))] 80)
      obtain ⟨n0, n1, n2, -, -, -, nz⟩ := blk3 (h8.get 0 rfl)
      have H9 := Lib.hid h9
      have H8 := Lib.hid h8
      have G := Lib.hid (And.intro g0 (And.intro g1 (And.intro g2 (And.intro gz (And.intro n0 (And.intro n1 (And.intro n2 nz)))))))
      clear h9 g0 g1 g2 gz h8 n0 n1 n2 nz
      go_enter Tryz.func51, Tryz.ntmps51
      go_wp2_with fail
      refine (HCUT.out _).mono ?_
      rintro e w1 ⟨rfl, rfl⟩
      go_wp2_with fail
      refine (implEntryGet_c (wordAt m k j) _ ⟨x0, x1⟩).mono ?_
      rintro e w2 ⟨rfl, rfl⟩
      rw [H1.out, HI.out, HW1.out]
      go_wp2_with fail
      refine (implEntryGet_c (wordAt m t i) _ ⟨y0, y1⟩).mono ?_
      rintro e w3 ⟨rfl, rfl⟩
      rw [H2.out, HI2.out]
      go_wp2
      obtain ⟨g0, g1, g2, gz, n0, n1, n2, nz⟩ := G.out
      refine bodyPost_ret (v := .tuple #[.agg #[.int .i64 (wordAt m t i / 4), .int .i64 (ad % 4), .bool (entW (wordAt m t i))], .int .i64 0]) ?_ rfl ?_
      · first
        | (simp [results, Tryz.results51, go_sem, nz, n0, n1, n2]; done)
        | (simp [results, Tryz.results51, go_sem, gz, g0, g1, g2]; done)
      · have e1 : walkF m k ad = wordAt m t i / 4 := by rw [HF.out, HCC.out]; rfl
        have e2 : walkA m k ad = ad % 4 := by rw [HA.out, HCC.out]; rfl
        have e3 : walkW m k ad = (entW (wordAt m t i)) := by rw [HW.out, HCC.out, HW1.out]; simp
        rw [e1, e2, e3, HCC.out]
        exact ⟨rfl, by first | exact H8.out.below | exact H9.out.below⟩

set_option maxHeartbeats 4000000 in
theorem l3Walk_c (m : List (List Int)) (root ad : Int) (v : Value) (w : World) (hm : RdII w v m) (hmo : memOk m = true) (hr : 0 ≤ root ∧ root ≤ 11) (ha : 0 ≤ ad ∧ ad ≤ 63) :
    Calls Tryz.prog 58 #[v, .int .i64 root, .int .i64 ad] w fun e w' => e = .returned (.tuple #[.agg #[.int .i64 (walkF m root ad), .int .i64 (walkA m root ad), .bool (walkW m root ad)], .int .i64 (walkC m root ad)]) ∧ Below w.heap.size w w' := by
  obtain ⟨k, rfl⟩ := Int.eq_ofNat_of_zero_le hr.1
  have hk : k < 12 := by omega
  have hk0 : (0 : Int) ≤ (k : Int) := by omega
  have hk1 : (k : Int) < 12 := by omega
  obtain ⟨j, hj⟩ := Int.eq_ofNat_of_zero_le (show 0 ≤ ad / 16 by omega)
  have hj4 : j < 4 := by omega
  obtain ⟨i, hi⟩ := Int.eq_ofNat_of_zero_le (show 0 ≤ ad / 4 % 4 by omega)
  have hi4 : i < 4 := by omega
  have hj0 : (0 : Int) ≤ (j : Int) := by omega
  have hj1 : (j : Int) < 4 := by omega
  have hi0 : (0 : Int) ≤ (i : Int) := by omega
  have hi1 : (i : Int) < 4 := by omega
  have HC := Lib.hid (show walkC m k ad = if entB (wordAt m k (ad / 16)) then (if entB (wordAt m (wordAt m k (ad / 16) / 4) (ad / 4 % 4)) then 0 else 2) else 1 from rfl)
  have HF := Lib.hid (show walkF m k ad = if walkC m k ad = 0 then wordAt m (wordAt m k (ad / 16) / 4) (ad / 4 % 4) / 4 else 0 from rfl)
  have HA := Lib.hid (show walkA m k ad = if walkC m k ad = 0 then ad % 4 else 0 from rfl)
  have HW := Lib.hid (show walkW m k ad = if walkC m k ad = 0 then entW (wordAt m k (ad / 16)) && entW (wordAt m (wordAt m k (ad / 16) / 4) (ad / 4 % 4)) else false from rfl)
  rw [hj] at HC HF HW
  rw [hi] at HC HF HW
  have HB0 := Lib.hid ((Bun.refl w none).alloc (.cells #[.int .i64 0, .int .i64 0, .bool false] 80))
  have hm1 := hm.below HB0.out.below
  obtain ⟨a, c, b, o, c2, rfl, s1, s2, sp, hbl, hc, s3, s4, hb, e0, x0, x1⟩ := RdN.word hm1 hmo hk hj4
  obtain ⟨p0, p1, p2, f0, f1, f2, pz⟩ := blk3 (HB0.out.get 0 rfl)
  have ha0 := ha.1
  have ha1 := ha.2
  have HM1 := Lib.hid hm1
  obtain ⟨mb, mo, msp⟩ := a
  simp only at sp hc hbl
  subst sp
  unfold maxLen at s2 s4
  clear hm hm1 hr ha
  cases h1 : entB (wordAt m k j)
  · have H1 := Lib.hid h1
    have HCC := Lib.hid (show walkC m k ad = 1 by rw [HC.out, h1]; rfl)
    clear h1
    go_enter Tryz.func58, Tryz.ntmps58
    go_wp2_with fail
    refine (specEntryGet_c (wordAt m k j) _ ⟨x0, x1⟩).mono ?_
    rintro e w2 ⟨rfl, rfl⟩
    rw [H1.out]
    go_wp2
    refine bodyPost_ret (v := .tuple #[.agg #[.int .i64 0, .int .i64 0, .bool false], .int .i64 1]) ?_ rfl ?_
    · simp [results, Tryz.results58, go_sem, pz, p0, p1, p2]
    · rw [HF.out, HA.out, HW.out, HCC.out]
      exact ⟨rfl, by first | exact HB0.out.below | exact (((HB0.out.put 0 _).put 1 _).put 2 _).below⟩
  have hlt := ent_lt h1
  obtain ⟨t, ht⟩ := Int.eq_ofNat_of_zero_le hlt.1
  have ht12 : t < 12 := by omega
  have ht0 : (0 : Int) ≤ (t : Int) := by omega
  have ht1 : (t : Int) < 12 := by omega
  have HI := Lib.hid (show entI (wordAt m k j) = (t : Int) by simp [entI, h1]; exact ht)
  rw [ht] at HC HF HW
  obtain ⟨a9, c9, b9, o9, c8, hv9, -, -, -, -, hc9, s5, s6, hb9, e9, y0, y1⟩ := RdN.word HM1.out hmo ht12 hi4
  simp only [Value.slice.injEq, Option.some.injEq] at hv9
  obtain ⟨rfl, -, rfl⟩ := hv9
  simp only at hc9
  unfold maxLen at s6
  have H1 := Lib.hid h1
  clear h1 hlt ht
  cases h2 : entB (wordAt m t i)
  · have H2 := Lib.hid h2
    have HCC := Lib.hid (show walkC m k ad = 2 by rw [HC.out, H1.out, h2]; rfl)
    clear h2
    go_enter Tryz.func58, Tryz.ntmps58
    go_wp2_with fail
    refine (specEntryGet_c (wordAt m k j) _ ⟨x0, x1⟩).mono ?_
    rintro e w2 ⟨rfl, rfl⟩
    rw [H1.out, HI.out]
    go_wp2_with fail
    refine (specEntryGet_c (wordAt m t i) _ ⟨y0, y1⟩).mono ?_
    rintro e w3 ⟨rfl, rfl⟩
    rw [H2.out]
    go_wp2
    refine bodyPost_ret (v := .tuple #[.agg #[.int .i64 0, .int .i64 0, .bool false], .int .i64 2]) ?_ rfl ?_
    · simp [results, Tryz.results58, go_sem, pz, p0, p1, p2]
    · rw [HF.out, HA.out, HW.out, HCC.out]
      exact ⟨rfl, by first | exact HB0.out.below | exact (((HB0.out.put 0 _).put 1 _).put 2 _).below⟩
  · have H2 := Lib.hid h2
    have HCC := Lib.hid (show walkC m k ad = 0 by rw [HC.out, H1.out, h2]; rfl)
    have HI2 := Lib.hid (show entI (wordAt m t i) = wordAt m t i / 4 by simp [entI, h2])
    clear h2
    cases hw1 : entW (wordAt m k j)
    · have HW1 := Lib.hid hw1
      clear hw1
      have h9 := (((HB0.out.put 0 (.int .i64 (wordAt m t i / 4))).put 1 (.int .i64 (ad % 4))).put 2 (.bool false))
      obtain ⟨g0, g1, g2, -, -, -, gz⟩ := blk3 (h9.get 0 rfl)
      have h8 := (Bun.refl w none).alloc (.cells #[.int .i64 (wordAt m t i / 4), .int .i64 (ad % 4), .bool false] 80)
      obtain ⟨n0, n1, n2, -, -, -, nz⟩ := blk3 (h8.get 0 rfl)
      have H9 := Lib.hid h9
      have H8 := Lib.hid h8
      have G := Lib.hid (And.intro g0 (And.intro g1 (And.intro g2 (And.intro gz (And.intro n0 (And.intro n1 (And.intro n2 nz)))))))
      clear h9 g0 g1 g2 gz h8 n0 n1 n2 nz
      go_enter Tryz.func58, Tryz.ntmps58
      go_wp2_with fail
      refine (specEntryGet_c (wordAt m k j) _ ⟨x0, x1⟩).mono ?_
      rintro e w2 ⟨rfl, rfl⟩
      rw [H1.out, HI.out, HW1.out]
      go_wp2_with fail
      refine (specEntryGet_c (wordAt m t i) _ ⟨y0, y1⟩).mono ?_
      rintro e w3 ⟨rfl, rfl⟩
      rw [H2.out, HI2.out]
      go_wp2
      obtain ⟨g0, g1, g2, gz, n0, n1, n2, nz⟩ := G.out
      refine bodyPost_ret (v := .tuple #[.agg #[.int .i64 (wordAt m t i / 4), .int .i64 (ad % 4), .bool false], .int .i64 0]) ?_ rfl ?_
      · first
        | (simp [results, Tryz.results58, go_sem, nz, n0, n1, n2]; done)
        | (simp [results, Tryz.results58, go_sem, gz, g0, g1, g2]; done)
      · have e1 : walkF m k ad = wordAt m t i / 4 := by rw [HF.out, HCC.out]; rfl
        have e2 : walkA m k ad = ad % 4 := by rw [HA.out, HCC.out]; rfl
        have e3 : walkW m k ad = false := by rw [HW.out, HCC.out, HW1.out]; simp
        rw [e1, e2, e3, HCC.out]
        exact ⟨rfl, by first | exact H8.out.below | exact H9.out.below⟩
    · have HW1 := Lib.hid hw1
      clear hw1
      have h9 := (((HB0.out.put 0 (.int .i64 (wordAt m t i / 4))).put 1 (.int .i64 (ad % 4))).put 2 (.bool (entW (wordAt m t i))))
      obtain ⟨g0, g1, g2, -, -, -, gz⟩ := blk3 (h9.get 0 rfl)
      have h8 := (Bun.refl w none).alloc (.cells #[.int .i64 (wordAt m t i / 4), .int .i64 (ad % 4), .bool (entW (wordAt m t i))] 80)
      obtain ⟨n0, n1, n2, -, -, -, nz⟩ := blk3 (h8.get 0 rfl)
      have H9 := Lib.hid h9
      have H8 := Lib.hid h8
      have G := Lib.hid (And.intro g0 (And.intro g1 (And.intro g2 (And.intro gz (And.intro n0 (And.intro n1 (And.intro n2 nz)))))))
      clear h9 g0 g1 g2 gz h8 n0 n1 n2 nz
      go_enter Tryz.func58, Tryz.ntmps58
      go_wp2_with fail
      refine (specEntryGet_c (wordAt m k j) _ ⟨x0, x1⟩).mono ?_
      rintro e w2 ⟨rfl, rfl⟩
      rw [H1.out, HI.out, HW1.out]
      go_wp2_with fail
      refine (specEntryGet_c (wordAt m t i) _ ⟨y0, y1⟩).mono ?_
      rintro e w3 ⟨rfl, rfl⟩
      rw [H2.out, HI2.out]
      go_wp2
      obtain ⟨g0, g1, g2, gz, n0, n1, n2, nz⟩ := G.out
      refine bodyPost_ret (v := .tuple #[.agg #[.int .i64 (wordAt m t i / 4), .int .i64 (ad % 4), .bool (entW (wordAt m t i))], .int .i64 0]) ?_ rfl ?_
      · first
        | (simp [results, Tryz.results58, go_sem, nz, n0, n1, n2]; done)
        | (simp [results, Tryz.results58, go_sem, gz, g0, g1, g2]; done)
      · have e1 : walkF m k ad = wordAt m t i / 4 := by rw [HF.out, HCC.out]; rfl
        have e2 : walkA m k ad = ad % 4 := by rw [HA.out, HCC.out]; rfl
        have e3 : walkW m k ad = (entW (wordAt m t i)) := by rw [HW.out, HCC.out, HW1.out]; simp
        rw [e1, e2, e3, HCC.out]
        exact ⟨rfl, by first | exact H8.out.below | exact H9.out.below⟩
end Go.Proofs.YtojknkpjnchchaaGreatDoor
