/- Contracts of the helpers' loops over environments and translations. No conditions but the readings of the arguments. -/
import Derived.Test.YtojknkpjnchchaaDoorKerC
import Derived.Test.YtojknkpjnchchaaDoorBun
namespace Go.Proofs.YtojknkpjnchchaaDoor
open Go.ChangeShapes Go.WideShapes Go.RowKit
set_option linter.all false
set_option maxRecDepth 100000
attribute [local go_sem ↓] Go.wp_at_zero Go.wp_at_succ

theorem Bun.blkAt {w0 w : World} {row : Option Nat} {rs : List Res} (h : Bun w0 row w rs) (o : Obj) (a : Nat) (ha : a = w.heap.size) : Bun w0 row (w.alloc o) (Res.blk a o :: rs) := by subst ha; exact h.alloc o

theorem eqEnv_c (x y : Env) (s t : Sl) (w : World) (hs : RdS w (slv s) x.rg) (ht : RdS w (slv t) y.rg) : Calls Tryd.prog 40 #[.agg #[slv s, .int .i64 x.rt], .agg #[slv t, .int .i64 y.rt]] w fun e w' => e = .returned (.bool (decide (x = y))) ∧ Below w.heap.size w w' := by
  obtain ⟨xs, r⟩ := x
  obtain ⟨ys, r'⟩ := y
  dsimp only at hs ht ⊢
  simp only [Env.mk.injEq]
  have hB := (((Bun.refl w none).alloc (.cells #[slv s, .int .i64 r] 42)).blkAt (.cells #[slv t, .int .i64 r'] 42) (w.heap.size + 1) (by simp))
  have HB := Lib.hid hB
  have HS := Lib.hid (hs.below hB.below)
  have HT := Lib.hid (ht.below hB.below)
  clear hB hs ht
  by_cases h1 : xs = ys
  all_goals
    have H1 := Lib.hid h1
    first | have g1 := Lib.hid (decide_eq_false h1) | have g1 := Lib.hid (decide_eq_true h1)
    clear h1
    by_cases h2 : r = r'
    all_goals
      have H2 := Lib.hid h2
      first
      | have g2 : (r != r') = true := bne_iff_ne.2 h2
      | have g2 : (r != r') = false := by simp [h2]
      clear h2
      go_enter Tryd.func40, Tryd.ntmps40
      go_wp2_with fail
      refine (eqStringS_c xs ys (slv s) (slv t) _ HS.out HT.out).mono ?_
      rintro e w1 ⟨rfl, hb⟩
      rw [g1.out]
      have hB1 := HB.out.call hb
      obtain ⟨-, c1, -, -, -⟩ := blk2 (hB1.get 1 rfl)
      obtain ⟨-, c2, -, -, -⟩ := blk2 (hB1.get 0 rfl)
      have HB1 := Lib.hid hB1
      clear hb hB1
      go_wp2
      go_ret
      exact ⟨ret_bool (by have h1 := H1.out; have h2 := H2.out; simp [h1, h2]), HB1.out.below⟩

set_option maxHeartbeats 1000000 in
theorem eqEnvS_c (xs ys : List Env) (v u : Value) (w : World) (hx : RdE w v xs) (hy : RdE w u ys) : Calls Tryd.prog 23 #[v, u] w fun e w' =>
    e = .returned (.bool (decide (xs = ys))) ∧ Below w.heap.size w w' := by
  obtain ⟨rx, ⟨a, c, rfl, h1, h2, -, h3⟩, hin, hrt⟩ := hx
  obtain ⟨ry, ⟨a', c', rfl, h1', h2', -, h3'⟩, hin', hrt'⟩ := hy
  unfold maxLen at h2 h2'
  rw [RdE.len hin] at h1 ⊢
  rw [RdE.len hin'] at h1' ⊢
  have HIN := Lib.hid hin
  have HIN' := Lib.hid hin'
  have HRT := Lib.hid hrt
  have HRT' := Lib.hid hrt'
  have H3 := Lib.hid h3
  have H3' := Lib.hid h3'
  clear h3 h3' hin hin' hrt hrt'
  by_cases hn : xs.length = ys.length
  · obtain ⟨n, hn1⟩ : ∃ n, n = xs.length := ⟨_, rfl⟩
    have hn2 : ys.length = n := by omega
    rw [← hn1, hn2]
    have HN1 := Lib.hid hn1
    have HN2 := Lib.hid hn2
    have hnc : n ≤ c := by omega
    have hnc' : n ≤ c' := by omega
    clear hn hn1 hn2 h1 h1'
    go_enter Tryd.func23, Tryd.ntmps23
    go_wp2
    go_loopw [5] (fun i wr => ∃ k : Nat, k ≤ n ∧ i = .int .i64 k ∧ Below w.heap.size w wr ∧ Hid (xs.take k = ys.take k)) (fun i _ => n - (intOf i).toNat)
    case atStart => exact ⟨0, Nat.zero_le _, rfl, Below.refl _ _, rfl⟩
    case round =>
      obtain ⟨k, hk, rfl, hb, heq⟩ := hrel
      by_cases hlt : k < n
      · obtain ⟨m, hm⟩ : ∃ m, xs[k]? = some m := ⟨_, List.getElem?_eq_getElem (by have := HN1.out; omega)⟩
        obtain ⟨p, hp⟩ : ∃ m, ys[k]? = some m := ⟨_, List.getElem?_eq_getElem (by have := HN2.out; omega)⟩
        obtain ⟨s, hrow, hrd⟩ := getE HIN.out HRT.out hm
        obtain ⟨t, hrow', hrd'⟩ := getE HIN'.out HRT'.out hp
        obtain ⟨b, o, rfl, hbl, hc⟩ := H3.out k _ hrow
        obtain ⟨b', o', rfl, hbl', hc'⟩ := H3'.out k _ hrow'
        have hk0 : (0 : Int) ≤ (k : Int) := by omega
        have hkn : (k : Int) < (n : Int) := by omega
        have c0 := (hb.cell (p := ⟨b, o + k * 2 + 0, none⟩) hbl).trans (hc 0 _ rfl)
        have c1 := (hb.cell (p := ⟨b, o + k * 2 + 1, none⟩) hbl).trans (hc 1 _ rfl)
        have d0 := (hb.cell (p := ⟨b', o' + k * 2 + 0, none⟩) hbl').trans (hc' 0 _ rfl)
        have d1 := (hb.cell (p := ⟨b', o' + k * 2 + 1, none⟩) hbl').trans (hc' 1 _ rfl)
        simp only [Nat.add_zero] at c0 d0
        have HM := Lib.hid hm
        have HP := Lib.hid hp
        have HRD := Lib.hid ((hrd.below hb).below (bref wr).drew)
        have HRD' := Lib.hid ((hrd'.below hb).below (bref wr).drew)
        clear hc hc' hm hp hrow hrow' hrd hrd'
        by_cases hmp : m = p
        all_goals
          have HE := Lib.hid hmp
          first | have he := Lib.hid (decide_eq_false hmp) | have he := Lib.hid (decide_eq_true hmp)
          clear hmp
          go_wp2
          go_still_tail 8, (by kernel_rfl)
          change wpList _ _ _ _ _ wr.drew
          go_wp2_with (go_at_call 40; refine (eqEnv_c m p s t _ HRD.out HRD'.out).mono ?_; rintro e w' ⟨rfl, hb2⟩; rw [he.out]; have hb3 := hb.drew.trans (hb2.mono hb.size))
        · go_roundw
          case rel => exact ⟨k + 1, by omega, by go_num, hb3, take_eq_succ HM.out HP.out heq HE.out⟩
          case measure => simp [intOf]; omega
        · go_ret
          exact ⟨ret_bool (by rw [eq_comm, decide_eq_false_iff_not]; exact ne_of_get HM.out HP.out HE.out), hb3⟩
      · go_wp2
        go_ret
        refine ⟨ret_bool ?_, hb⟩
        have h1 := HN1.out
        have h2 := HN2.out
        have h3 : k = n := by omega
        have h4 := heq.out
        rw [List.take_of_length_le (by omega), List.take_of_length_le (by omega)] at h4
        simp [h4]
  · go_enter Tryd.func23, Tryd.ntmps23
    go_wp2
    go_ret
    exact ⟨ret_bool (by rw [eq_comm, decide_eq_false_iff_not]; rintro rfl; exact hn rfl), Below.refl _ _⟩
end Go.Proofs.YtojknkpjnchchaaDoor
