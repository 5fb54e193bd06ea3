/- Contracts of the functions that take messages. No conditions but the readings of the arguments. -/
import Derived.Test.YtkpdjnfgmgnjdaaMailD
namespace Go.Proofs.Ytkpdjnfgmgnjdaa
open Go.ChangeShapes Go.WideShapes Go.RowKit
set_option linter.all false
attribute [local go_sem ↓] Go.wp_at_zero Go.wp_at_succ

def takeI (xs : List Mail) (env : Int) : Int := idxOf (fun m => decide (m.tu = env)) xs
def takeB (xs : List Mail) (env : Int) : Bool := mailsOk xs && xs.any fun m => decide (m.tu = env)
def takeM (xs : List Mail) (env : Int) : Mail := if takeB xs env then (xs[(takeI xs env).toNat]?).getD ⟨0, 0, 0⟩ else ⟨0, 0, 0⟩
def takeL (xs : List Mail) (env : Int) : List Mail := if mailsOk xs then (if takeB xs env then xs.eraseIdx (takeI xs env).toNat else xs) else []

theorem take_some {xs : List Mail} {env : Int} {k : Nat} {m : Mail} (hv : mailsOk xs = true) (hm : xs[k]? = some m) (h : (xs.take k).any (fun m => decide (m.tu = env)) = false) (he : m.tu = env) :
    takeB xs env = true ∧ takeM xs env = m ∧ takeL xs env = xs.take k ++ xs.drop (k + 1) := by
  have hi : takeI xs env = k := idxOf_at hm h (by simp [he])
  have hb : takeB xs env = true := by
    unfold takeB
    rw [hv, Bool.true_and, List.any_eq_true]
    exact ⟨m, List.mem_of_getElem? hm, by simp [he]⟩
  refine ⟨hb, ?_, ?_⟩
  · unfold takeM; rw [if_pos hb, hi]; simp [hm]
  · unfold takeL; rw [if_pos hv, if_pos hb, hi]; simp [List.eraseIdx_eq_take_drop_succ]

theorem take_none {xs : List Mail} {env : Int} (hv : mailsOk xs = true) (h : xs.any (fun m => decide (m.tu = env)) = false) :
    takeB xs env = false ∧ takeM xs env = ⟨0, 0, 0⟩ ∧ takeL xs env = xs := by
  have hb : takeB xs env = false := by unfold takeB; rw [hv, h]; rfl
  exact ⟨hb, by unfold takeM; rw [hb]; rfl, by unfold takeL; rw [hv, hb]; rfl⟩

set_option maxHeartbeats 2000000 in
theorem specMailTake_c (xs : List Mail) (env : Int) (v : Value) (w : World) (hx : RdM w v xs) :
    Calls Try.prog 36 #[v, .int .i64 env] w fun e w' => ∃ u, e = .returned (.tuple #[u, (takeM xs env).val, .bool (takeB xs env)]) ∧ OwM w.heap.size w' u (takeL xs env) ∧ Below w.heap.size w w' := by
  have HX := Lib.hid hx
  obtain ⟨a, c, rfl, h1, h2, h0, h3⟩ := hx
  have H3 := Lib.hid h3
  unfold maxLen at h2
  clear h3 h0
  cases hv : mailsOk xs
  · have HV := Lib.hid hv
    have r1 := Lib.hid (show takeB xs env = false by simp [takeB, hv])
    have r2 := Lib.hid (show takeL xs env = [] by simp [takeL, hv])
    have r3 := Lib.hid (show takeM xs env = ⟨0, 0, 0⟩ by simp [takeM, r1.out])
    clear hv
    go_enter Try.func36, Try.ntmps36
    go_wp2_with fail
    refine (specMailsValid_c xs _ _ (HX.out.below (balloc w _))).mono ?_
    rintro e w1 ⟨rfl, hb1⟩
    rw [HV.out]
    obtain ⟨c0, c1, c2, f0, f1, f2, hs⟩ := blk3 (bkept hb1 (heap_alloc_new w _))
    replace hb1 := bthen hb1
    go_wp2
    refine bodyPost_ret (v := .tuple #[.slice (some ⟨w1.heap.size, 0, none⟩) 0 0, .agg #[.int .i64 0, .int .i64 0, .int .i64 0], .bool false]) ?_ rfl ?_
    · simp [results, Try.results36, go_sem, hs, c0, c1, c2]
    · rw [r1.out, r2.out, r3.out]
      exact ⟨_, rfl, OwT.of_block eltMail (heap_alloc_at _ _ _ (by simp)) rfl (by simp) hb1.size, (bset (bset (bset hb1 (Nat.le_refl _)) (Nat.le_refl _)) (Nat.le_refl _)).alloc (by simp; omega) _⟩
  · have h8 : xs.length ≤ 8 := by simp [mailsOk] at hv; exact hv.1
    have HV := Lib.hid hv
    clear hv
    go_enter Try.func36, Try.ntmps36
    go_wp2_with fail
    refine (specMailsValid_c xs _ _ (HX.out.below (balloc w _))).mono ?_
    rintro e w1 ⟨rfl, hb1⟩
    rw [HV.out]
    have HB := Lib.hid (bkept hb1 (heap_alloc_new w _))
    replace hb1 := bthen hb1
    go_wp2
    go_loop [7] (fun i => ∃ k : Nat, k ≤ xs.length ∧ i = .int .i64 k ∧ Hid ((xs.take k).any (fun m => decide (m.tu = env)) = false)) (fun i => xs.length - (intOf i).toNat)
    case atStart => exact ⟨0, Nat.zero_le _, rfl, by simp [Hid]⟩
    case round =>
      obtain ⟨k, hk, rfl, heq⟩ := hrel
      by_cases hlt : k < xs.length
      · obtain ⟨m, hm⟩ : ∃ m, xs[k]? = some m := ⟨_, List.getElem?_eq_getElem hlt⟩
        obtain ⟨b, o, rfl, hbl, hc⟩ := H3.out k m hm
        have c0 := (hb1.cell (p := ⟨b, o + k * 3 + 0, none⟩) hbl).trans (hc 0 _ rfl)
        have c1 := (hb1.cell (p := ⟨b, o + k * 3 + 1, none⟩) hbl).trans (hc 1 _ rfl)
        have c2 := (hb1.cell (p := ⟨b, o + k * 3 + 2, none⟩) hbl).trans (hc 2 _ rfl)
        simp only [Nat.add_zero] at c0
        clear hc
        by_cases he : m.tu = env
        · obtain ⟨t1, t2, t3⟩ := take_some HV.out hm heq.out he
          have HT1 := Lib.hid t1
          have HT2 := Lib.hid t2
          have HT3 := Lib.hid t3
          have heb : (m.tu == env) = true := beq_iff_eq.2 he
          have HX1 := Lib.hid (HX.out.below hb1)
          clear t1 t2 t3 he hm
          obtain ⟨d0, d1, d2, f0, f1, f2, hs⟩ := blk3 HB.out
          have k0 : (0 : Int) ≤ (k : Int) := by omega
          have hbl1 : b < w1.heap.size := by have := hb1.size; omega
          have k1 : (k : Int) ≤ (c : Int) := by omega
          have k2 : (0 : Int) ≤ (k : Int) + 1 := by omega
          have k3 : (k : Int) + 1 ≤ (xs.length : Int) := by omega
          have k4 : (xs.length : Int) ≤ (c : Int) := by omega
          have k5 : IntKind.i64.wrap ((k : Int) + 1) = (k : Int) + 1 := Go.IntWalk.i64_in _ (by omega)
          have k6 : ((k : Int) + 1).toNat = k + 1 := by omega
          go_wp2
          go_region_held3 (fun w' => w'.cell? ⟨b, o + k * 3, none⟩ = some (.int .i64 m.fr) ∧ w'.cell? ⟨b, o + k * 3 + 1, none⟩ = some (.int .i64 m.tu) ∧ w'.cell? ⟨b, o + k * 3 + 2, none⟩ = some (.int .i64 m.wd))
            (first | go_keep | (exact ⟨(hb2.cell (p := ⟨b, o + k * 3, none⟩) hbl1).trans c0, (hb2.cell (p := ⟨b, o + k * 3 + 1, none⟩) hbl1).trans c1, (hb2.cell (p := ⟨b, o + k * 3 + 2, none⟩) hbl1).trans c2⟩) | (exact ⟨(hb3.cell (p := ⟨b, o + k * 3, none⟩) hbl1).trans c0, (hb3.cell (p := ⟨b, o + k * 3 + 1, none⟩) hbl1).trans c1, (hb3.cell (p := ⟨b, o + k * 3 + 2, none⟩) hbl1).trans c2⟩) | (exact ⟨(cell_set3 _ _ _ _ _ _ _ hbne).trans E0, (cell_set3 _ _ _ _ _ _ _ hbne).trans E1, (cell_set3 _ _ _ _ _ _ _ hbne).trans E2⟩) | fail)
            (first
              | (refine step_append_T eltMail (by rfl) _ _ (by rfl) w1.heap.size _ _ [] (xs.take k) (by rfl) (by rfl) (by exact OwT.of_block eltMail (heap_alloc_new w1 _) rfl (by simp) (Nat.le_refl _)) (by exact (HX1.out.below (by go_grown)).take hk) (by simp; omega) (by simp) ?_; intro v' w' ho hg hat hnil; have hb2 : Below w1.heap.size w1 w' := by refine bgrown ?_ hg ?_; go_grown; intro q hq; simp [Act.eval, Value.ownBlock] at hq; omega)
              | (refine step_append_T eltMail (by rfl) _ _ (by rfl) w1.heap.size _ _ (xs.take k) (xs.drop (k + 1)) (by rfl) (by rfl) (by exact ho) (by exact (HX1.out.below hb2).dropIf hlt) (by simp; omega) (by exact hb2.size) ?_; intro v'' w'' ho2 hg2 hat2 hnil2; have hb3 : Below w1.heap.size w1 w'' := bgrown hb2 hg2 (fun q hq => (World.ownsRow.lt ho q hq).1); obtain ⟨D0, D1, D2, F0, F1, F2, hs3⟩ := blk3 (bkept hb3 HB.out); have E0 := (hb3.cell (p := ⟨b, o + k * 3, none⟩) hbl1).trans c0; have E1 := (hb3.cell (p := ⟨b, o + k * 3 + 1, none⟩) hbl1).trans c1; have E2 := (hb3.cell (p := ⟨b, o + k * 3 + 2, none⟩) hbl1).trans c2; have hbne : b ≠ w.heap.size := Nat.ne_of_lt hbl))
          go_wp2
          all_goals
            refine bodyPost_ret (v := .tuple #[v'', .agg #[.int .i64 m.fr, .int .i64 m.tu, .int .i64 m.wd], .bool true]) ?_ rfl ?_
            · simp [results, Try.results36, go_sem, hs3, D0, D1, D2]
            · rw [HT1.out, HT2.out, HT3.out]
              refine ⟨_, rfl, ?_, ?_⟩
              · refine OwT.set (OwT.set (OwT.set (ho2.mono hb1.size) _ _ ?_) _ _ ?_) _ _ ?_
                all_goals exact .inr fun q hq => by have := (World.ownsRow.lt ho2 q hq).1; simp; omega
              · exact bset (bset (bset (hb1.trans (hb3.mono hb1.size)) (Nat.le_refl _)) (Nat.le_refl _)) (Nat.le_refl _)
        · have heb : (m.tu == env) = false := beq_eq_false_iff_ne.2 he
          have HM := Lib.hid hm
          have HE := Lib.hid he
          clear he hm
          go_wp2
          go_round
          case rel => exact ⟨k + 1, by omega, by go_num, any_take_succ HM.out heq.out (by simp [HE.out])⟩
          case measure => simp [intOf]; omega
      · obtain ⟨t1, t2, t3⟩ := take_none (xs := xs) (env := env) HV.out (by have := heq.out; rwa [List.take_of_length_le (by omega)] at this)
        have HT1 := Lib.hid t1
        have HT2 := Lib.hid t2
        have HT3 := Lib.hid t3
        obtain ⟨d0, d1, d2, f0, f1, f2, hs⟩ := blk3 HB.out
        clear t1 t2 t3
        go_wp2_with (at_builtin; refine append_T eltMail rfl _ _ rfl w1.heap.size (.slice (some ⟨w1.heap.size, 0, none⟩) 0 0) (.slice a xs.length c) [] xs rfl rfl (OwT.of_block eltMail (heap_alloc_new w1 _) rfl (by simp) (Nat.le_refl _)) (HX.out.below (hb1.alloc hb1.size _)) (by simp; omega) (by simp) ?_; intro v' w' ho hg hat hnil; have HB2 := Lib.hid (gkept hg (akept _ HB.out) (by simp [Value.ownBlock]; omega)); obtain ⟨d0, d1, d2, f0, f1, f2, hs'⟩ := blk3 HB2.out)
        refine bodyPost_ret (v := .tuple #[v', .agg #[.int .i64 0, .int .i64 0, .int .i64 0], .bool false]) ?_ rfl ?_
        · simp [results, Try.results36, go_sem, hs', d0, d1, d2]
        · rw [HT1.out, HT2.out, HT3.out]
          have hb2 : Below w.heap.size w w' := bgrown (hb1.alloc hb1.size _) hg (by simp [Value.ownBlock]; exact hb1.size)
          refine ⟨_, rfl, ?_, ?_⟩
          · refine OwT.set (OwT.set (OwT.set (ho.mono hb1.size) _ _ ?_) _ _ ?_) _ _ ?_
            all_goals exact .inr fun q hq => by have := (World.ownsRow.lt ho q hq).1; simp; omega
          · exact bset (bset (bset hb2 (Nat.le_refl _)) (Nat.le_refl _)) (Nat.le_refl _)
end Go.Proofs.Ytkpdjnfgmgnjdaa
