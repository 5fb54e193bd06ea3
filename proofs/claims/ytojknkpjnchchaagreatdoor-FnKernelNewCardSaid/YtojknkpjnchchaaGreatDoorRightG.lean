/- The contract of the reference's function that adds a right. No conditions but the readings of the arguments and the sizes of the texts. -/
import Derived.Test.YtojknkpjnchchaaGreatDoorRightE
namespace Go.Proofs.YtojknkpjnchchaaGreatDoor
open Go.ChangeShapes Go.WideShapes Go.RowKit
set_option linter.all false
set_option maxRecDepth 100000
attribute [local go_sem ↓] Go.wp_at_zero Go.wp_at_succ

theorem addL_bad {xs : List Txt} {s : Txt} (h : (rightsOk xs && rightOk s) = false) : addL xs s = [] ∧ addB xs s = false := by
  simp [addL, addB, h]
theorem addL_has {xs : List Txt} {s : Txt} (h1 : rightsOk xs = true) (h2 : rightOk s = true) (h : xs[place xs s]? = some s) : addL xs s = xs ∧ addB xs s = true := by
  have := is_has h1 h
  simp [addL, addB, h1, h2, this]
theorem addL_full {xs : List Txt} {s : Txt} (h1 : rightsOk xs = true) (h2 : rightOk s = true) (h : xs[place xs s]? ≠ some s) (hl : 6 ≤ xs.length) : addL xs s = xs ∧ addB xs s = false := by
  have := not_has h1 h
  have h3 : ¬ xs.length < 6 := by omega
  simp [addL, addB, h1, h2, this, h3]
theorem addL_new {xs : List Txt} {s : Txt} (h1 : rightsOk xs = true) (h2 : rightOk s = true) (h : xs[place xs s]? ≠ some s) (hl : xs.length < 6) : addL xs s = xs.take (place xs s) ++ [s] ++ xs.drop (place xs s) ∧ addB xs s = true := by
  have := not_has h1 h
  simp [addL, addB, h1, h2, this, hl, insT]

theorem RdT.tailNone {α : Type} {enc : α → List Value} {K n c : Nat} {w : World} {xs : List α} (h : RdT enc K w (.slice none n c) xs) (hn : n = xs.length) : RdT enc K w (.slice none 0 (c - n)) (xs.drop n) := by
  obtain ⟨a, c', hv, h1, h2, h0, -⟩ := h
  simp only [Value.slice.injEq] at hv
  obtain ⟨rfl, -, rfl⟩ := hv
  have := h0 rfl
  rw [List.drop_eq_nil_of_le (by omega), this, Nat.zero_sub]
  exact RdT.nil _ _ _
theorem RdT.tailSome {α : Type} {enc : α → List Value} {K n c : Nat} {w : World} {a : Option Addr} {xs : List α} (h : RdT enc K w (.slice a n c) xs) (hn : n = xs.length) (ad : Addr) : RdT enc K w (.slice (some ad) 0 (c - n)) (xs.drop n) := by
  obtain ⟨a', c', hv, h1, h2, h0, -⟩ := h
  simp only [Value.slice.injEq] at hv
  obtain ⟨rfl, -, rfl⟩ := hv
  rw [List.drop_eq_nil_of_le (by omega)]
  exact RdT.empty _ _ _ _ _ (by omega)

theorem Bun.litsAt {α : Type} {enc : α → List Value} {K : Nat} {e t : TypeId} {z : α} {P : Program} {w0 w : World} {row : Option Nat} {rs : List Res} (h : Bun w0 row w rs) (a : Nat) (E : Elt P enc K e t z) (cs : Array Value) (xs : List α) (n : Nat) (hc : cs.toList = xs.flatMap enc) (hn : xs.length = n) (hb : n ≤ 1000000000) (ha : a = w.heap.size) :
    Bun w0 row (w.alloc (.cells cs e)) (Res.row enc K e (.slice (some ⟨a, 0, none⟩) n n) xs :: rs) := by subst ha; exact h.lits E cs xs n hc hn hb

set_option maxHeartbeats 4000000 in
theorem specRightsAdd_c (xs : List Txt) (v : Value) (s : Txt) (w : World) (h : RdS w v xs) (hf : fitS xs) (hs : s.length ≤ 9223372036854775807) : Calls Tryz.prog 124 #[v, tv s] w fun e w' =>
    ∃ u, e = .returned (.tuple #[u, .bool (addB xs s)]) ∧ OwS w.heap.size w' u (addL xs s) ∧ Below w.heap.size w w' := by
  have HH := Lib.hid h
  cases h1 : rightsOk xs
  · have HA := Lib.hid (addL_bad (xs := xs) (s := s) (by rw [h1]; rfl))
    have H1 := Lib.hid h1
    clear h1
    go_enter Tryz.func124, Tryz.ntmps124
    go_wp2_with fail
    refine (specRightsValid_c xs v _ HH.out hf).mono ?_
    rintro e w1 ⟨rfl, hb1⟩
    rw [H1.out]
    have HB := Lib.hid (((Bun.refl w none).call hb1).lit eltStr #[] [] rfl (by simp))
    go_wp2
    go_ret2
    rw [HA.out.1, HA.out.2]
    exact ⟨_, rfl, HB.out.ow 0 rfl, HB.out.below⟩
  cases h2 : rightOk s
  · have HA := Lib.hid (addL_bad (xs := xs) (s := s) (by rw [h1, h2]; rfl))
    have H1 := Lib.hid h1
    have H2 := Lib.hid h2
    clear h1 h2
    go_enter Tryz.func124, Tryz.ntmps124
    go_wp2_with fail
    refine (specRightsValid_c xs v _ HH.out hf).mono ?_
    rintro e w1 ⟨rfl, hb1⟩
    rw [H1.out]
    go_wp2_with fail
    refine (specRightValid_c s _ hs).mono ?_
    rintro e w2 ⟨rfl, rfl⟩
    rw [H2.out]
    have HB := Lib.hid (((Bun.refl w none).call hb1).lit eltStr #[] [] rfl (by simp))
    go_wp2
    go_ret2
    rw [HA.out.1, HA.out.2]
    exact ⟨_, rfl, HB.out.ow 0 rfl, HB.out.below⟩
  obtain ⟨n, hn⟩ : ∃ n, n = xs.length := ⟨_, rfl⟩
  obtain ⟨a, c, rfl, t1, t2, t0, t3⟩ := h
  rw [← hn] at t1 HH ⊢
  have HN := Lib.hid hn
  have H3 := Lib.hid t3
  have HF := Lib.hid hf
  have HO := Lib.hid h1
  have HS := Lib.hid h2
  have n6 : n ≤ 6 := by rw [hn]; exact rightsOk_len h1
  unfold maxLen at t2
  clear hn t3 hf t0 h1 h2
  go_enter Tryz.func124, Tryz.ntmps124
  go_wp2_with fail
  refine (specRightsValid_c xs _ _ HH.out HF.out).mono ?_
  rintro e w1 ⟨rfl, hb1⟩
  rw [HO.out]
  go_wp2_with fail
  refine (specRightValid_c s _ hs).mono ?_
  rintro e w2 ⟨rfl, rfl⟩
  rw [HS.out]
  have HB := Lib.hid hb1
  have HH1 := Lib.hid (HH.out.below hb1)
  have HB0 := Lib.hid ((Bun.refl w none).call hb1)
  go_wp2
  go_loop [6] (fun i => ∃ k : Nat, k ≤ n ∧ i = .int .i64 k ∧ Hid (k ≤ place xs s)) (fun i => n - (intOf i).toNat)
  case atStart => exact ⟨0, Nat.zero_le _, rfl, Nat.zero_le _⟩
  case round =>
    obtain ⟨k, hk, rfl, hpl⟩ := hrel
    by_cases hlt : k < n
    · obtain ⟨x, hx⟩ : ∃ x, xs[k]? = some x := ⟨_, List.getElem?_eq_getElem (by have := HN.out; omega)⟩
      obtain ⟨b, o, rfl, hbl, hc⟩ := H3.out k x hx
      have d0 := (HB.out.cell (p := ⟨b, o + k * 1 + 0, none⟩) hbl).trans (hc 0 _ rfl)
      simp only [Nat.mul_one, Nat.add_zero] at d0
      have HX := Lib.hid hx
      clear hx hc
      have hlt' : Op.bytesLess x s = ltT x s := rfl
      cases hl : ltT x s
      · have HP := Lib.hid (place_stop hpl.out HX.out hl)
        rw [hl] at hlt'
        clear hl
        by_cases he : x = s
        · have heb : (x == s) = true := beq_iff_eq.2 he
          have HA := Lib.hid (addL_has HO.out HS.out (by rw [← HP.out, HX.out, he]))
          clear he
          go_wp2_with (at_builtin; refine append_b eltStr rfl _ _ rfl _ _ xs rfl rfl (HB0.out.lit eltStr #[] [] rfl (by simp)) (HH1.out.below (balloc _ _)) (by have := HN.out; simp; omega) ?_; intro v2 w2 H2 hnil2)
          go_ret2
          rw [HA.out.1, HA.out.2]
          exact ⟨_, rfl, H2.ow 0 rfl, H2.below⟩
        · have heb : (x == s) = false := beq_eq_false_iff_ne.2 he
          clear he
          by_cases h6 : 6 ≤ n
          · have HA := Lib.hid (addL_full HO.out HS.out (by rw [← HP.out, HX.out]; simpa using heb) (by have := HN.out; omega))
            go_wp2_with (at_builtin; refine append_b eltStr rfl _ _ rfl _ _ xs rfl rfl (HB0.out.lit eltStr #[] [] rfl (by simp)) (HH1.out.below (balloc _ _)) (by have := HN.out; simp; omega) ?_; intro v2 w2 H2 hnil2)
            go_ret2
            rw [HA.out.1, HA.out.2]
            exact ⟨_, rfl, H2.ow 0 rfl, H2.below⟩
          · have HA := Lib.hid (addL_new HO.out HS.out (by rw [← HP.out, HX.out]; simpa using heb) (by have := HN.out; omega))
            have k0 : (0 : Int) ≤ (k : Int) := by omega
            have k1 : (k : Int) ≤ (c : Int) := by omega
            have k3 : (k : Int) ≤ (n : Int) := by omega
            have k4 : (n : Int) ≤ (c : Int) := by omega
            have RT := Lib.hid (RdT.take HH.out hk)
            have RD := Lib.hid (RdT.dropIf (j := k) HH.out hk)
            have hcc : (c = k) = False := by simp; omega
            all_goals
              simp only [hcc, if_true, if_false, Nat.mul_one] at RD
              go_wp2
              go_region_held3 (fun w' => True) (first | exact trivial | fail)
                (first
                 | (refine step_t eltStr (by rfl) _ _ (by rfl) _ _ (xs.take k) (by rfl) (by rfl) (HB0.out.lit eltStr #[] [] rfl (by simp)).drew (by exact (HH1.out.below (balloc _ _).drew).take hk) (by have := HN.out; simp; omega) ?_; intro v' w' H4 hnil)
                 | (refine step_t eltStr (by rfl) _ _ (by rfl) _ _ (xs.take k) (by rfl) (by rfl) (((HB0.out.lit eltStr #[] [] rfl (by simp)).drew.litsAt (w1.heap.size + 1) eltStr #[tv s] [s] 1 rfl rfl (by omega) (by simp)).front 1 rfl) ((RT.out.below ((HB0.out.lit eltStr #[] [] rfl (by simp)).drew.lits eltStr #[tv s] [s] 1 rfl rfl (by omega)).below)) (by have := HN.out; simp; omega) ?_; intro v' w' H4 hnil)
                 | (refine step_t eltStr (by rfl) _ _ (by rfl) _ _ (xs.take k) (by rfl) (by rfl) ((HB0.out.lits eltStr #[tv s] [s] 1 rfl rfl (by omega)).drew.litsAt (w1.heap.size + 1) eltStr #[] [] 0 rfl rfl (by omega) (by simp)) ((RT.out.below ((HB0.out.lits eltStr #[tv s] [s] 1 rfl rfl (by omega)).drew.lit eltStr #[] [] rfl (by simp)).below)) (by have := HN.out; simp; omega) ?_; intro v' w' H4 hnil)
                 | (refine step_t eltStr (by rfl) _ _ (by rfl) _ _ [s] (by rfl) (by rfl) ((H4.lits eltStr #[tv s] [s] 1 rfl rfl (by omega)).front 1 rfl) ((H4.lits eltStr #[tv s] [s] 1 rfl rfl (by omega)).rd 0 rfl encS_len) (by have := HN.out; simp; omega) ?_; intro v'' w'' H5 hnil2)
                 | (refine step_t eltStr (by rfl) _ _ (by rfl) _ _ [s] (by rfl) (by rfl) H4 (H4.rd 1 rfl encS_len) (by have := HN.out; simp; omega) ?_; intro v'' w'' H5 hnil2)
                 | (refine step_t eltStr (by rfl) _ _ (by rfl) _ _ (xs.drop k) (by rfl) (by rfl) H5 (RD.out.below H5.below) (by have := HN.out; simp; omega) ?_; intro v'' w'' H6 hnil3)
                 | fail)
              all_goals
                have H7 := Lib.hid (And.intro (H6.ow 0 rfl) H6.below)
                clear H6 H5 H4 RD RT
                go_wp2
                go_ret2
                rw [HA.out.1, HA.out.2, ← HP.out]
                exact ⟨_, rfl, H7.out.1, H7.out.2⟩
      · have HL := Lib.hid (place_step HO.out HX.out hl hpl.out)
        rw [hl] at hlt'
        clear hl
        go_wp2
        go_round
        case rel => exact ⟨k + 1, by omega, by go_num, HL.out⟩
        case measure => simp [intOf]; omega
    · obtain rfl : k = n := by omega
      have HP := Lib.hid (show k = place xs s by have h1 := hpl.out; have h2 := place_le xs s; have h3 := HN.out; omega)
      have HX := Lib.hid (show xs[place xs s]? ≠ some s by rw [← HP.out, HN.out]; simp)
      by_cases h6 : 6 ≤ k
      · have HA := Lib.hid (addL_full HO.out HS.out HX.out (by have := HN.out; omega))
        go_wp2_with (at_builtin; refine append_b eltStr rfl _ _ rfl _ _ xs rfl rfl (HB0.out.lit eltStr #[] [] rfl (by simp)) (HH1.out.below (balloc _ _)) (by have := HN.out; simp; omega) ?_; intro v2 w2 H2 hnil2)
        go_ret2
        rw [HA.out.1, HA.out.2]
        exact ⟨_, rfl, H2.ow 0 rfl, H2.below⟩
      · have HA := Lib.hid (addL_new HO.out HS.out HX.out (by have := HN.out; omega))
        have k0 : (0 : Int) ≤ (k : Int) := by omega
        have k1 : (k : Int) ≤ (c : Int) := by omega
        have RT := Lib.hid (RdT.take HH.out (Nat.le_refl _))
        cases a with
        | none =>
          have RD := Lib.hid (RdT.tailNone HH.out HN.out)
          go_wp2
          go_region_held3 (fun w' => True) (first | exact trivial | fail)
            (first
             | (refine step_t eltStr (by rfl) _ _ (by rfl) _ _ (xs.take k) (by rfl) (by rfl) (HB0.out.lit eltStr #[] [] rfl (by simp)).drew (by exact (HH1.out.below (balloc _ _).drew).take (Nat.le_refl _)) (by have := HN.out; simp; omega) ?_; intro v' w' H4 hnil)
             | (refine step_t eltStr (by rfl) _ _ (by rfl) _ _ (xs.take k) (by rfl) (by rfl) (((HB0.out.lit eltStr #[] [] rfl (by simp)).drew.litsAt (w1.heap.size + 1) eltStr #[tv s] [s] 1 rfl rfl (by omega) (by simp)).front 1 rfl) ((RT.out.below ((HB0.out.lit eltStr #[] [] rfl (by simp)).drew.lits eltStr #[tv s] [s] 1 rfl rfl (by omega)).below)) (by have := HN.out; simp; omega) ?_; intro v' w' H4 hnil)
             | (refine step_t eltStr (by rfl) _ _ (by rfl) _ _ (xs.take k) (by rfl) (by rfl) ((HB0.out.lits eltStr #[tv s] [s] 1 rfl rfl (by omega)).drew.litsAt (w1.heap.size + 1) eltStr #[] [] 0 rfl rfl (by omega) (by simp)) ((RT.out.below ((HB0.out.lits eltStr #[tv s] [s] 1 rfl rfl (by omega)).drew.lit eltStr #[] [] rfl (by simp)).below)) (by have := HN.out; simp; omega) ?_; intro v' w' H4 hnil)
             | (refine step_t eltStr (by rfl) _ _ (by rfl) _ _ [s] (by rfl) (by rfl) ((H4.lits eltStr #[tv s] [s] 1 rfl rfl (by omega)).front 1 rfl) ((H4.lits eltStr #[tv s] [s] 1 rfl rfl (by omega)).rd 0 rfl encS_len) (by have := HN.out; simp; omega) ?_; intro v'' w'' H5 hnil2)
             | (refine step_t eltStr (by rfl) _ _ (by rfl) _ _ [s] (by rfl) (by rfl) H4 (H4.rd 1 rfl encS_len) (by have := HN.out; simp; omega) ?_; intro v'' w'' H5 hnil2)
             | (refine step_t eltStr (by rfl) _ _ (by rfl) _ _ (xs.drop k) (by rfl) (by rfl) H5 (RD.out.below H5.below) (by have := HN.out; simp; omega) ?_; intro v'' w'' H6 hnil3)
             | fail)
          all_goals
            have H7 := Lib.hid (And.intro (H6.ow 0 rfl) H6.below)
            clear H6 H5 H4 RD RT
            go_wp2
            go_ret2
            rw [HA.out.1, HA.out.2, ← HP.out]
            exact ⟨_, rfl, H7.out.1, H7.out.2⟩
        | some ad =>
          have RD := Lib.hid (RdT.tailSome HH.out HN.out)
          obtain ⟨b, o, sp⟩ := ad
          have hcc : (c = k) = True ∨ (c = k) = False := by by_cases h : c = k <;> simp [h]
          rcases hcc with hcc | hcc
          all_goals
            go_wp2
            go_region_held3 (fun w' => True) (first | exact trivial | fail)
              (first
               | (refine step_t eltStr (by rfl) _ _ (by rfl) _ _ (xs.take k) (by rfl) (by rfl) (HB0.out.lit eltStr #[] [] rfl (by simp)).drew (by exact (HH1.out.below (balloc _ _).drew).take (Nat.le_refl _)) (by have := HN.out; simp; omega) ?_; intro v' w' H4 hnil)
               | (refine step_t eltStr (by rfl) _ _ (by rfl) _ _ (xs.take k) (by rfl) (by rfl) (((HB0.out.lit eltStr #[] [] rfl (by simp)).drew.litsAt (w1.heap.size + 1) eltStr #[tv s] [s] 1 rfl rfl (by omega) (by simp)).front 1 rfl) ((RT.out.below ((HB0.out.lit eltStr #[] [] rfl (by simp)).drew.lits eltStr #[tv s] [s] 1 rfl rfl (by omega)).below)) (by have := HN.out; simp; omega) ?_; intro v' w' H4 hnil)
               | (refine step_t eltStr (by rfl) _ _ (by rfl) _ _ (xs.take k) (by rfl) (by rfl) ((HB0.out.lits eltStr #[tv s] [s] 1 rfl rfl (by omega)).drew.litsAt (w1.heap.size + 1) eltStr #[] [] 0 rfl rfl (by omega) (by simp)) ((RT.out.below ((HB0.out.lits eltStr #[tv s] [s] 1 rfl rfl (by omega)).drew.lit eltStr #[] [] rfl (by simp)).below)) (by have := HN.out; simp; omega) ?_; intro v' w' H4 hnil)
               | (refine step_t eltStr (by rfl) _ _ (by rfl) _ _ [s] (by rfl) (by rfl) ((H4.lits eltStr #[tv s] [s] 1 rfl rfl (by omega)).front 1 rfl) ((H4.lits eltStr #[tv s] [s] 1 rfl rfl (by omega)).rd 0 rfl encS_len) (by have := HN.out; simp; omega) ?_; intro v'' w'' H5 hnil2)
               | (refine step_t eltStr (by rfl) _ _ (by rfl) _ _ [s] (by rfl) (by rfl) H4 (H4.rd 1 rfl encS_len) (by have := HN.out; simp; omega) ?_; intro v'' w'' H5 hnil2)
               | (refine step_t eltStr (by rfl) _ _ (by rfl) _ _ (xs.drop k) (by rfl) (by rfl) H5 ((RD.out _).below H5.below) (by have := HN.out; simp; omega) ?_; intro v'' w'' H6 hnil3)
               | fail)
            all_goals
              have H7 := Lib.hid (And.intro (H6.ow 0 rfl) H6.below)
              clear H6 H5 H4 RD RT
              go_wp2
              go_ret2
              rw [HA.out.1, HA.out.2, ← HP.out]
              exact ⟨_, rfl, H7.out.1, H7.out.2⟩
end Go.Proofs.YtojknkpjnchchaaGreatDoor
