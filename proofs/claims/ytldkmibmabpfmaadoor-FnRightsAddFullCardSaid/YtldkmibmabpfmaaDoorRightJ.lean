/- Contracts of the program's function that drops rights, and of the library's deletion. No conditions but the readings of the arguments and the sizes of the texts. -/
import Derived.Test.YtldkmibmabpfmaaDoorRightI
namespace Go.Proofs.YtldkmibmabpfmaaDoor
open Go.ChangeShapes Go.WideShapes Go.RowKit
set_option linter.all false
attribute [local go_sem ↓] Go.wp_at_zero Go.wp_at_succ

set_option maxHeartbeats 1000000 in
theorem sameTexts_c (xs ys : List Txt) (v u : Value) (w : World) (hx : RdT encS 1 w v xs) (hy : RdT encS 1 w u ys) : Calls Tryd.prog 32 #[v, u] w fun e w' =>
    e = .returned (.bool (decide (xs = ys))) ∧ Below w.heap.size w w' := by
  obtain ⟨a, c, rfl, h1, h2, -, h3⟩ := hx
  obtain ⟨a', c', rfl, h1', h2', -, h3'⟩ := hy
  unfold maxLen at h2 h2'
  by_cases hn : xs.length = ys.length
  · have HN := Lib.hid hn
    obtain ⟨n, hn1⟩ : ∃ n, n = xs.length := ⟨_, rfl⟩
    have hn2 : ys.length = n := by omega
    rw [← hn1, hn2]
    have HN1 := Lib.hid hn1
    have HN2 := Lib.hid hn2
    have hnc : n ≤ c := by omega
    have hnc' : n ≤ c' := by omega
    clear hn hn1 hn2 h1 h1'
    have H3 := Lib.hid h3
    have H3' := Lib.hid h3'
    clear h3 h3'
    go_enter Tryd.func32, Tryd.ntmps32
    go_wp2
    go_loopw [5] (fun i wr => ∃ k : Nat, k ≤ n ∧ i = .int .i64 k ∧ Below w.heap.size w wr ∧ Hid (xs.take k = ys.take k)) (fun i _ => n - (intOf i).toNat)
    case atStart => exact ⟨0, Nat.zero_le _, rfl, Below.refl _ _, rfl⟩
    case round =>
      obtain ⟨k, hk, rfl, hb, heq⟩ := hrel
      by_cases hlt : k < n
      · obtain ⟨m, hm⟩ : ∃ m, xs[k]? = some m := ⟨_, List.getElem?_eq_getElem (by have := HN1.out; omega)⟩
        obtain ⟨p, hp⟩ : ∃ m, ys[k]? = some m := ⟨_, List.getElem?_eq_getElem (by have := HN2.out; omega)⟩
        obtain ⟨b, o, rfl, hbl, hc⟩ := H3.out k m hm
        obtain ⟨b', o', rfl, hbl', hc'⟩ := H3'.out k p hp
        have hk0 : (0 : Int) ≤ (k : Int) := by omega
        have hkn : (k : Int) < (n : Int) := by omega
        have c0 := (hb.cell (p := ⟨b, o + k * 1 + 0, none⟩) hbl).trans (hc 0 _ rfl)
        have d0 := (hb.cell (p := ⟨b', o' + k * 1 + 0, none⟩) hbl').trans (hc' 0 _ rfl)
        simp only [Nat.add_zero, Nat.mul_one] at c0 d0
        have HM := Lib.hid hm
        have HP := Lib.hid hp
        clear hc hc' hm hp
        by_cases hmp : m = p
        all_goals
          have HE := Lib.hid hmp
          first | have he := Lib.hid (decide_eq_false hmp) | have he := Lib.hid (decide_eq_true hmp)
          first | have hne : (m == p) = false := beq_eq_false_iff_ne.2 hmp | have hne : (m == p) = true := beq_iff_eq.2 hmp
          clear hmp
          go_wp2
          go_still_tail 8, (by kernel_rfl)
          change wpList _ _ _ _ _ wr.drew
          have hb3 := hb.drew
          go_wp2
        · go_roundw
          case rel => exact ⟨k + 1, by omega, by go_num, hb3, take_eq_succ HM.out HP.out heq HE.out⟩
          case measure => simp [intOf]; omega
        · go_ret
          exact ⟨ret_bool (by rw [eq_comm, decide_eq_false_iff_not]; exact ne_of_get HM.out HP.out HE.out), hb3⟩
      · go_wp2
        go_ret
        refine ⟨ret_bool ?_, hb⟩
        have h1 := HN1.out
        have h2 := HN2.out
        have h3 : k = n := by omega
        have h4 := heq.out
        rw [List.take_of_length_le (by omega), List.take_of_length_le (by omega)] at h4
        simp [h4]
  · go_enter Tryd.func32, Tryd.ntmps32
    go_wp2
    go_ret
    exact ⟨ret_bool (by rw [eq_comm, decide_eq_false_iff_not]; rintro rfl; exact hn rfl), Below.refl _ _⟩


theorem zeroStr (w : World) : (zeroValue 9).run Tryd.prog w = .ok (.string ⟨#[]⟩) w := by kernel_rfl

/-- The closure that asks whether a right is included. -/
theorem dropFn_c (B : Nat) (x s : Txt) (w : World) (hB : w.cell? ⟨B, 0, none⟩ = some (tv s)) : Calls Tryd.prog 47 #[tv x, .pointer (some ⟨B, 0, none⟩)] w fun e w' => e = .returned (.bool (covB s x)) ∧ w = w' := by
  go_enter Tryd.func47, Tryd.ntmps47
  go_wp2_with fail
  refine (hasPrefix_c x s _).mono ?_
  rintro e w1 ⟨rfl, rfl⟩
  go_wp2
  go_ret
  exact ⟨rfl, rfl⟩

/-- What stands in a row while elements are taken out of it: those that stay, something, those that were not looked at. -/
def gapped (F mid xs : List Txt) (j : Nat) : List Txt := F ++ mid ++ xs.drop j
theorem gapped_len {F mid xs : List Txt} {j : Nat} (h : F.length + mid.length = j) (hj : j ≤ xs.length) : (gapped F mid xs j).length = xs.length := by simp [gapped]; omega
theorem gapped_get {F mid xs : List Txt} {j : Nat} (h : F.length + mid.length = j) : (gapped F mid xs j)[j]? = xs[j]? := by
  unfold gapped
  rw [List.getElem?_append_right (by simp; omega), List.getElem?_drop]
  congr 1; simp; omega
theorem gapped_skip {F mid xs : List Txt} {j : Nat} {x : Txt} (hx : xs[j]? = some x) : gapped F mid xs j = gapped F (mid ++ [x]) xs (j + 1) := by
  unfold gapped
  obtain ⟨hl, rfl⟩ := List.getElem?_eq_some_iff.1 hx
  rw [List.drop_eq_getElem_cons hl]
  simp
theorem gapped_put {F mid xs : List Txt} {j : Nat} {x m : Txt} (hx : xs[j]? = some x) : (gapped F (m :: mid) xs j).set F.length x = gapped (F ++ [x]) (mid ++ [x]) xs (j + 1) := by
  unfold gapped
  obtain ⟨hl, rfl⟩ := List.getElem?_eq_some_iff.1 hx
  rw [List.drop_eq_getElem_cons hl]
  simp [List.set_append]
theorem gapped_cut {F mid xs : List Txt} (j : Nat) : (gapped F mid xs j).take F.length = F := by simp [gapped, List.append_assoc]

/-- The rights that another one does not include. -/
def keepL (xs : List Txt) (s : Txt) : List Txt := xs.filter fun r => !covB s r

theorem idx_found {α : Type} {p : α → Bool} {xs : List α} (h : xs.any p = true) : ∃ (k : Nat) (x : α), idxOf p xs = (k : Int) ∧ xs[k]? = some x ∧ p x = true ∧ (xs.take k).any p = false := by
  have hlt : xs.findIdx p < xs.length := List.findIdx_lt_length.2 (by simpa using h)
  refine ⟨xs.findIdx p, xs[xs.findIdx p], by unfold idxOf; rw [if_pos h], List.getElem?_eq_getElem hlt, List.findIdx_getElem, ?_⟩
  rw [List.any_eq_false]
  intro x hx
  obtain ⟨i, hi, rfl⟩ := List.mem_take_iff_getElem.1 hx
  have := List.not_of_lt_findIdx (p := p) (xs := xs) (i := i) (by omega)
  simpa using this

theorem filter_none {xs : List Txt} {s : Txt} (h : xs.any (fun r => covB s r) = false) : keepL xs s = xs := by
  unfold keepL
  rw [List.filter_eq_self]
  intro x hx
  rw [List.any_eq_false] at h
  have := h x hx
  simpa using this
theorem keep_le (xs : List Txt) (s : Txt) (k : Nat) : (keepL (xs.take k) s).length ≤ k := Nat.le_trans (List.length_filter_le _ _) (by simp; omega)

set_option maxHeartbeats 4000000 in
theorem deleteStr_c (xs : List Txt) (v : Value) (s : Txt) (B : Nat) (base : Nat) (w : World) (hx : OwS base w v xs) (hB : w.cell? ⟨B, 0, none⟩ = some (tv s)) (hne : ∀ g, v.ownBlock = some g → g ≠ B) (hl : xs.length ≤ 1000) :
    Calls Tryd.prog 45 #[v, .func (.func 47) #[] #[.pointer (some ⟨B, 0, none⟩)]] w fun e w' =>
    ∃ u, e = .returned u ∧ OwS base w' u (keepL xs s) ∧ u.ownBlock = v.ownBlock ∧ (∀ g, v.ownBlock = some g → w.grownBy w' (some g)) ∧ (v.ownBlock = none → Below w.heap.size w w') := by
  have hp : ∀ (k : Nat) (m : Txt) (p : Bool) W, xs[k]? = some m → (xs.map fun r => covB s r)[k]? = some p → Below w.heap.size w W → Calls Tryd.prog 47 (#[tv m] ++ #[.pointer (some ⟨B, 0, none⟩)]) W fun e W' => e = .returned (.bool p) ∧ Below W.heap.size W W' := by
    intro k m p W hm hp hb
    have := get_map hm hp
    subst this
    refine (dropFn_c B m s W ((hb.cell (p := ⟨B, 0, none⟩) (World.block_lt_of_cell? w ⟨B, 0, none⟩ hB)).trans hB)).mono ?_
    rintro e w' ⟨rfl, rfl⟩
    exact ⟨rfl, bref _⟩
  have HE := enters_of (P := Tryd.prog) (f := 47) Tryd.func47 (by kernel_rfl) rfl
  have HC := Lib.hid (idxStr_c 47 #[.pointer (some ⟨B, 0, none⟩)] (xs.map fun r => covB s r) xs v w (by simp) (hx.rd encS_len) HE hp)
  rw [idxOf_map] at HC
  cases hf : xs.any (fun r => covB s r)
  · have HF := Lib.hid (show idxOf (fun r => covB s r) xs = -1 by simp [idxOf, hf])
    have HK := Lib.hid (filter_none hf)
    have HX := Lib.hid hx
    clear hx hp HE hf hB hne
    go_enter Tryd.func45, Tryd.ntmps45
    go_wp2_with fail
    refine HC.out.mono ?_
    rintro e w1 ⟨rfl, hb1⟩
    rw [HF.out]
    go_wp2
    go_ret
    exact ⟨v, rfl, by rw [HK.out]; exact HX.out.below hb1, rfl, fun g _ => below_grown hb1 _, fun _ => hb1⟩
  · obtain ⟨i, x, hi, hxi, hpx, hpre⟩ := idx_found hf
    have HF := Lib.hid hi
    have hin : i < xs.length := (List.getElem?_eq_some_iff.1 hxi).1
    rcases hx.2 with ⟨-, hz⟩ | ⟨g, c, cur, rfl, hbg, -, -, hcm, -, -⟩
    · omega
    have hgB : g ≠ B := hne g rfl
    have hpre' : keepL (xs.take i) s = xs.take i := filter_none hpre
    have hF0 : keepL (xs.take (i + 1)) s = xs.take i := by
      unfold keepL at hpre' ⊢
      rw [skip_succ hxi hpx, hpre']
    have h0 : gapped (keepL (xs.take (i + 1)) s) [x] xs (i + 1) = xs := by
      rw [hF0]
      unfold gapped
      obtain ⟨hl, rfl⟩ := List.getElem?_eq_some_iff.1 hxi
      rw [List.append_assoc, List.singleton_append, ← List.drop_eq_getElem_cons hl, List.take_append_drop]
    have HL0 := Lib.hid (show (keepL (xs.take (i + 1)) s).length = i by rw [hF0]; simp; omega)
    have HH0 := Lib.hid h0
    have HX := Lib.hid hx
    obtain ⟨n, hn⟩ : ∃ n, n = xs.length := ⟨_, rfl⟩
    rw [← hn] at HC hin hl HX ⊢
    have HN := Lib.hid hn
    have HBC := Lib.hid hB
    have hBs := World.block_lt_of_cell? w ⟨B, 0, none⟩ hB
    unfold maxLen at hcm
    have hib : ((i : Int) == -1) = false := by rw [beq_eq_false_iff_ne]; omega
    clear hx hp HE hf hB hne hi hxi hpx hpre hpre' hF0 h0 hn
    go_enter Tryd.func45, Tryd.ntmps45
    go_wp2_with fail
    refine HC.out.mono ?_
    rintro e w1 ⟨rfl, hb1⟩
    rw [HF.out]
    have HX1 := Lib.hid (show OwS base w1 (.slice (some ⟨g, 0, none⟩) n c) (gapped (keepL (xs.take (i + 1)) s) [x] xs (i + 1)) by rw [HH0.out]; exact HX.out.below hb1)
    have HG1 := Lib.hid (below_grown hb1 (some g))
    go_wp2
    go_loopw [5, 6] (fun p q wr => ∃ (j f : Nat) (m : Txt) (mid : List Txt), j ≤ n ∧ q = .int .i64 j ∧ p = .int .i64 f ∧ Hid (f = (keepL (xs.take j) s).length) ∧ f + mid.length + 1 = j ∧ w.grownBy wr (some g) ∧ OwS base wr (.slice (some ⟨g, 0, none⟩) n c) (gapped (keepL (xs.take j) s) (m :: mid) xs j)) (fun _ q _ => n - (intOf q).toNat)
    case atStart => exact ⟨i + 1, i, x, [], by omega, by go_num, rfl, HL0.out.symm, by simp, HG1.out, HX1.out⟩
    case round =>
      obtain ⟨j, f, m, mid, hj, rfl, rfl, hf, hfm, hg, hok⟩ := hrel
      have HG := Lib.hid hg
      have HOK := Lib.hid hok
      clear hg hok
      by_cases hlt : j < n
      · obtain ⟨y, hy⟩ : ∃ y, xs[j]? = some y := ⟨_, List.getElem?_eq_getElem (by have := HN.out; omega)⟩
        obtain ⟨e0, e1, e2, e3, e4, hfz, hcs⟩ := HOK.out.open encS_len
        have d0 := hcs j y 0 _ (by rw [gapped_get (by rw [← hf.out, List.length_cons]; omega)]; exact hy) rfl
        obtain ⟨z, hz⟩ : ∃ z, (gapped (keepL (xs.take j) s) (m :: mid) xs j)[f]? = some z := ⟨_, List.getElem?_eq_getElem (by omega)⟩
        have d1 := hcs f z 0 _ hz rfl
        have f1 := hfz f
        simp only [Nat.mul_one, Nat.add_zero] at d0 d1
        have c0 : wr.cell? ⟨B, 0, none⟩ = some (tv s) := (World.cell?_of_block (HG.out.block B hBs (by simp; exact fun e => hgB e.symm))).trans HBC.out
        have HY := Lib.hid hy
        have HE0 := Lib.hid e0
        clear hcs hfz hz hy e0
        go_wp2_with fail
        refine (dropFn_c B y s _ c0).mono ?_
        rintro e w2 ⟨rfl, rfl⟩
        cases hv : covB s y
        · have HV := Lib.hid hv
          have HK := Lib.hid (show keepL (xs.take (j + 1)) s = keepL (xs.take j) s ++ [y] from keep_succ HY.out hv)
          clear hv
          go_wp2
          have hok2 := HOK.out.stored1 encS_len f y _ (by have := HE0.out; omega) rfl
          rw [hf.out, gapped_put HY.out, ← HK.out, ← hf.out] at hok2
          obtain ⟨m', mid', hmm⟩ : ∃ m' mid', mid ++ [y] = m' :: mid' := by cases mid <;> simp
          rw [hmm] at hok2
          have hml := congrArg List.length hmm
          simp only [List.length_append, List.length_cons, List.length_nil] at hml
          have HOK2 := Lib.hid hok2
          clear hok2 hmm
          go_roundw
          case rel => exact ⟨j + 1, f + 1, m', mid', by omega, by go_num, by go_num, by show _ = _; rw [HK.out, List.length_append, ← hf.out]; rfl, by omega, grown_set HG.out _ _, HOK2.out⟩
          case measure => simp [intOf]; omega
        · have HV := Lib.hid hv
          have HK := Lib.hid (show keepL (xs.take (j + 1)) s = keepL (xs.take j) s from skip_succ HY.out hv)
          clear hv
          have HOK2 := Lib.hid HOK.out
          go_wp2
          go_roundw
          case rel => exact ⟨j + 1, f, m, mid ++ [y], by omega, by go_num, rfl, by show _ = _; rw [HK.out]; exact hf.out, by simp; omega, HG.out, by have h := HOK.out; rw [gapped_skip HY.out, ← HK.out] at h; exact h⟩
          case measure => simp [intOf]; omega
      · obtain rfl : j = n := by omega
        obtain ⟨e0, e1, e2, e3, e4, -, -⟩ := HOK.out.open encS_len
        have HCUT := Lib.hid (HOK.out.cut encS_len (i := f) (by omega))
        have hcc : (c = f) = False := by simp; omega
        have k0 : (0 : Int) ≤ (f : Int) := by omega
        have k1 : (f : Int) ≤ (j : Int) := by omega
        have k2 : (f : Int) ≤ (c : Int) := by omega
        have HTK := Lib.hid (show (gapped (keepL (xs.take j) s) (m :: mid) xs j).take f = keepL xs s by rw [hf.out, gapped_cut, List.take_of_length_le (by have := HN.out; omega)])
        clear e0
        go_wp2_with ((with_reducible refine clear_T eltStr zeroStr rfl (by decide) rfl _ rfl base g f c (j - f) (c - f) f _ rfl (by omega) (by omega) HCUT.out (by omega) ?_); intro w2 ho2 hg2)
        go_ret
        refine ⟨_, rfl, by rw [← HTK.out]; exact ho2, rfl, fun g' hg' => ?_, fun h => by simp [Value.ownBlock] at h⟩
        simp [Value.ownBlock] at hg'
        subst hg'
        exact HG.out.trans hg2
end Go.Proofs.YtldkmibmabpfmaaDoor
