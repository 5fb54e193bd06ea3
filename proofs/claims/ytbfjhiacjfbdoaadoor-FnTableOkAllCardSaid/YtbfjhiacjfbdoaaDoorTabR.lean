/- What the statements on frames that become tables ask of the plain functions. No conditions. -/
import Derived.Test.YtbfjhiacjfbdoaaDoorTabQ
namespace Go.Proofs.YtbfjhiacjfbdoaaDoor
set_option linter.all false
set_option maxRecDepth 100000

theorem needK_zero {k : Int} : (needK k = 0) ↔ tabK k = false := by
  unfold needK
  cases h : tabK k
  · simp
  · rw [tabK_iff] at h
    rcases h with rfl | rfl <;> simp
theorem pinA_arg {m : List (List Int)} {xs : List Info} {f kind : Int} {rs : List Txt} (h : pinA m xs f kind rs = true) : argB m xs f = true ∧ tabK kind = true ∧ rightsOk rs = true := by
  simp only [pinA, Bool.and_eq_true] at h; exact ⟨h.1.1, h.1.2, h.2⟩
theorem pinC_bad {m : List (List Int)} {xs : List Info} {f kind : Int} {rs : List Txt} (h : pinA m xs f kind rs = false) : pinC m xs f kind rs = 3 ∧ pinL m xs f kind rs = [] := by simp [pinC, pinL, h]
theorem pinC_three {m : List (List Int)} {xs : List Info} {f kind : Int} {rs : List Txt} (h : pinA m xs f kind rs = true) : pinC m xs f kind rs ≠ 3 := by
  unfold pinC
  rw [if_pos h]
  split
  · decide
  · split
    · split <;> decide
    · decide
theorem pinC_busy {m : List (List Int)} {xs : List Info} {f kind : Int} {rs : List Txt} (h : pinA m xs f kind rs = true) (hb : busyB xs f = true) : pinC m xs f kind rs = 1 := by simp [pinC, h, hb]
theorem pinL_keep {m : List (List Int)} {xs : List Info} {f kind : Int} {rs : List Txt} (h : pinA m xs f kind rs = true) (hc : pinC m xs f kind rs ≠ 0) : pinL m xs f kind rs = xs := by simp [pinL, h, hc]
theorem pin_done {m : List (List Int)} {xs : List Info} {f kind : Int} {rs : List Txt} (hc : pinC m xs f kind rs = 0) : pinA m xs f kind rs = true ∧ busyB xs f = false ∧ goodB m xs f kind rs = true ∧ infosOk (pinned m xs f kind) = true ∧ pinL m xs f kind rs = pinned m xs f kind := by
  unfold pinC at hc
  cases h : pinA m xs f kind rs
  · simp [h] at hc
  · cases hb : busyB xs f
    · cases hg : goodB m xs f kind rs
      · simp [h, hb, hg] at hc
      · cases hi : infosOk (pinned m xs f kind)
        · simp [h, hb, hg, hi] at hc
        · refine ⟨rfl, rfl, rfl, rfl, ?_⟩
          have : pinC m xs f kind rs = 0 := by simp [pinC, h, hb, hg, hi]
          simp [pinL, h, this]
    · simp [h, hb] at hc
theorem pinC_two {m : List (List Int)} {xs : List Info} {f kind : Int} {rs : List Txt} (h : pinA m xs f kind rs = true) : (pinC m xs f kind rs == 2) = (!busyB xs f && !tokB m xs f kind rs) := by
  have ht : tokB m xs f kind rs = goodB m xs f kind rs := by
    have h2 : (argB m xs f && tabK kind && rightsOk rs) = true := h
    simp only [tokB, h2, Bool.true_and]
  rw [ht]
  unfold pinC
  rw [if_pos h]
  cases busyB xs f <;> cases goodB m xs f kind rs <;> cases infosOk (pinned m xs f kind) <;> rfl
theorem busy_eq {xs : List Info} {f : Int} {x : Info} (hx : infAt xs f = x) (h0 : 0 ≤ x.rf) : busyB xs f = ((x.kd != 1) || decide (0 < x.rf)) := by
  unfold busyB
  rw [hx]
  by_cases h1 : x.kd = 1 <;> by_cases h2 : x.rf = 0 <;> simp [h1, h2] <;> omega
theorem ubusy_eq {xs : List Info} {f : Int} {x : Info} (hx : infAt xs f = x) (h0 : 0 ≤ x.rf) : ubusyB xs f = ((needK x.kd == 0) || decide (0 < x.rf)) := by
  unfold ubusyB
  rw [hx]
  have h1 : (needK x.kd == 0) = !tabK x.kd := by
    rw [Bool.eq_iff_iff, beq_iff_eq, needK_zero]; simp
  rw [h1]
  by_cases h2 : x.rf = 0 <;> simp [h2] <;> omega
theorem unpC_vals {m : List (List Int)} {xs : List Info} {f : Int} (h : argB m xs f = true) : unpC m xs f ≠ 3 ∧ (unpC m xs f == 1) = ubusyB xs f ∧ (unpC m xs f ≠ 0 → unpL m xs f = xs) ∧ (unpC m xs f = 0 → unpL m xs f = unpd m xs f) := by
  have hc : unpC m xs f = (if ubusyB xs f then 1 else if infosOk (unpd m xs f) then 0 else 2) := by simp [unpC, h]
  have hl : unpL m xs f = (if unpC m xs f = 0 then unpd m xs f else xs) := by simp [unpL, h]
  refine ⟨?_, ?_, fun hn => by rw [hl, if_neg hn], fun hn => by rw [hl, if_pos hn]⟩
  · rw [hc]; split
    · decide
    · split <;> decide
  · rw [hc]; cases ubusyB xs f <;> cases infosOk (unpd m xs f) <;> rfl
theorem unp_bad {m : List (List Int)} {xs : List Info} {f : Int} (h : argB m xs f = false) : unpC m xs f = 3 ∧ unpL m xs f = [] := by simp [unpC, unpL, h]

/-- A good table does not name itself. -/
theorem good_self {m : List (List Int)} {xs : List Info} {f kind : Int} {rs : List Txt} {k : Nat} (hf : f = (k : Int)) (h : goodB m xs f kind rs = true) : cntI (names (rowAt m f)) k = 0 := by
  unfold cntI
  have : (names (rowAt m f)).count (k : Int) = 0 := by
    rw [List.count_eq_zero]
    intro hm
    unfold names at hm
    obtain ⟨x, hx, he⟩ := List.mem_map.1 hm
    obtain ⟨hx, hb⟩ := List.mem_filter.1 hx
    unfold goodB at h
    rw [List.all_eq_true] at h
    have := h x hx
    unfold wGood at this
    rw [if_pos hb, he, hf] at this
    simp at this
  omega

theorem back_list {m : List (List Int)} {xs : List Info} {k : Nat} {kind : Int} {x : Info} (hx : xs[k]? = some x) (h1 : x.kd = 1) : unpd m (pinned m xs (k : Int) kind) (k : Int) = xs := by
  apply List.ext_getElem?
  intro i
  cases hi : xs[i]? with
  | none =>
    apply List.getElem?_eq_none
    rw [unpd_len, pinned_len]
    exact List.getElem?_eq_none_iff.1 hi
  | some y =>
    rw [unpd_get (pinned_get hi)]
    by_cases h : i = k
    · subst h
      rw [hx] at hi
      simp only [Option.some.injEq] at hi
      subst hi
      obtain ⟨a, b, c⟩ := x
      simp only at h1
      subst h1
      simp only [if_true]
      congr 2
      omega
    · obtain ⟨a, b, c⟩ := y
      simp only [if_neg h]
      congr 2
      omega

theorem pin_back {m : List (List Int)} {xs : List Info} {f kind : Int} {rs : List Txt} (hc : pinC m xs f kind rs = 0) : unpC m (pinned m xs f kind) f = 0 ∧ unpL m (pinned m xs f kind) f = xs := by
  obtain ⟨ha, hb, hg, hi, -⟩ := pin_done hc
  obtain ⟨ha1, ha2, ha3⟩ := pinA_arg ha
  obtain ⟨hm, hx, k, rfl, hk, -, x, hxk, -, hat⟩ := arg_parts ha1
  have hkd : x.kd = 1 ∧ x.rf = 0 := by
    unfold busyB at hb
    rw [hat] at hb
    simpa using hb
  have harg : argB m (pinned m xs (k : Int) kind) (k : Int) = true := by
    simp only [argB, Bool.and_eq_true] at ha1 ⊢
    exact ⟨ha1.1, hi⟩
  have hback := back_list (m := m) (kind := kind) hxk hkd.1
  have hub : ubusyB (pinned m xs (k : Int) kind) (k : Int) = false := by
    unfold ubusyB
    rw [infAt_eq (pinned_get hxk)]
    simp [ha2, hkd.2, good_self rfl hg]
  have hcc : unpC m (pinned m xs (k : Int) kind) (k : Int) = 0 := by simp [unpC, harg, hub, hback, hx]
  exact ⟨hcc, by simp [unpL, harg, hcc, hback]⟩

theorem cntTo_pin {m : List (List Int)} {xs : List Info} {k : Nat} {kind : Int} {x : Info} (hl : xs.length = 12) (hx : xs[k]? = some x) (h1 : x.kd = 1) (hk : tabK kind = true) (f : Nat) : ∀ t, t ≤ 12 →
    cntTo m (pinned m xs (k : Int) kind) t f = cntTo m xs t f + if k < t then cntI (names (rowAt m (k : Int))) f else 0 := by
  intro t
  induction t with
  | zero => intro _; simp [cntTo]
  | succ t ih =>
    intro ht
    have hi := ih (by omega)
    have hy : xs[t]? = some xs[t] := List.getElem?_eq_getElem (by omega)
    unfold cntTo
    rw [hi, infAt_eq (pinned_get hy), infAt_eq hy]
    by_cases h : t = k
    · subst h
      rw [hy] at hx
      simp only [Option.some.injEq] at hx
      have h2 : tabK xs[t].kd = false := by rw [hx, h1]; decide
      simp [hk, h2]
    · by_cases h3 : k < t
      · have h4 : k < t + 1 := by omega
        simp only [if_neg h, if_pos h3, if_pos h4]; omega
      · have h4 : ¬ k < t + 1 := by omega
        simp only [if_neg h, if_neg h3, if_neg h4]; omega

theorem pin_count {m : List (List Int)} {xs : List Info} {f kind : Int} {rs : List Txt} (hc : pinC m xs f kind rs = 0) :
    ∃ (k : Nat) (x : Info), f = (k : Int) ∧ k < 12 ∧ xs[k]? = some x ∧ cntL m xs = cnt m xs ∧ cntL m (pinned m xs f kind) = cnt m (pinned m xs f kind) ∧ tokB m xs f kind rs = true ∧ (pinned m xs f kind)[k]? = some ⟨kind, x.gd, x.rf + cntI (names (rowAt m f)) k⟩ ∧
      ∀ j y, xs[j]? = some y → ∃ z, (pinned m xs f kind)[j]? = some z ∧ z.gd = y.gd ∧ (j ≠ k → z.kd = y.kd) ∧ z.rf - y.rf = cntTo m (pinned m xs f kind) 12 j - cntTo m xs 12 j := by
  obtain ⟨ha, hb, hg, hi, -⟩ := pin_done hc
  obtain ⟨ha1, ha2, ha3⟩ := pinA_arg ha
  obtain ⟨hm, hx, k, rfl, hk, -, x, hxk, -, hat⟩ := arg_parts ha1
  have hkd : x.kd = 1 := by
    unfold busyB at hb
    rw [hat] at hb
    have : x.kd = 1 ∧ x.rf = 0 := by simpa using hb
    exact this.1
  have hl : xs.length = 12 := by simp [infosOk] at hx; exact hx.1
  refine ⟨k, x, rfl, hk, hxk, by simp [cntL, hm, hx], by simp [cntL, hm, hi], by simp [tokB, ha1, ha2, ha3, hg], by simpa using pinned_get (m := m) (k := k) (kind := kind) hxk, fun j y hy => ⟨_, pinned_get hy, rfl, fun hne => by simp [hne], ?_⟩⟩
  rw [cntTo_pin hl hxk hkd ha2 j 12 (Nat.le_refl _), if_pos hk]
  simp only
  omega
end Go.Proofs.YtbfjhiacjfbdoaaDoor
