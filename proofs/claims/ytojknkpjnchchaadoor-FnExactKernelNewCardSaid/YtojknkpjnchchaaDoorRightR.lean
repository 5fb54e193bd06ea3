/- What the statements on rights ask of the plain functions. No conditions. -/
import Derived.Test.YtojknkpjnchchaaDoorRightQ
namespace Go.Proofs.YtojknkpjnchchaaDoor
set_option linter.all false
set_option maxRecDepth 100000

def rcB (a b : Txt) : Bool := rightOk a && rightOk b && covB a b
def rmB (xs : List Txt) (g : Txt) : Bool := rightsOk xs && rightOk g && mayB xs g

theorem rightOk_sub {a b : Txt} (h : covB a b = true) (hb : rightOk b = true) : rightOk a = true := by
  obtain ⟨c, rfl⟩ := cov_iff.1 h
  simp only [rightOk, Bool.and_eq_true, decide_eq_true_eq, List.length_append, List.all_append] at hb ⊢
  exact ⟨by omega, hb.2.1⟩
theorem rightOk_nil : rightOk [] = true := by decide
theorem rc_two {a b : Txt} (h : rcB a b = true) : rcB b a = decide (a = b) ∧ rcB a a = true ∧ rcB [] b = true := by
  simp only [rcB, Bool.and_eq_true] at h
  obtain ⟨⟨ha, hb⟩, hc⟩ := h
  refine ⟨?_, by simp [rcB, ha, cov_refl], by simp [rcB, hb, rightOk_nil, cov_nil]⟩
  by_cases he : a = b
  · subst he; simp [rcB, ha, cov_refl]
  · have hn : covB b a = false := by
      cases hba : covB b a
      · rfl
      · exact absurd (cov_antisymm hc hba) he
    simp [rcB, hn, he]
theorem rm_long {xs : List Txt} {g : Txt} {c : UInt8} (h : rmB xs g = true) : rmB xs (g ++ [c]) = rightOk (g ++ [c]) := by
  simp only [rmB, Bool.and_eq_true] at h
  obtain ⟨⟨hv, hg⟩, hm⟩ := h
  obtain ⟨s, hs, hc⟩ := List.any_eq_true.1 hm
  have : mayB xs (g ++ [c]) = true := List.any_eq_true.2 ⟨s, hs, cov_trans hc (cov_iff.2 ⟨[c], rfl⟩)⟩
  simp [rmB, hv, this]
theorem rm_some {xs : List Txt} {g : Txt} (hv : rightsOk xs = true) (hg : rightOk g = true) : rmB xs g = xs.any (fun s => rcB s g) := by
  simp only [rmB, hv, hg, Bool.and_self, Bool.true_and]
  unfold mayB
  rw [Bool.eq_iff_iff, List.any_eq_true, List.any_eq_true]
  constructor
  · rintro ⟨s, hs, hc⟩; exact ⟨s, hs, by simp [rcB, hg, hc, rightsOk_all hv s hs]⟩
  · rintro ⟨s, hs, hc⟩
    simp only [rcB, Bool.and_eq_true] at hc
    exact ⟨s, hs, hc.2⟩
theorem rights_less {xs : List Txt} (k : Nat) (h : rightsOk xs = true) : rightsOk (xs.take k ++ xs.drop (k + 1)) = true := by
  refine rightsOk_sub h ?_
  rw [← List.eraseIdx_eq_take_drop_succ]
  exact List.eraseIdx_sublist _ _
theorem rights_twice {xs : List Txt} {k : Nat} {x : Txt} (hx : xs[k]? = some x) : rightsOk (xs.take (k + 1) ++ xs.drop k) = false := by
  cases h : rightsOk (xs.take (k + 1) ++ xs.drop k)
  · rfl
  · exfalso
    have hp := rightsOk_asc h
    obtain ⟨hl, rfl⟩ := List.getElem?_eq_some_iff.1 hx
    have := (List.pairwise_append.1 hp).2.2 xs[k] (by rw [List.mem_take_iff_getElem]; exact ⟨k, by omega, rfl⟩) xs[k] (List.mem_of_getElem? (i := 0) (by rw [List.getElem?_drop]; simpa using hx))
    exact txt_irrefl _ this
theorem drop_filter {xs : List Txt} {s : Txt} (hv : rightsOk xs = true) (hs : rightOk s = true) : dropL xs s = xs.filter (fun r => !rcB s r) := by
  unfold dropL
  simp only [hv, hs, Bool.and_self, if_true]
  refine List.filter_congr fun r hr => ?_
  simp [rcB, hs, rightsOk_all hv r hr]
theorem dropL_le (xs : List Txt) (s : Txt) : (dropL xs s).length ≤ 6 := by
  unfold dropL
  by_cases h : (rightsOk xs && rightOk s) = true
  · rw [if_pos h]
    simp only [Bool.and_eq_true] at h
    exact Nat.le_trans (List.length_filter_le _ _) (rightsOk_len h.1)
  · rw [if_neg h]; simp
theorem add_full {xs : List Txt} {s : Txt} (hv : rightsOk xs = true) (hs : rightOk s = true) : addB xs s = (hasB xs s || decide (xs.length < 6)) ∧ (addB xs s = false → addL xs s = xs) := by
  refine ⟨by simp [addB, hv, hs], fun h => ?_⟩
  simp only [addB, hv, hs, Bool.and_self, Bool.true_and, Bool.or_eq_false_iff, decide_eq_false_iff_not] at h
  simp only [addL, hv, hs, Bool.and_self, if_true, h.1, Bool.false_eq_true, if_false]
  rw [if_neg h.2]
end Go.Proofs.YtojknkpjnchchaaDoor
