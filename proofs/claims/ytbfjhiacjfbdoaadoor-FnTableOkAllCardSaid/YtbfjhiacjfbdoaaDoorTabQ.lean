/- What the statements on tables ask of the plain functions. No conditions. -/
import Derived.Test.YtbfjhiacjfbdoaaDoorTabP
namespace Go.Proofs.YtbfjhiacjfbdoaaDoor
set_option linter.all false
set_option maxRecDepth 100000

theorem arg_parts {m : List (List Int)} {xs : List Info} {f : Int} (h : argB m xs f = true) : memOk m = true ∧ infosOk xs = true ∧ ∃ k : Nat, f = (k : Int) ∧ k < 12 ∧ (∃ ws, m[k]? = some ws ∧ wordsOk ws = true ∧ ws.length = 4 ∧ rowAt m f = ws) ∧ ∃ x, xs[k]? = some x ∧ infoOk x = true ∧ infAt xs f = x := by
  simp only [argB, Bool.and_eq_true] at h
  obtain ⟨⟨hm, hf⟩, hx⟩ := h
  simp only [btw, decide_eq_true_eq] at hf
  obtain ⟨k, rfl⟩ := Int.eq_ofNat_of_zero_le hf.1
  have hk : k < 12 := by omega
  have hml := memOk_len hm
  have hxl : xs.length = 12 := by simp [infosOk] at hx; exact hx.1
  have h1 : m[k]? = some m[k] := List.getElem?_eq_getElem (by omega)
  have h2 : xs[k]? = some xs[k] := List.getElem?_eq_getElem (by omega)
  have hw := memOk_all hm (List.mem_of_getElem? h1)
  exact ⟨hm, hx, k, rfl, hk, ⟨_, h1, hw, wordsOk_len hw, rowAt_eq h1⟩, _, h2, infosOk_all hx (List.mem_of_getElem? h2), infAt_eq h2⟩

theorem rights_nil : rightsOk [[]] = true := by decide
theorem may_nil (g : Txt) : mayB [[]] g = true := by simp [mayB, cov_nil]
theorem tok_parts {m : List (List Int)} {xs : List Info} {f kind : Int} {rs : List Txt} (h : tokB m xs f kind rs = true) : argB m xs f = true ∧ tabK kind = true ∧ rightsOk rs = true ∧ goodB m xs f kind rs = true := by
  simp only [tokB, Bool.and_eq_true] at h
  exact ⟨h.1.1.1, h.1.1.2, h.1.2, h.2⟩
theorem wGood_may {xs : List Info} {f kind : Int} {rs : List Txt} {x : Int} (h : wGood xs f kind rs x = true) : wGood xs f kind [[]] x = true := by
  unfold wGood at h ⊢
  by_cases he : entB x = true
  · rw [if_pos he] at h ⊢
    simp only [Bool.and_eq_true] at h
    simp only [h.1, h.2.1, may_nil, Bool.and_self]
  · rw [if_neg he] at h ⊢; exact h
theorem tok_all {m : List (List Int)} {xs : List Info} {f kind : Int} {rs : List Txt} (h : tokB m xs f kind rs = true) : tokB m xs f kind [[]] = true ∧ tokB m xs f 1 rs = false := by
  obtain ⟨h1, h2, h3, h4⟩ := tok_parts h
  constructor
  · have : goodB m xs f kind [[]] = true := by
      unfold goodB at h4 ⊢
      rw [List.all_eq_true] at h4 ⊢
      exact fun x hx => wGood_may (h4 x hx)
    simp [tokB, h1, h2, rights_nil, this]
  · simp [tokB, tabK]

/-- A frame of zeros. -/
def clearM (m : List (List Int)) (k : Nat) : List (List Int) := m.set k [0, 0, 0, 0]
theorem clear_ok {m : List (List Int)} {k : Nat} (h : memOk m = true) : memOk (clearM m k) = true := by
  simp only [memOk, Bool.and_eq_true, decide_eq_true_eq, Bool.not_eq_true', List.any_eq_false] at h ⊢
  refine ⟨by unfold clearM; rw [List.length_set]; exact h.1, fun ws hw => ?_⟩
  rcases List.mem_or_eq_of_mem_set hw with hw | rfl
  · exact h.2 ws hw
  · decide
theorem put_ok {m : List (List Int)} {k : Nat} {ws : List Int} (h : memOk m = true) (hw : wordsOk ws = true) : memOk (m.set k ws) = true := by
  simp only [memOk, Bool.and_eq_true, decide_eq_true_eq, Bool.not_eq_true', List.any_eq_false] at h ⊢
  refine ⟨by rw [List.length_set]; exact h.1, fun vs hv => ?_⟩
  rcases List.mem_or_eq_of_mem_set hv with hv | rfl
  · exact h.2 vs hv
  · simp [hw]
theorem words_set {ws : List Int} {i : Nat} {x : Int} (h : wordsOk ws = true) (hx : 0 ≤ x ∧ x ≤ 9999) : wordsOk (ws.set i x) = true := by
  simp only [wordsOk, Bool.and_eq_true, decide_eq_true_eq, Bool.not_eq_true', List.any_eq_false] at h ⊢
  refine ⟨by rw [List.length_set]; exact h.1, fun y hy => ?_⟩
  rcases List.mem_or_eq_of_mem_set hy with hy | rfl
  · exact h.2 y hy
  · simp [btw]; omega
theorem clear_good {m : List (List Int)} {xs : List Info} {k : Nat} {kind : Int} {rs : List Txt} (hl : m.length = 12) (hk : k < 12) : goodB (clearM m k) xs (k : Int) kind rs = true := by
  have : rowAt (clearM m k) (k : Int) = [0, 0, 0, 0] := rowAt_eq (by simp [clearM, hl, hk])
  simp [goodB, this, wGood, entB]
theorem self_word (k : Nat) (hk : k < 12) : entB (4 * (k : Int) + 3) = true ∧ (4 * (k : Int) + 3) / 4 = (k : Int) := by
  rw [entB_iff]; omega
theorem self_bad {m : List (List Int)} {xs : List Info} {k : Nat} {ws : List Int} {kind : Int} {rs : List Txt} (hl : m.length = 12) (hk : k < 12) (hw : ws.length = 4) : goodB (m.set k (ws.set 0 (4 * (k : Int) + 3))) xs (k : Int) kind rs = false := by
  have : rowAt (m.set k (ws.set 0 (4 * (k : Int) + 3))) (k : Int) = ws.set 0 (4 * (k : Int) + 3) := rowAt_eq (by simp [hl, hk])
  unfold goodB
  rw [this, List.all_eq_false]
  refine ⟨4 * (k : Int) + 3, List.mem_of_getElem? (i := 0) (by simp [hw]), ?_⟩
  obtain ⟨h1, h2⟩ := self_word k hk
  simp [wGood, h1, h2]

/-- A frame that is pinned, or made one of data again. -/
def pinned (m : List (List Int)) (xs : List Info) (f kind : Int) : List Info := setK (addR xs (fun i => 1 * cntI (names (rowAt m f)) i)) f.toNat kind
def unpd (m : List (List Int)) (xs : List Info) (f : Int) : List Info := setK (addR xs (fun i => -1 * cntI (names (rowAt m f)) i)) f.toNat 1
def pinA (m : List (List Int)) (xs : List Info) (f kind : Int) (rs : List Txt) : Bool := argB m xs f && tabK kind && rightsOk rs
def busyB (xs : List Info) (f : Int) : Bool := !decide ((infAt xs f).kd = 1) || !decide ((infAt xs f).rf = 0)
def pinC (m : List (List Int)) (xs : List Info) (f kind : Int) (rs : List Txt) : Int :=
  if pinA m xs f kind rs then (if busyB xs f then 1 else if goodB m xs f kind rs then (if infosOk (pinned m xs f kind) then 0 else 1) else 2) else 3
def pinL (m : List (List Int)) (xs : List Info) (f kind : Int) (rs : List Txt) : List Info :=
  if pinA m xs f kind rs then (if pinC m xs f kind rs = 0 then pinned m xs f kind else xs) else []
def ubusyB (xs : List Info) (f : Int) : Bool := !tabK (infAt xs f).kd || !decide ((infAt xs f).rf = 0)
def unpC (m : List (List Int)) (xs : List Info) (f : Int) : Int :=
  if argB m xs f then (if ubusyB xs f then 1 else if infosOk (unpd m xs f) then 0 else 2) else 3
def unpL (m : List (List Int)) (xs : List Info) (f : Int) : List Info := if argB m xs f then (if unpC m xs f = 0 then unpd m xs f else xs) else []

theorem pinned_len (m : List (List Int)) (xs : List Info) (f kind : Int) : (pinned m xs f kind).length = xs.length := by simp [pinned, setK, addR_len]
theorem unpd_len (m : List (List Int)) (xs : List Info) (f : Int) : (unpd m xs f).length = xs.length := by simp [unpd, setK, addR_len]
theorem infAt_addR {xs : List Info} {g : Nat → Int} {k : Nat} {x : Info} (h : xs[k]? = some x) : infAt (addR xs g) (k : Int) = { x with rf := x.rf + g k } := infAt_eq (addR_get h)
theorem setK_get {xs : List Info} {k j : Nat} {kind : Int} {x : Info} (hx : xs[j]? = some x) : (setK xs k kind)[j]? = some (if j = k then { x with kd := kind } else x) := by
  unfold setK
  rw [List.getElem?_set]
  have hl := (List.getElem?_eq_some_iff.1 hx).1
  by_cases h : k = j
  · subst h; rw [if_pos rfl, if_pos hl, if_pos rfl, infAt_eq hx]
  · rw [if_neg h, if_neg (fun e => h e.symm)]; exact hx
theorem pinned_get {m : List (List Int)} {xs : List Info} {k j : Nat} {kind : Int} {x : Info} (hx : xs[j]? = some x) :
    (pinned m xs (k : Int) kind)[j]? = some ⟨if j = k then kind else x.kd, x.gd, x.rf + cntI (names (rowAt m (k : Int))) j⟩ := by
  unfold pinned
  have := setK_get (k := k) (kind := kind) (addR_get (g := fun i => 1 * cntI (names (rowAt m (k : Int))) i) hx)
  rw [Int.toNat_natCast, this]
  by_cases h : j = k <;> simp [h]
theorem unpd_get {m : List (List Int)} {xs : List Info} {k j : Nat} {x : Info} (hx : xs[j]? = some x) :
    (unpd m xs (k : Int))[j]? = some ⟨if j = k then 1 else x.kd, x.gd, x.rf - cntI (names (rowAt m (k : Int))) j⟩ := by
  unfold unpd
  have := setK_get (k := k) (kind := 1) (addR_get (g := fun i => -1 * cntI (names (rowAt m (k : Int))) i) hx)
  rw [Int.toNat_natCast, this]
  by_cases h : j = k <;> simp [h] <;> omega
end Go.Proofs.YtbfjhiacjfbdoaaDoor
