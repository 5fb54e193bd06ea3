/- Plain facts on tables: the frames that words name, how often they are named. No conditions. -/
import Derived.Test.YtojknkpjnchchaaGreatDoorGInfo
import Derived.Test.YtojknkpjnchchaaGreatDoorGRight
import Derived.Test.YtojknkpjnchchaaGreatDoorGStr
namespace Go.Proofs.YtojknkpjnchchaaGreatDoor
set_option linter.all false
set_option maxRecDepth 100000

/-- A word names a frame. -/
def entB (x : Int) : Bool := decide (0 < x ∧ x % 2 = 1 ∧ x < 48)
def entI (x : Int) : Int := if entB x then x / 4 else 0
def entW (x : Int) : Bool := entB x && decide (x % 4 = 3)
theorem entB_iff {x : Int} : entB x = true ↔ 0 < x ∧ x % 2 = 1 ∧ x < 48 := by simp [entB]
theorem ent_lt {x : Int} (h : entB x = true) : 0 ≤ x / 4 ∧ x / 4 ≤ 11 := by rw [entB_iff] at h; omega
/-- The frames that words name. -/
def names (ws : List Int) : List Int := (ws.filter entB).map (· / 4)
theorem names_succ {ws : List Int} {k : Nat} {x : Int} (hx : ws[k]? = some x) (h : entB x = true) : names (ws.take (k + 1)) = names (ws.take k) ++ [x / 4] := by
  unfold names; rw [List.take_add_one, hx]; simp [List.filter_append, h]
theorem names_skip {ws : List Int} {k : Nat} {x : Int} (hx : ws[k]? = some x) (h : entB x = false) : names (ws.take (k + 1)) = names (ws.take k) := by
  unfold names; rw [List.take_add_one, hx]; simp [List.filter_append, h]
theorem names_mem {ws : List Int} {y : Int} (h : y ∈ names ws) : 0 ≤ y ∧ y ≤ 11 := by
  unfold names at h
  obtain ⟨x, hx, rfl⟩ := List.mem_map.1 h
  exact ent_lt (List.mem_filter.1 hx).2
theorem names_le (ws : List Int) : (names ws).length ≤ ws.length := by unfold names; rw [List.length_map]; exact List.length_filter_le _ _

/-- How often a frame is among those that are named. -/
def cntI (ns : List Int) (f : Nat) : Int := (ns.count (f : Int) : Nat)
theorem cntI_nil (f : Nat) : cntI [] f = 0 := rfl
theorem cntI_snoc (ns : List Int) (y : Int) (f : Nat) : cntI (ns ++ [y]) f = cntI ns f + if (f : Int) = y then 1 else 0 := by
  unfold cntI
  rw [List.count_append]
  by_cases h : (f : Int) = y
  · subst h; simp
  · rw [if_neg h, List.count_singleton, if_neg (by simpa using fun e => h e.symm)]; simp
theorem cntI_nonneg (ns : List Int) (f : Nat) : 0 ≤ cntI ns f := by unfold cntI; omega
theorem cntI_le (ns : List Int) (f : Nat) : cntI ns f ≤ ns.length := by unfold cntI; have := List.count_le_length (a := (f : Int)) (l := ns); omega

/-- A row of twelve numbers. -/
def tab (g : Nat → Int) : List Int := (List.range 12).map g
theorem tab_len (g : Nat → Int) : (tab g).length = 12 := by simp [tab]
theorem tab_get (g : Nat → Int) {f : Nat} (h : f < 12) : (tab g)[f]? = some (g f) := by simp [tab, h]
theorem tab_ext {g h : Nat → Int} (e : ∀ f, f < 12 → g f = h f) : tab g = tab h := by
  unfold tab
  refine List.map_congr_left fun f hf => e f (by simpa using hf)
theorem tab_set (g : Nat → Int) (n : Nat) (y : Int) : (tab g).set n y = tab (fun f => if f = n then y else g f) := by
  apply List.ext_getElem?
  intro i
  rw [List.getElem?_set]
  by_cases hi : i < 12
  · by_cases h : n = i
    · subst h; rw [if_pos rfl, if_pos (by rw [tab_len]; exact hi), tab_get _ hi, if_pos rfl]
    · rw [if_neg h, tab_get _ hi, tab_get _ hi, if_neg (fun e => h e.symm)]
  · have h1 : (tab g)[i]? = none := List.getElem?_eq_none (by rw [tab_len]; omega)
    have h2 : (tab (fun f => if f = n then y else g f))[i]? = none := List.getElem?_eq_none (by rw [tab_len]; omega)
    rw [h1, h2, tab_len]
    by_cases h : n = i
    · rw [if_pos h, if_neg (by omega)]
    · rw [if_neg h]
theorem tab_zero : List.replicate 12 (0 : Int) = tab (fun _ => 0) := by decide
theorem tab_bump {g : Nat → Int} {ns : List Int} {a : Nat → Int} {n : Nat} (hg : g = fun f => a f + cntI ns f) : (tab g).set n (g n + 1) = tab (fun f => a f + cntI (ns ++ [(n : Int)]) f) := by
  rw [tab_set]
  refine tab_ext fun f hf => ?_
  subst hg
  rw [cntI_snoc]
  dsimp only
  by_cases h : f = n
  · subst h; rw [if_pos rfl, if_pos rfl]; omega
  · rw [if_neg h, if_neg (by omega)]; omega

/-- A kind is that of a table. -/
def tabK (k : Int) : Bool := decide (k = 2) || decide (k = 3)
def needK (k : Int) : Int := if tabK k then k - 1 else 0
theorem tabK_iff {k : Int} : tabK k = true ↔ k = 2 ∨ k = 3 := by simp [tabK]
def memOk (m : List (List Int)) : Bool := decide (m.length = 12) && !(m.any fun ws => !wordsOk ws)
theorem memOk_len {m : List (List Int)} (h : memOk m = true) : m.length = 12 := by simp [memOk] at h; exact h.1
theorem memOk_all {m : List (List Int)} (h : memOk m = true) {ws : List Int} (hw : ws ∈ m) : wordsOk ws = true := by
  simp only [memOk, Bool.and_eq_true, Bool.not_eq_true', List.any_eq_false] at h
  have := h.2 ws hw
  simpa using this
theorem words_in {ws : List Int} (h : wordsOk ws = true) {x : Int} (hx : x ∈ ws) : 0 ≤ x ∧ x ≤ 9999 := by
  simp only [wordsOk, Bool.and_eq_true, Bool.not_eq_true', List.any_eq_false] at h
  have := h.2 x hx
  simpa [btw] using this
def rowAt (m : List (List Int)) (f : Int) : List Int := (m[f.toNat]?).getD []
theorem rowAt_eq {m : List (List Int)} {k : Nat} {ws : List Int} (h : m[k]? = some ws) : rowAt m (k : Int) = ws := by simp [rowAt, h]
theorem infAt_eq {xs : List Info} {k : Nat} {x : Info} (h : xs[k]? = some x) : infAt xs (k : Int) = x := by simp [infAt, h]

/-- A word may stand in a table of a kind at a frame. -/
def wGood (xs : List Info) (f kind : Int) (rs : List Txt) (x : Int) : Bool :=
  if entB x then !decide (x / 4 = f) && (decide ((infAt xs (x / 4)).kd = needK kind) && mayB rs (infAt xs (x / 4)).gd) else decide (x = 0)
def goodB (m : List (List Int)) (xs : List Info) (f kind : Int) (rs : List Txt) : Bool := (rowAt m f).all (wGood xs f kind rs)
def argB (m : List (List Int)) (xs : List Info) (f : Int) : Bool := memOk m && btw 0 f 11 && infosOk xs
def tokB (m : List (List Int)) (xs : List Info) (f kind : Int) (rs : List Txt) : Bool := argB m xs f && tabK kind && rightsOk rs && goodB m xs f kind rs

/-- How often the tables ahead of t name each frame. -/
def cntTo (m : List (List Int)) (xs : List Info) : Nat → Nat → Int
  | 0, _ => 0
  | t + 1, f => cntTo m xs t f + if tabK (infAt xs (t : Int)).kd then cntI (names (rowAt m (t : Int))) f else 0
def cnt (m : List (List Int)) (xs : List Info) : List Int := tab (cntTo m xs 12)
def cntL (m : List (List Int)) (xs : List Info) : List Int := if memOk m && infosOk xs then cnt m xs else []

/-- The frames' uses changed by what words name. -/
def addR (xs : List Info) (g : Nat → Int) : List Info := xs.mapIdx fun i x => { x with rf := x.rf + g i }
theorem addR_len (xs : List Info) (g : Nat → Int) : (addR xs g).length = xs.length := by simp [addR]
theorem addR_get {xs : List Info} {g : Nat → Int} {k : Nat} {x : Info} (h : xs[k]? = some x) : (addR xs g)[k]? = some { x with rf := x.rf + g k } := by
  simp [addR, List.getElem?_mapIdx, h]
theorem addR_ext {xs : List Info} {g h : Nat → Int} (e : ∀ f, f < xs.length → g f = h f) : addR xs g = addR xs h := by
  unfold addR
  apply List.ext_getElem?
  intro i
  rw [List.getElem?_mapIdx, List.getElem?_mapIdx]
  cases hx : xs[i]? with
  | none => rfl
  | some x => simp [e i (List.getElem?_eq_some_iff.1 hx).1]
theorem addR_zero (xs : List Info) : addR xs (fun _ => 0) = xs := by
  apply List.ext_getElem?
  intro i
  unfold addR
  rw [List.getElem?_mapIdx]
  cases hx : xs[i]? with
  | none => rfl
  | some x => simp
theorem addR_bump {xs : List Info} {n : Nat} {by_ : Int} {ns : List Int} {x : Info} (hx : xs[n]? = some x) :
    (addR xs (fun f => by_ * cntI ns f)).set n { x with rf := x.rf + by_ * cntI ns n + by_ } = addR xs (fun f => by_ * cntI (ns ++ [(n : Int)]) f) := by
  apply List.ext_getElem?
  intro i
  rw [List.getElem?_set]
  have hl : n < xs.length := (List.getElem?_eq_some_iff.1 hx).1
  by_cases h : n = i
  · subst h
    rw [if_pos rfl, if_pos (by rw [addR_len]; exact hl), addR_get hx, cntI_snoc, if_pos rfl, Int.mul_add, Int.mul_one, Int.add_assoc]
  · rw [if_neg h]
    unfold addR
    rw [List.getElem?_mapIdx, List.getElem?_mapIdx]
    cases hy : xs[i]? with
    | none => rfl
    | some y => simp [cntI_snoc, show ¬ (i : Int) = (n : Int) by omega]
theorem addR_set {xs : List Info} {g : Nat → Int} {n : Nat} {x : Info} {k : Int} (hx : xs[n]? = some x) : addR (xs.set n { x with kd := k }) g = (addR xs g).set n { x with kd := k, rf := x.rf + g n } := by
  apply List.ext_getElem?
  intro i
  unfold addR
  have hl : n < xs.length := (List.getElem?_eq_some_iff.1 hx).1
  rw [List.getElem?_mapIdx, List.getElem?_set, List.getElem?_set]
  by_cases h : n = i
  · subst h; simp [hl]
  · rw [if_neg h, if_neg h, List.getElem?_mapIdx]
/-- A frame's kind is another. -/
def setK (xs : List Info) (n : Nat) (k : Int) : List Info := xs.set n { infAt xs (n : Int) with kd := k }

theorem arg_parts {m : List (List Int)} {xs : List Info} {f : Int} (h : argB m xs f = true) : memOk m = true ∧ infosOk xs = true ∧ ∃ k : Nat, f = (k : Int) ∧ k < 12 ∧ (∃ ws, m[k]? = some ws ∧ wordsOk ws = true ∧ ws.length = 4 ∧ rowAt m f = ws) ∧ ∃ x, xs[k]? = some x ∧ infoOk x = true ∧ infAt xs f = x := by
  simp only [argB, Bool.and_eq_true] at h
  obtain ⟨⟨hm, hf⟩, hx⟩ := h
  simp only [btw, decide_eq_true_eq] at hf
  obtain ⟨k, rfl⟩ := Int.eq_ofNat_of_zero_le hf.1
  have hk : k < 12 := by omega
  have hml := memOk_len hm
  have hxl : xs.length = 12 := by simp [infosOk] at hx; exact hx.1
  have h1 : m[k]? = some m[k] := List.getElem?_eq_getElem (by omega)
  have h2 : xs[k]? = some xs[k] := List.getElem?_eq_getElem (by omega)
  have hw := memOk_all hm (List.mem_of_getElem? h1)
  exact ⟨hm, hx, k, rfl, hk, ⟨_, h1, hw, wordsOk_len hw, rowAt_eq h1⟩, _, h2, infosOk_all hx (List.mem_of_getElem? h2), infAt_eq h2⟩

theorem rights_nil : rightsOk [[]] = true := by decide
theorem may_nil (g : Txt) : mayB [[]] g = true := by simp [mayB, cov_nil]
theorem tok_parts {m : List (List Int)} {xs : List Info} {f kind : Int} {rs : List Txt} (h : tokB m xs f kind rs = true) : argB m xs f = true ∧ tabK kind = true ∧ rightsOk rs = true ∧ goodB m xs f kind rs = true := by
  simp only [tokB, Bool.and_eq_true] at h
  exact ⟨h.1.1.1, h.1.1.2, h.1.2, h.2⟩
theorem wGood_may {xs : List Info} {f kind : Int} {rs : List Txt} {x : Int} (h : wGood xs f kind rs x = true) : wGood xs f kind [[]] x = true := by
  unfold wGood at h ⊢
  by_cases he : entB x = true
  · rw [if_pos he] at h ⊢
    simp only [Bool.and_eq_true] at h
    simp only [h.1, h.2.1, may_nil, Bool.and_self]
  · rw [if_neg he] at h ⊢; exact h
theorem tok_all {m : List (List Int)} {xs : List Info} {f kind : Int} {rs : List Txt} (h : tokB m xs f kind rs = true) : tokB m xs f kind [[]] = true ∧ tokB m xs f 1 rs = false := by
  obtain ⟨h1, h2, h3, h4⟩ := tok_parts h
  constructor
  · have : goodB m xs f kind [[]] = true := by
      unfold goodB at h4 ⊢
      rw [List.all_eq_true] at h4 ⊢
      exact fun x hx => wGood_may (h4 x hx)
    simp [tokB, h1, h2, rights_nil, this]
  · simp [tokB, tabK]

/-- A frame of zeros. -/
def clearM (m : List (List Int)) (k : Nat) : List (List Int) := m.set k [0, 0, 0, 0]
theorem clear_ok {m : List (List Int)} {k : Nat} (h : memOk m = true) : memOk (clearM m k) = true := by
  simp only [memOk, Bool.and_eq_true, decide_eq_true_eq, Bool.not_eq_true', List.any_eq_false] at h ⊢
  refine ⟨by unfold clearM; rw [List.length_set]; exact h.1, fun ws hw => ?_⟩
  rcases List.mem_or_eq_of_mem_set hw with hw | rfl
  · exact h.2 ws hw
  · decide
theorem put_ok {m : List (List Int)} {k : Nat} {ws : List Int} (h : memOk m = true) (hw : wordsOk ws = true) : memOk (m.set k ws) = true := by
  simp only [memOk, Bool.and_eq_true, decide_eq_true_eq, Bool.not_eq_true', List.any_eq_false] at h ⊢
  refine ⟨by rw [List.length_set]; exact h.1, fun vs hv => ?_⟩
  rcases List.mem_or_eq_of_mem_set hv with hv | rfl
  · exact h.2 vs hv
  · simp [hw]
theorem words_set {ws : List Int} {i : Nat} {x : Int} (h : wordsOk ws = true) (hx : 0 ≤ x ∧ x ≤ 9999) : wordsOk (ws.set i x) = true := by
  simp only [wordsOk, Bool.and_eq_true, decide_eq_true_eq, Bool.not_eq_true', List.any_eq_false] at h ⊢
  refine ⟨by rw [List.length_set]; exact h.1, fun y hy => ?_⟩
  rcases List.mem_or_eq_of_mem_set hy with hy | rfl
  · exact h.2 y hy
  · simp [btw]; omega
theorem clear_good {m : List (List Int)} {xs : List Info} {k : Nat} {kind : Int} {rs : List Txt} (hl : m.length = 12) (hk : k < 12) : goodB (clearM m k) xs (k : Int) kind rs = true := by
  have : rowAt (clearM m k) (k : Int) = [0, 0, 0, 0] := rowAt_eq (by simp [clearM, hl, hk])
  simp [goodB, this, wGood, entB]
theorem self_word (k : Nat) (hk : k < 12) : entB (4 * (k : Int) + 3) = true ∧ (4 * (k : Int) + 3) / 4 = (k : Int) := by
  rw [entB_iff]; omega
theorem self_bad {m : List (List Int)} {xs : List Info} {k : Nat} {ws : List Int} {kind : Int} {rs : List Txt} (hl : m.length = 12) (hk : k < 12) (hw : ws.length = 4) : goodB (m.set k (ws.set 0 (4 * (k : Int) + 3))) xs (k : Int) kind rs = false := by
  have : rowAt (m.set k (ws.set 0 (4 * (k : Int) + 3))) (k : Int) = ws.set 0 (4 * (k : Int) + 3) := rowAt_eq (by simp [hl, hk])
  unfold goodB
  rw [this, List.all_eq_false]
  refine ⟨4 * (k : Int) + 3, List.mem_of_getElem? (i := 0) (by simp [hw]), ?_⟩
  obtain ⟨h1, h2⟩ := self_word k hk
  simp [wGood, h1, h2]

/-- A frame that is pinned, or made one of data again. -/
def pinned (m : List (List Int)) (xs : List Info) (f kind : Int) : List Info := setK (addR xs (fun i => 1 * cntI (names (rowAt m f)) i)) f.toNat kind
def unpd (m : List (List Int)) (xs : List Info) (f : Int) : List Info := setK (addR xs (fun i => -1 * cntI (names (rowAt m f)) i)) f.toNat 1
def pinA (m : List (List Int)) (xs : List Info) (f kind : Int) (rs : List Txt) : Bool := argB m xs f && tabK kind && rightsOk rs
def busyB (xs : List Info) (f : Int) : Bool := !decide ((infAt xs f).kd = 1) || !decide ((infAt xs f).rf = 0)
def pinC (m : List (List Int)) (xs : List Info) (f kind : Int) (rs : List Txt) : Int :=
  if pinA m xs f kind rs then (if busyB xs f then 1 else if goodB m xs f kind rs then (if infosOk (pinned m xs f kind) then 0 else 1) else 2) else 3
def pinL (m : List (List Int)) (xs : List Info) (f kind : Int) (rs : List Txt) : List Info :=
  if pinA m xs f kind rs then (if pinC m xs f kind rs = 0 then pinned m xs f kind else xs) else []
def ubusyB (xs : List Info) (f : Int) : Bool := !tabK (infAt xs f).kd || !decide ((infAt xs f).rf = 0)
def unpC (m : List (List Int)) (xs : List Info) (f : Int) : Int :=
  if argB m xs f then (if ubusyB xs f then 1 else if infosOk (unpd m xs f) then 0 else 2) else 3
def unpL (m : List (List Int)) (xs : List Info) (f : Int) : List Info := if argB m xs f then (if unpC m xs f = 0 then unpd m xs f else xs) else []

theorem pinned_len (m : List (List Int)) (xs : List Info) (f kind : Int) : (pinned m xs f kind).length = xs.length := by simp [pinned, setK, addR_len]
theorem unpd_len (m : List (List Int)) (xs : List Info) (f : Int) : (unpd m xs f).length = xs.length := by simp [unpd, setK, addR_len]
theorem infAt_addR {xs : List Info} {g : Nat → Int} {k : Nat} {x : Info} (h : xs[k]? = some x) : infAt (addR xs g) (k : Int) = { x with rf := x.rf + g k } := infAt_eq (addR_get h)
theorem setK_get {xs : List Info} {k j : Nat} {kind : Int} {x : Info} (hx : xs[j]? = some x) : (setK xs k kind)[j]? = some (if j = k then { x with kd := kind } else x) := by
  unfold setK
  rw [List.getElem?_set]
  have hl := (List.getElem?_eq_some_iff.1 hx).1
  by_cases h : k = j
  · subst h; rw [if_pos rfl, if_pos hl, if_pos rfl, infAt_eq hx]
  · rw [if_neg h, if_neg (fun e => h e.symm)]; exact hx
theorem pinned_get {m : List (List Int)} {xs : List Info} {k j : Nat} {kind : Int} {x : Info} (hx : xs[j]? = some x) :
    (pinned m xs (k : Int) kind)[j]? = some ⟨if j = k then kind else x.kd, x.gd, x.rf + cntI (names (rowAt m (k : Int))) j⟩ := by
  unfold pinned
  have := setK_get (k := k) (kind := kind) (addR_get (g := fun i => 1 * cntI (names (rowAt m (k : Int))) i) hx)
  rw [Int.toNat_natCast, this]
  by_cases h : j = k <;> simp [h]
theorem unpd_get {m : List (List Int)} {xs : List Info} {k j : Nat} {x : Info} (hx : xs[j]? = some x) :
    (unpd m xs (k : Int))[j]? = some ⟨if j = k then 1 else x.kd, x.gd, x.rf - cntI (names (rowAt m (k : Int))) j⟩ := by
  unfold unpd
  have := setK_get (k := k) (kind := 1) (addR_get (g := fun i => -1 * cntI (names (rowAt m (k : Int))) i) hx)
  rw [Int.toNat_natCast, this]
  by_cases h : j = k <;> simp [h] <;> omega

theorem needK_zero {k : Int} : (needK k = 0) ↔ tabK k = false := by
  unfold needK
  cases h : tabK k
  · simp
  · rw [tabK_iff] at h
    rcases h with rfl | rfl <;> simp
theorem pinA_arg {m : List (List Int)} {xs : List Info} {f kind : Int} {rs : List Txt} (h : pinA m xs f kind rs = true) : argB m xs f = true ∧ tabK kind = true ∧ rightsOk rs = true := by
  simp only [pinA, Bool.and_eq_true] at h; exact ⟨h.1.1, h.1.2, h.2⟩
theorem pinC_bad {m : List (List Int)} {xs : List Info} {f kind : Int} {rs : List Txt} (h : pinA m xs f kind rs = false) : pinC m xs f kind rs = 3 ∧ pinL m xs f kind rs = [] := by simp [pinC, pinL, h]
theorem pinC_three {m : List (List Int)} {xs : List Info} {f kind : Int} {rs : List Txt} (h : pinA m xs f kind rs = true) : pinC m xs f kind rs ≠ 3 := by
  unfold pinC
  rw [if_pos h]
  split
  · decide
  · split
    · split <;> decide
    · decide
theorem pinC_busy {m : List (List Int)} {xs : List Info} {f kind : Int} {rs : List Txt} (h : pinA m xs f kind rs = true) (hb : busyB xs f = true) : pinC m xs f kind rs = 1 := by simp [pinC, h, hb]
theorem pinL_keep {m : List (List Int)} {xs : List Info} {f kind : Int} {rs : List Txt} (h : pinA m xs f kind rs = true) (hc : pinC m xs f kind rs ≠ 0) : pinL m xs f kind rs = xs := by simp [pinL, h, hc]
theorem pin_done {m : List (List Int)} {xs : List Info} {f kind : Int} {rs : List Txt} (hc : pinC m xs f kind rs = 0) : pinA m xs f kind rs = true ∧ busyB xs f = false ∧ goodB m xs f kind rs = true ∧ infosOk (pinned m xs f kind) = true ∧ pinL m xs f kind rs = pinned m xs f kind := by
  unfold pinC at hc
  cases h : pinA m xs f kind rs
  · simp [h] at hc
  · cases hb : busyB xs f
    · cases hg : goodB m xs f kind rs
      · simp [h, hb, hg] at hc
      · cases hi : infosOk (pinned m xs f kind)
        · simp [h, hb, hg, hi] at hc
        · refine ⟨rfl, rfl, rfl, rfl, ?_⟩
          have : pinC m xs f kind rs = 0 := by simp [pinC, h, hb, hg, hi]
          simp [pinL, h, this]
    · simp [h, hb] at hc
theorem pinC_two {m : List (List Int)} {xs : List Info} {f kind : Int} {rs : List Txt} (h : pinA m xs f kind rs = true) : (pinC m xs f kind rs == 2) = (!busyB xs f && !tokB m xs f kind rs) := by
  have ht : tokB m xs f kind rs = goodB m xs f kind rs := by
    have h2 : (argB m xs f && tabK kind && rightsOk rs) = true := h
    simp only [tokB, h2, Bool.true_and]
  rw [ht]
  unfold pinC
  rw [if_pos h]
  cases busyB xs f <;> cases goodB m xs f kind rs <;> cases infosOk (pinned m xs f kind) <;> rfl
theorem busy_eq {xs : List Info} {f : Int} {x : Info} (hx : infAt xs f = x) (h0 : 0 ≤ x.rf) : busyB xs f = ((x.kd != 1) || decide (0 < x.rf)) := by
  unfold busyB
  rw [hx]
  by_cases h1 : x.kd = 1 <;> by_cases h2 : x.rf = 0 <;> simp [h1, h2] <;> omega
theorem ubusy_eq {xs : List Info} {f : Int} {x : Info} (hx : infAt xs f = x) (h0 : 0 ≤ x.rf) : ubusyB xs f = ((needK x.kd == 0) || decide (0 < x.rf)) := by
  unfold ubusyB
  rw [hx]
  have h1 : (needK x.kd == 0) = !tabK x.kd := by
    rw [Bool.eq_iff_iff, beq_iff_eq, needK_zero]; simp
  rw [h1]
  by_cases h2 : x.rf = 0 <;> simp [h2] <;> omega
theorem unpC_vals {m : List (List Int)} {xs : List Info} {f : Int} (h : argB m xs f = true) : unpC m xs f ≠ 3 ∧ (unpC m xs f == 1) = ubusyB xs f ∧ (unpC m xs f ≠ 0 → unpL m xs f = xs) ∧ (unpC m xs f = 0 → unpL m xs f = unpd m xs f) := by
  have hc : unpC m xs f = (if ubusyB xs f then 1 else if infosOk (unpd m xs f) then 0 else 2) := by simp [unpC, h]
  have hl : unpL m xs f = (if unpC m xs f = 0 then unpd m xs f else xs) := by simp [unpL, h]
  refine ⟨?_, ?_, fun hn => by rw [hl, if_neg hn], fun hn => by rw [hl, if_pos hn]⟩
  · rw [hc]; split
    · decide
    · split <;> decide
  · rw [hc]; cases ubusyB xs f <;> cases infosOk (unpd m xs f) <;> rfl
theorem unp_bad {m : List (List Int)} {xs : List Info} {f : Int} (h : argB m xs f = false) : unpC m xs f = 3 ∧ unpL m xs f = [] := by simp [unpC, unpL, h]

/-- A good table does not name itself. -/
theorem good_self {m : List (List Int)} {xs : List Info} {f kind : Int} {rs : List Txt} {k : Nat} (hf : f = (k : Int)) (h : goodB m xs f kind rs = true) : cntI (names (rowAt m f)) k = 0 := by
  unfold cntI
  have : (names (rowAt m f)).count (k : Int) = 0 := by
    rw [List.count_eq_zero]
    intro hm
    unfold names at hm
    obtain ⟨x, hx, he⟩ := List.mem_map.1 hm
    obtain ⟨hx, hb⟩ := List.mem_filter.1 hx
    unfold goodB at h
    rw [List.all_eq_true] at h
    have := h x hx
    unfold wGood at this
    rw [if_pos hb, he, hf] at this
    simp at this
  omega

theorem back_list {m : List (List Int)} {xs : List Info} {k : Nat} {kind : Int} {x : Info} (hx : xs[k]? = some x) (h1 : x.kd = 1) : unpd m (pinned m xs (k : Int) kind) (k : Int) = xs := by
  apply List.ext_getElem?
  intro i
  cases hi : xs[i]? with
  | none =>
    apply List.getElem?_eq_none
    rw [unpd_len, pinned_len]
    exact List.getElem?_eq_none_iff.1 hi
  | some y =>
    rw [unpd_get (pinned_get hi)]
    by_cases h : i = k
    · subst h
      rw [hx] at hi
      simp only [Option.some.injEq] at hi
      subst hi
      obtain ⟨a, b, c⟩ := x
      simp only at h1
      subst h1
      simp only [if_true]
      congr 2
      omega
    · obtain ⟨a, b, c⟩ := y
      simp only [if_neg h]
      congr 2
      omega

theorem pin_back {m : List (List Int)} {xs : List Info} {f kind : Int} {rs : List Txt} (hc : pinC m xs f kind rs = 0) : unpC m (pinned m xs f kind) f = 0 ∧ unpL m (pinned m xs f kind) f = xs := by
  obtain ⟨ha, hb, hg, hi, -⟩ := pin_done hc
  obtain ⟨ha1, ha2, ha3⟩ := pinA_arg ha
  obtain ⟨hm, hx, k, rfl, hk, -, x, hxk, -, hat⟩ := arg_parts ha1
  have hkd : x.kd = 1 ∧ x.rf = 0 := by
    unfold busyB at hb
    rw [hat] at hb
    simpa using hb
  have harg : argB m (pinned m xs (k : Int) kind) (k : Int) = true := by
    simp only [argB, Bool.and_eq_true] at ha1 ⊢
    exact ⟨ha1.1, hi⟩
  have hback := back_list (m := m) (kind := kind) hxk hkd.1
  have hub : ubusyB (pinned m xs (k : Int) kind) (k : Int) = false := by
    unfold ubusyB
    rw [infAt_eq (pinned_get hxk)]
    simp [ha2, hkd.2, good_self rfl hg]
  have hcc : unpC m (pinned m xs (k : Int) kind) (k : Int) = 0 := by simp [unpC, harg, hub, hback, hx]
  exact ⟨hcc, by simp [unpL, harg, hcc, hback]⟩

theorem cntTo_pin {m : List (List Int)} {xs : List Info} {k : Nat} {kind : Int} {x : Info} (hl : xs.length = 12) (hx : xs[k]? = some x) (h1 : x.kd = 1) (hk : tabK kind = true) (f : Nat) : ∀ t, t ≤ 12 →
    cntTo m (pinned m xs (k : Int) kind) t f = cntTo m xs t f + if k < t then cntI (names (rowAt m (k : Int))) f else 0 := by
  intro t
  induction t with
  | zero => intro _; simp [cntTo]
  | succ t ih =>
    intro ht
    have hi := ih (by omega)
    have hy : xs[t]? = some xs[t] := List.getElem?_eq_getElem (by omega)
    unfold cntTo
    rw [hi, infAt_eq (pinned_get hy), infAt_eq hy]
    by_cases h : t = k
    · subst h
      rw [hy] at hx
      simp only [Option.some.injEq] at hx
      have h2 : tabK xs[t].kd = false := by rw [hx, h1]; decide
      simp [hk, h2]
    · by_cases h3 : k < t
      · have h4 : k < t + 1 := by omega
        simp only [if_neg h, if_pos h3, if_pos h4]; omega
      · have h4 : ¬ k < t + 1 := by omega
        simp only [if_neg h, if_neg h3, if_neg h4]; omega

theorem pin_count {m : List (List Int)} {xs : List Info} {f kind : Int} {rs : List Txt} (hc : pinC m xs f kind rs = 0) :
    ∃ (k : Nat) (x : Info), f = (k : Int) ∧ k < 12 ∧ xs[k]? = some x ∧ cntL m xs = cnt m xs ∧ cntL m (pinned m xs f kind) = cnt m (pinned m xs f kind) ∧ tokB m xs f kind rs = true ∧ (pinned m xs f kind)[k]? = some ⟨kind, x.gd, x.rf + cntI (names (rowAt m f)) k⟩ ∧
      ∀ j y, xs[j]? = some y → ∃ z, (pinned m xs f kind)[j]? = some z ∧ z.gd = y.gd ∧ (j ≠ k → z.kd = y.kd) ∧ z.rf - y.rf = cntTo m (pinned m xs f kind) 12 j - cntTo m xs 12 j := by
  obtain ⟨ha, hb, hg, hi, -⟩ := pin_done hc
  obtain ⟨ha1, ha2, ha3⟩ := pinA_arg ha
  obtain ⟨hm, hx, k, rfl, hk, -, x, hxk, -, hat⟩ := arg_parts ha1
  have hkd : x.kd = 1 := by
    unfold busyB at hb
    rw [hat] at hb
    have : x.kd = 1 ∧ x.rf = 0 := by simpa using hb
    exact this.1
  have hl : xs.length = 12 := by simp [infosOk] at hx; exact hx.1
  refine ⟨k, x, rfl, hk, hxk, by simp [cntL, hm, hx], by simp [cntL, hm, hi], by simp [tokB, ha1, ha2, ha3, hg], by simpa using pinned_get (m := m) (k := k) (kind := kind) hxk, fun j y hy => ⟨_, pinned_get hy, rfl, fun hne => by simp [hne], ?_⟩⟩
  rw [cntTo_pin hl hxk hkd ha2 j 12 (Nat.le_refl _), if_pos hk]
  simp only
  omega

/-- What a word of a good table is. -/
theorem word_parts {m : List (List Int)} {xs : List Info} {f kind : Int} {rs : List Txt} {ws : List Int} (hgo : goodB m xs f kind rs = true) (hrow : rowAt m f = ws) (hwo : wordsOk ws = true) (hxo : infosOk xs = true) (hk : tabK kind = true) (hro : rightsOk rs = true) {i : Nat} {x : Int} (hx : ws[i]? = some x) :
    (0 ≤ x ∧ x ≤ 9999) ∧ ((entB x = false ∧ x = 0) ∨ (entB x = true ∧ ∃ (n : Nat) (z : Info), entI x = (n : Int) ∧ n < 12 ∧ (n : Int) ≠ f ∧ xs[n]? = some z ∧ z.kd = needK kind ∧ rmB rs z.gd = true)) := by
  have hm := List.mem_of_getElem? hx
  refine ⟨words_in hwo hm, ?_⟩
  unfold goodB at hgo
  rw [hrow, List.all_eq_true] at hgo
  have h := hgo x hm
  cases he : entB x
  · left
    unfold wGood at h
    rw [if_neg (by simp [he])] at h
    exact ⟨rfl, by simpa using h⟩
  · right
    have hlt := ent_lt he
    obtain ⟨n, hn⟩ := Int.eq_ofNat_of_zero_le hlt.1
    have hl := infosOk_len hxo
    obtain ⟨z, hz⟩ : ∃ z, xs[n]? = some z := ⟨_, List.getElem?_eq_getElem (by omega)⟩
    unfold wGood at h
    rw [if_pos he, hn, infAt_eq hz] at h
    simp only [Bool.and_eq_true, Bool.not_eq_true', decide_eq_false_iff_not, decide_eq_true_eq] at h
    obtain ⟨h1, h2, h3⟩ := h
    refine ⟨rfl, n, z, by simp [entI, he, hn], by omega, h1, hz, h2, ?_⟩
    have hi := infosOk_all hxo (List.mem_of_getElem? hz)
    have hr : rightOk z.gd = true := by
      unfold infoOk at hi
      simp only [Bool.or_eq_true, decide_eq_true_eq, Bool.and_eq_true] at hi
      rcases hi with rfl | hi
      · exfalso
        rw [tabK_iff] at hk
        have h4 : needK kind = kind - 1 := by
          unfold needK; rw [if_pos (tabK_iff.2 hk)]
        rw [h4] at h2
        simp only [Info.zero] at h2
        omega
      · exact hi.1.2
    simp [rmB, hro, hr, h3]

/-- How often words name a frame, if they are those of a table. -/
def cntW (tb : Bool) (ws : List Int) (f : Nat) : Int := if tb then cntI (names ws) f else 0
theorem cntW_nil (tb : Bool) (f : Nat) : cntW tb [] f = 0 := by cases tb <;> rfl
theorem cntW_in (tb : Bool) (ws : List Int) (f : Nat) : 0 ≤ cntW tb ws f ∧ cntW tb ws f ≤ ws.length := by
  unfold cntW
  have h1 := cntI_nonneg (names ws) f
  have h2 := cntI_le (names ws) f
  have h3 := names_le ws
  split <;> omega
theorem cntW_skip {tb : Bool} {ws : List Int} {f i : Nat} {x : Int} (hx : ws[i]? = some x) (h : entB x = false ∨ x / 4 ≠ (f : Int) ∨ tb = false) : cntW tb (ws.take (i + 1)) f = cntW tb (ws.take i) f := by
  unfold cntW
  cases tb
  · rfl
  · rw [if_pos rfl, if_pos rfl]
    cases he : entB x
    · rw [names_skip hx he]
    · rw [names_succ hx he, cntI_snoc, if_neg (by rcases h with h | h | h; · rw [he] at h; simp at h
                                                  · exact fun e => h e.symm
                                                  · simp at h)]
      omega
theorem cntW_next {ws : List Int} {f i : Nat} {x : Int} (hx : ws[i]? = some x) (he : entB x = true) (hf : x / 4 = (f : Int)) : cntW true (ws.take (i + 1)) f = cntW true (ws.take i) f + 1 := by
  unfold cntW
  rw [if_pos rfl, if_pos rfl, names_succ hx he, cntI_snoc, if_pos hf.symm]
theorem cntTo_next {m : List (List Int)} {xs : List Info} {t f : Nat} {x : Info} {ws : List Int} (hx : xs[t]? = some x) (hw : m[t]? = some ws) : cntTo m xs t f + cntW (tabK x.kd) ws f = cntTo m xs (t + 1) f := by
  rw [show cntTo m xs (t + 1) f = cntTo m xs t f + (if tabK (infAt xs (t : Int)).kd then cntI (names (rowAt m (t : Int))) f else 0) from rfl, infAt_eq hx, rowAt_eq hw]
  rfl
theorem needK_ne (k : Int) : (needK k != 0) = tabK k := by
  cases h : tabK k
  · simp [needK, h]
  · rw [bne_iff_ne, Ne, needK_zero, h]; simp
theorem needK_eq (k : Int) : (needK k == 0) = !tabK k := by
  rw [← needK_ne k]; simp [bne]
end Go.Proofs.YtojknkpjnchchaaGreatDoor
