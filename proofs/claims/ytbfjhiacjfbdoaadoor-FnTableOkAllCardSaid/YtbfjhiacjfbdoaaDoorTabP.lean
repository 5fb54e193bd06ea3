/- Plain facts on tables: the frames that words name, how often they are named. No conditions. -/
import Derived.Test.YtbfjhiacjfbdoaaDoorInfoP
import Derived.Test.YtbfjhiacjfbdoaaDoorRightR
import Derived.Test.YtbfjhiacjfbdoaaDoorWords
namespace Go.Proofs.YtbfjhiacjfbdoaaDoor
set_option linter.all false
set_option maxRecDepth 100000

/-- A word names a frame. -/
def entB (x : Int) : Bool := decide (0 < x ∧ x % 2 = 1 ∧ x < 48)
def entI (x : Int) : Int := if entB x then x / 4 else 0
def entW (x : Int) : Bool := entB x && decide (x % 4 = 3)
theorem entB_iff {x : Int} : entB x = true ↔ 0 < x ∧ x % 2 = 1 ∧ x < 48 := by simp [entB]
theorem ent_lt {x : Int} (h : entB x = true) : 0 ≤ x / 4 ∧ x / 4 ≤ 11 := by rw [entB_iff] at h; omega
/-- The frames that words name. -/
def names (ws : List Int) : List Int := (ws.filter entB).map (· / 4)
theorem names_succ {ws : List Int} {k : Nat} {x : Int} (hx : ws[k]? = some x) (h : entB x = true) : names (ws.take (k + 1)) = names (ws.take k) ++ [x / 4] := by
  unfold names; rw [List.take_add_one, hx]; simp [List.filter_append, h]
theorem names_skip {ws : List Int} {k : Nat} {x : Int} (hx : ws[k]? = some x) (h : entB x = false) : names (ws.take (k + 1)) = names (ws.take k) := by
  unfold names; rw [List.take_add_one, hx]; simp [List.filter_append, h]
theorem names_mem {ws : List Int} {y : Int} (h : y ∈ names ws) : 0 ≤ y ∧ y ≤ 11 := by
  unfold names at h
  obtain ⟨x, hx, rfl⟩ := List.mem_map.1 h
  exact ent_lt (List.mem_filter.1 hx).2
theorem names_le (ws : List Int) : (names ws).length ≤ ws.length := by unfold names; rw [List.length_map]; exact List.length_filter_le _ _

/-- How often a frame is among those that are named. -/
def cntI (ns : List Int) (f : Nat) : Int := (ns.count (f : Int) : Nat)
theorem cntI_nil (f : Nat) : cntI [] f = 0 := rfl
theorem cntI_snoc (ns : List Int) (y : Int) (f : Nat) : cntI (ns ++ [y]) f = cntI ns f + if (f : Int) = y then 1 else 0 := by
  unfold cntI
  rw [List.count_append]
  by_cases h : (f : Int) = y
  · subst h; simp
  · rw [if_neg h, List.count_singleton, if_neg (by simpa using fun e => h e.symm)]; simp
theorem cntI_nonneg (ns : List Int) (f : Nat) : 0 ≤ cntI ns f := by unfold cntI; omega
theorem cntI_le (ns : List Int) (f : Nat) : cntI ns f ≤ ns.length := by unfold cntI; have := List.count_le_length (a := (f : Int)) (l := ns); omega

/-- A row of twelve numbers. -/
def tab (g : Nat → Int) : List Int := (List.range 12).map g
theorem tab_len (g : Nat → Int) : (tab g).length = 12 := by simp [tab]
theorem tab_get (g : Nat → Int) {f : Nat} (h : f < 12) : (tab g)[f]? = some (g f) := by simp [tab, h]
theorem tab_ext {g h : Nat → Int} (e : ∀ f, f < 12 → g f = h f) : tab g = tab h := by
  unfold tab
  refine List.map_congr_left fun f hf => e f (by simpa using hf)
theorem tab_set (g : Nat → Int) (n : Nat) (y : Int) : (tab g).set n y = tab (fun f => if f = n then y else g f) := by
  apply List.ext_getElem?
  intro i
  rw [List.getElem?_set]
  by_cases hi : i < 12
  · by_cases h : n = i
    · subst h; rw [if_pos rfl, if_pos (by rw [tab_len]; exact hi), tab_get _ hi, if_pos rfl]
    · rw [if_neg h, tab_get _ hi, tab_get _ hi, if_neg (fun e => h e.symm)]
  · have h1 : (tab g)[i]? = none := List.getElem?_eq_none (by rw [tab_len]; omega)
    have h2 : (tab (fun f => if f = n then y else g f))[i]? = none := List.getElem?_eq_none (by rw [tab_len]; omega)
    rw [h1, h2, tab_len]
    by_cases h : n = i
    · rw [if_pos h, if_neg (by omega)]
    · rw [if_neg h]
theorem tab_zero : List.replicate 12 (0 : Int) = tab (fun _ => 0) := by decide
theorem tab_bump {g : Nat → Int} {ns : List Int} {a : Nat → Int} {n : Nat} (hg : g = fun f => a f + cntI ns f) : (tab g).set n (g n + 1) = tab (fun f => a f + cntI (ns ++ [(n : Int)]) f) := by
  rw [tab_set]
  refine tab_ext fun f hf => ?_
  subst hg
  rw [cntI_snoc]
  dsimp only
  by_cases h : f = n
  · subst h; rw [if_pos rfl, if_pos rfl]; omega
  · rw [if_neg h, if_neg (by omega)]; omega

/-- A kind is that of a table. -/
def tabK (k : Int) : Bool := decide (k = 2) || decide (k = 3)
def needK (k : Int) : Int := if tabK k then k - 1 else 0
theorem tabK_iff {k : Int} : tabK k = true ↔ k = 2 ∨ k = 3 := by simp [tabK]
def memOk (m : List (List Int)) : Bool := decide (m.length = 12) && !(m.any fun ws => !wordsOk ws)
theorem memOk_len {m : List (List Int)} (h : memOk m = true) : m.length = 12 := by simp [memOk] at h; exact h.1
theorem memOk_all {m : List (List Int)} (h : memOk m = true) {ws : List Int} (hw : ws ∈ m) : wordsOk ws = true := by
  simp only [memOk, Bool.and_eq_true, Bool.not_eq_true', List.any_eq_false] at h
  have := h.2 ws hw
  simpa using this
theorem words_in {ws : List Int} (h : wordsOk ws = true) {x : Int} (hx : x ∈ ws) : 0 ≤ x ∧ x ≤ 9999 := by
  simp only [wordsOk, Bool.and_eq_true, Bool.not_eq_true', List.any_eq_false] at h
  have := h.2 x hx
  simpa [btw] using this
def rowAt (m : List (List Int)) (f : Int) : List Int := (m[f.toNat]?).getD []
theorem rowAt_eq {m : List (List Int)} {k : Nat} {ws : List Int} (h : m[k]? = some ws) : rowAt m (k : Int) = ws := by simp [rowAt, h]
theorem infAt_eq {xs : List Info} {k : Nat} {x : Info} (h : xs[k]? = some x) : infAt xs (k : Int) = x := by simp [infAt, h]

/-- A word may stand in a table of a kind at a frame. -/
def wGood (xs : List Info) (f kind : Int) (rs : List Txt) (x : Int) : Bool :=
  if entB x then !decide (x / 4 = f) && (decide ((infAt xs (x / 4)).kd = needK kind) && mayB rs (infAt xs (x / 4)).gd) else decide (x = 0)
def goodB (m : List (List Int)) (xs : List Info) (f kind : Int) (rs : List Txt) : Bool := (rowAt m f).all (wGood xs f kind rs)
def argB (m : List (List Int)) (xs : List Info) (f : Int) : Bool := memOk m && btw 0 f 11 && infosOk xs
def tokB (m : List (List Int)) (xs : List Info) (f kind : Int) (rs : List Txt) : Bool := argB m xs f && tabK kind && rightsOk rs && goodB m xs f kind rs

/-- How often the tables ahead of t name each frame. -/
def cntTo (m : List (List Int)) (xs : List Info) : Nat → Nat → Int
  | 0, _ => 0
  | t + 1, f => cntTo m xs t f + if tabK (infAt xs (t : Int)).kd then cntI (names (rowAt m (t : Int))) f else 0
def cnt (m : List (List Int)) (xs : List Info) : List Int := tab (cntTo m xs 12)
def cntL (m : List (List Int)) (xs : List Info) : List Int := if memOk m && infosOk xs then cnt m xs else []

/-- The frames' uses changed by what words name. -/
def addR (xs : List Info) (g : Nat → Int) : List Info := xs.mapIdx fun i x => { x with rf := x.rf + g i }
theorem addR_len (xs : List Info) (g : Nat → Int) : (addR xs g).length = xs.length := by simp [addR]
theorem addR_get {xs : List Info} {g : Nat → Int} {k : Nat} {x : Info} (h : xs[k]? = some x) : (addR xs g)[k]? = some { x with rf := x.rf + g k } := by
  simp [addR, List.getElem?_mapIdx, h]
theorem addR_ext {xs : List Info} {g h : Nat → Int} (e : ∀ f, f < xs.length → g f = h f) : addR xs g = addR xs h := by
  unfold addR
  apply List.ext_getElem?
  intro i
  rw [List.getElem?_mapIdx, List.getElem?_mapIdx]
  cases hx : xs[i]? with
  | none => rfl
  | some x => simp [e i (List.getElem?_eq_some_iff.1 hx).1]
theorem addR_zero (xs : List Info) : addR xs (fun _ => 0) = xs := by
  apply List.ext_getElem?
  intro i
  unfold addR
  rw [List.getElem?_mapIdx]
  cases hx : xs[i]? with
  | none => rfl
  | some x => simp
theorem addR_bump {xs : List Info} {n : Nat} {by_ : Int} {ns : List Int} {x : Info} (hx : xs[n]? = some x) :
    (addR xs (fun f => by_ * cntI ns f)).set n { x with rf := x.rf + by_ * cntI ns n + by_ } = addR xs (fun f => by_ * cntI (ns ++ [(n : Int)]) f) := by
  apply List.ext_getElem?
  intro i
  rw [List.getElem?_set]
  have hl : n < xs.length := (List.getElem?_eq_some_iff.1 hx).1
  by_cases h : n = i
  · subst h
    rw [if_pos rfl, if_pos (by rw [addR_len]; exact hl), addR_get hx, cntI_snoc, if_pos rfl, Int.mul_add, Int.mul_one, Int.add_assoc]
  · rw [if_neg h]
    unfold addR
    rw [List.getElem?_mapIdx, List.getElem?_mapIdx]
    cases hy : xs[i]? with
    | none => rfl
    | some y => simp [cntI_snoc, show ¬ (i : Int) = (n : Int) by omega]
theorem addR_set {xs : List Info} {g : Nat → Int} {n : Nat} {x : Info} {k : Int} (hx : xs[n]? = some x) : addR (xs.set n { x with kd := k }) g = (addR xs g).set n { x with kd := k, rf := x.rf + g n } := by
  apply List.ext_getElem?
  intro i
  unfold addR
  have hl : n < xs.length := (List.getElem?_eq_some_iff.1 hx).1
  rw [List.getElem?_mapIdx, List.getElem?_set, List.getElem?_set]
  by_cases h : n = i
  · subst h; simp [hl]
  · rw [if_neg h, if_neg h, List.getElem?_mapIdx]
/-- A frame's kind is another. -/
def setK (xs : List Info) (n : Nat) (k : Int) : List Info := xs.set n { infAt xs (n : Int) with kd := k }
end Go.Proofs.YtbfjhiacjfbdoaaDoor
