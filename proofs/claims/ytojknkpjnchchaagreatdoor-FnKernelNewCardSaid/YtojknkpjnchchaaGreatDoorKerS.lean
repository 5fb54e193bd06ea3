/- What a valid kernel is, in plain words. No conditions. -/
import Derived.Test.YtojknkpjnchchaaGreatDoorKerO
import Derived.Test.YtojknkpjnchchaaGreatDoorKerP
import Derived.Test.YtojknkpjnchchaaGreatDoorKerR
import Derived.Test.YtojknkpjnchchaaGreatDoorTabH
import Derived.Test.YtojknkpjnchchaaGreatDoorGKer
namespace Go.Proofs.YtojknkpjnchchaaGreatDoor
open Go.ChangeShapes Go.WideShapes Go.RowKit
set_option linter.all false
set_option maxRecDepth 100000

def rfAt (xs : List Info) (f : Int) : Int := (xs.getD f.toNat Info.zero).rf
theorem rf_at {xs : List Info} {k : Nat} {x : Info} (h : xs[k]? = some x) : rfAt xs k = x.rf := by simp [rfAt, List.getD, h]
def rootAt (es : List Env) (i : Int) : Int := ((es[i.toNat]?).map (·.rt)).getD 0
theorem root_at {es : List Env} {k : Nat} {e : Env} (h : es[k]? = some e) : rootAt es k = e.rt := by simp [rootAt, h]
def rtOk (xs : List Info) (r : Int) : Bool := btw (-1) r 11 && (decide (r < 0) || decide (kdAt xs r = 3))
def envOk (m : List (List Int)) (xs : List Info) (e : Env) : Bool := rightsOk e.rg && (rtOk xs e.rt && allowB xs e.rg (reachL m e.rt))
def tableOk (m : List (List Int)) (xs : List Info) (f : Nat) : Bool := !tabK (kdAt xs f) || goodB m xs f (kdAt xs f) [[]]
/-- The upper tables of the environments ahead of n. -/
def rootsTo (es : List Env) (n : Nat) : List Int := (es.take n).map (·.rt)
/-- How often frames are used. -/
def usedTo (m : List (List Int)) (xs : List Info) (es : List Env) (n : Nat) : List Int := tab (fun f => cntTo m xs 12 f + cntI (rootsTo es n) f)
def refOk (m : List (List Int)) (xs : List Info) (es : List Env) (f : Nat) : Bool := decide (rfAt xs f = cntTo m xs 12 f + cntI (rootsTo es 3) f)
def caOk (m : List (List Int)) (es : List Env) (x : Cac) : Bool :=
  decide (0 ≤ rootAt es x.en) && (decide (walkC m (rootAt es x.en) (x.pg * 4) = 0) && (decide (walkF m (rootAt es x.en) (x.pg * 4) = x.fr) && decide (walkW m (rootAt es x.en) (x.pg * 4) = x.wr)))
def headB (k : Kern) : Bool := memOk k.me && (infosOk k.inf && cachB k.ca)
def envsB (k : Kern) : Bool := decide (k.env.length = 3) && k.env.all (envOk k.me k.inf)
def tablesB (k : Kern) : Bool := (List.range 12).all (tableOk k.me k.inf)
def refsB (k : Kern) : Bool := (List.range 12).all (refOk k.me k.inf k.env)
def casB (k : Kern) : Bool := k.ca.all (caOk k.me k.env)
def validB (k : Kern) : Bool := headB k && (envsB k && (tablesB k && (refsB k && casB k)))

theorem usedTo_zero (m : List (List Int)) (xs : List Info) (es : List Env) : usedTo m xs es 0 = cnt m xs := by
  unfold usedTo cnt
  exact tab_ext fun f _ => by simp [rootsTo, cntI_nil]
theorem usedTo_len (m : List (List Int)) (xs : List Info) (es : List Env) (n : Nat) : (usedTo m xs es n).length = 12 := tab_len _
theorem usedTo_get (m : List (List Int)) (xs : List Info) (es : List Env) (n : Nat) {f : Nat} (h : f < 12) : (usedTo m xs es n)[f]? = some (cntTo m xs 12 f + cntI (rootsTo es n) f) := tab_get _ h
theorem rootsTo_succ {es : List Env} {n : Nat} {e : Env} (h : es[n]? = some e) : rootsTo es (n + 1) = rootsTo es n ++ [e.rt] := by
  unfold rootsTo
  rw [List.take_add_one, h]; simp
theorem usedTo_bump {m : List (List Int)} {xs : List Info} {es : List Env} {n f : Nat} {e : Env} (h : es[n]? = some e) (hf : e.rt = (f : Int)) :
    (usedTo m xs es n).set f (cntTo m xs 12 f + cntI (rootsTo es n) f + 1) = usedTo m xs es (n + 1) := by
  unfold usedTo
  rw [rootsTo_succ h, hf]
  exact tab_bump rfl
theorem usedTo_skip {m : List (List Int)} {xs : List Info} {es : List Env} {n : Nat} {e : Env} (h : es[n]? = some e) (hf : e.rt < 0) :
    usedTo m xs es n = usedTo m xs es (n + 1) := by
  unfold usedTo
  rw [rootsTo_succ h]
  refine tab_ext fun f _ => ?_
  rw [cntI_snoc]
  have : ¬ ((f : Int) = e.rt) := by omega
  simp [this]
theorem cntI_rootsTo (es : List Env) (n f : Nat) : 0 ≤ cntI (rootsTo es n) f ∧ cntI (rootsTo es n) f ≤ n := by
  have h1 := cntI_nonneg (rootsTo es n) f
  have h2 := cntI_le (rootsTo es n) f
  have h3 : (rootsTo es n).length ≤ n := by unfold rootsTo; rw [List.length_map, List.length_take]; omega
  omega
theorem memOk_le {m : List (List Int)} (h : memOk m = true) : ∀ ws ∈ m, ws.length ≤ 4 := fun ws hw => by rw [wordsOk_len (memOk_all h hw)]; exact Nat.le_refl _
/-- The numbers of uses are small. -/
theorem used_in {m : List (List Int)} {xs : List Info} {es : List Env} (hm : memOk m = true) (n f : Nat) (hn : n ≤ 1000) : 0 ≤ cntTo m xs 12 f + cntI (rootsTo es n) f ∧ cntTo m xs 12 f + cntI (rootsTo es n) f ≤ 2000 := by
  have h1 := cntTo_in m xs (memOk_le hm) f 12
  have h2 := cntI_rootsTo es n f
  omega

theorem head_parts {k : Kern} (h : headB k = true) : memOk k.me = true ∧ infosOk k.inf = true ∧ cachB k.ca = true := by
  simpa [headB] using h
theorem rtOk_in {xs : List Info} {r : Int} (h : rtOk xs r = true) : -1 ≤ r ∧ r ≤ 11 := by
  simp only [rtOk, Bool.and_eq_true, btw, decide_eq_true_eq] at h
  exact h.1
theorem reach_in {m : List (List Int)} {r : Int} : ∀ f ∈ reachL m r, 0 ≤ f ∧ f ≤ 11 := by
  intro f hf
  unfold reachL at hf
  split at hf
  · simp at hf
  · exact (uniq_mem.1 hf).1
theorem envOk_in {m : List (List Int)} {xs : List Info} {e : Env} (h : envOk m xs e = true) : -1 ≤ e.rt ∧ e.rt ≤ 11 := by
  simp only [envOk, Bool.and_eq_true] at h
  exact rtOk_in h.2.1
theorem cachB_mem {xs : List Cac} (h : cachB xs = true) {x : Cac} (hx : x ∈ xs) : 0 ≤ x.en ∧ x.en ≤ 2 ∧ 0 ≤ x.pg ∧ x.pg ≤ 15 ∧ 0 ≤ x.fr ∧ x.fr ≤ 11 := by
  obtain ⟨i, hi⟩ := List.getElem?_of_mem hx
  simp only [cachB, Bool.and_eq_true] at h
  have h1 := List.all_eq_true.1 h.2 i (List.mem_range.2 (List.getElem?_eq_some_iff.1 hi).1)
  rw [okAt_eq hi] at h1
  simp only [cacOk, Bool.and_eq_true, btw, decide_eq_true_eq] at h1
  obtain ⟨⟨⟨h2, h3⟩, ⟨h4, h5⟩, h6, h7⟩, -⟩ := h1
  exact ⟨h2, h3, h4, h5, h6, h7⟩
theorem argB_of {m : List (List Int)} {xs : List Info} (h1 : memOk m = true) (h2 : infosOk xs = true) {f : Nat} (hf : f < 12) : argB m xs (f : Int) = true := by
  have h3 : btw 0 (f : Int) 11 = true := by simp only [btw, decide_eq_true_eq]; omega
  unfold argB
  rw [h1, h2, h3]; rfl
theorem all_bad {α : Type} {p : α → Bool} {xs : List α} {k : Nat} {x : α} (hx : xs[k]? = some x) (h : p x = false) : xs.all p = false := List.all_eq_false.2 ⟨x, List.mem_of_getElem? hx, by simp [h]⟩
theorem range_bad {p : Nat → Bool} {n k : Nat} (hk : k < n) (h : p k = false) : (List.range n).all p = false := List.all_eq_false.2 ⟨k, List.mem_range.2 hk, by simp [h]⟩
theorem range_good {p : Nat → Bool} {n : Nat} (h : ∀ i, i < n → p i = true) : (List.range n).all p = true := List.all_eq_true.2 fun i hi => h i (List.mem_range.1 hi)
theorem all_upto {α : Type} {p : α → Bool} {xs : List α} {k : Nat} (hk : xs.length ≤ k) (h : (xs.take k).all p = true) : xs.all p = true := by rw [List.take_of_length_le hk] at h; exact h
theorem rootAt_in {m : List (List Int)} {xs : List Info} {es : List Env} (h : es.all (envOk m xs) = true) (hl : es.length = 3) {i : Int} (hi : 0 ≤ i ∧ i ≤ 2) : ∃ (k : Nat) (e : Env), i = (k : Int) ∧ k < 3 ∧ es[k]? = some e ∧ rootAt es i = e.rt ∧ -1 ≤ e.rt ∧ e.rt ≤ 11 := by
  obtain ⟨k, rfl⟩ := Int.eq_ofNat_of_zero_le hi.1
  obtain ⟨e, he⟩ : ∃ e, es[k]? = some e := ⟨_, List.getElem?_eq_getElem (by omega)⟩
  have h1 := envOk_in (List.all_eq_true.1 h e (List.mem_of_getElem? he))
  exact ⟨k, e, rfl, by omega, he, root_at he, h1.1, h1.2⟩
end Go.Proofs.YtojknkpjnchchaaGreatDoor
