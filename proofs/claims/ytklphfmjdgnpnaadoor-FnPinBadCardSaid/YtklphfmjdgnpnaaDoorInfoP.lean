/- What the statements on frames ask of the plain functions. No conditions. -/
import Derived.Test.YtklphfmjdgnpnaaDoorInfoA
namespace Go.Proofs.YtklphfmjdgnpnaaDoor
set_option linter.all false
set_option maxRecDepth 100000

def isFree0 (x : Info) : Bool := decide (x.kd = 0)
def freeI (xs : List Info) : Int := idxOf isFree0 xs
def countF (xs : List Info) : Nat := (xs.filter isFree0).length
def freeN (xs : List Info) : Int := if infosOk xs then (countF xs : Int) else -1
def takB (xs : List Info) (g : Txt) : Bool := infosOk xs && rightOk g && xs.any isFree0
def takI (xs : List Info) (g : Txt) : Int := if takB xs g then freeI xs else 0
def takL (xs : List Info) (g : Txt) : List Info := if takB xs g then xs.set (freeI xs).toNat ⟨1, g, 0⟩ else []
def infAt (xs : List Info) (f : Int) : Info := (xs[f.toNat]?).getD Info.zero
def givB (xs : List Info) (f : Int) : Bool := infosOk xs && btw 0 f 11 && (decide ((infAt xs f).kd = 1) && decide ((infAt xs f).rf = 0))
def givL (xs : List Info) (f : Int) : List Info := if givB xs f then xs.set f.toNat Info.zero else []

theorem infosOk_len {xs : List Info} (h : infosOk xs = true) : xs.length = 12 := by simp [infosOk] at h; exact h.1
theorem infosOk_all {xs : List Info} (h : infosOk xs = true) {x : Info} (hx : x ∈ xs) : infoOk x = true := by simp [infosOk] at h; exact h.2 x hx
theorem infoOk_refs {x : Info} (h : infoOk x = true) : 0 ≤ x.rf ∧ x.rf ≤ 50 := by
  simp only [infoOk, Bool.or_eq_true, decide_eq_true_eq, Bool.and_eq_true, btw] at h
  rcases h with rfl | h
  · decide
  · exact h.2
theorem infoOk_free {x : Info} (h : infoOk x = true) (hk : x.kd = 0) : x = Info.zero := by
  simp only [infoOk, Bool.or_eq_true, decide_eq_true_eq, Bool.and_eq_true, btw] at h
  rcases h with h | h
  · exact h
  · omega
theorem infosOk_set {xs : List Info} {k : Nat} {x : Info} (h : infosOk xs = true) (hx : infoOk x = true) : infosOk (xs.set k x) = true := by
  simp only [infosOk, Bool.and_eq_true, decide_eq_true_eq, List.all_eq_true, List.length_set] at h ⊢
  refine ⟨h.1, fun y hy => ?_⟩
  rcases List.mem_or_eq_of_mem_set hy with hy | rfl
  · exact h.2 y hy
  · exact hx
theorem infoZero_ok : infoOk Info.zero = true := by simp [infoOk]
theorem infoData_ok {g : Txt} (h : rightOk g = true) : infoOk ⟨1, g, 0⟩ = true := by simp [infoOk, h, btw]
theorem count_set {xs : List Info} {k : Nat} {x y : Info} (hx : xs[k]? = some x) : (countF (xs.set k y) : Int) = countF xs - (if isFree0 x then 1 else 0) + (if isFree0 y then 1 else 0) := by
  induction xs generalizing k with
  | nil => simp at hx
  | cons a t ih =>
    cases k with
    | zero =>
      simp at hx; subst hx
      simp only [List.set_cons_zero, countF, List.filter_cons]
      by_cases h1 : isFree0 a = true <;> by_cases h2 : isFree0 y = true <;> simp [h1, h2] <;> omega
    | succ k =>
      simp at hx
      have := ih hx
      simp only [List.set_cons_succ, countF, List.filter_cons] at this ⊢
      by_cases h1 : isFree0 a = true <;> simp [h1] <;> omega
theorem count_le (xs : List Info) : countF xs ≤ xs.length := List.length_filter_le _ _
theorem count_pos {xs : List Info} : 0 < countF xs ↔ xs.any isFree0 = true := by
  unfold countF
  rw [List.length_pos_iff, List.any_eq_true, ne_eq, List.filter_eq_nil_iff]
  constructor
  · intro h
    apply Classical.byContradiction
    intro hn
    exact h fun x hx hp => hn ⟨x, hx, hp⟩
  · rintro ⟨x, hx, hp⟩ h
    exact h x hx hp
end Go.Proofs.YtklphfmjdgnpnaaDoor
