/- Contracts of the functions that take frames and give them back. No conditions but the readings of the arguments and the sizes of the texts. -/
import Derived.Test.YtojknkpjnchchaaGreatDoorInfoF
namespace Go.Proofs.YtojknkpjnchchaaGreatDoor
open Go.ChangeShapes Go.WideShapes Go.RowKit
set_option linter.all false
set_option maxRecDepth 100000
attribute [local go_sem ↓] Go.wp_at_zero Go.wp_at_succ

theorem idx_found {α : Type} {p : α → Bool} {xs : List α} (h : xs.any p = true) : ∃ (k : Nat) (x : α), idxOf p xs = (k : Int) ∧ xs[k]? = some x ∧ p x = true ∧ (xs.take k).any p = false := by
  have hlt : xs.findIdx p < xs.length := List.findIdx_lt_length.2 (by simpa using h)
  refine ⟨xs.findIdx p, xs[xs.findIdx p], by unfold idxOf; rw [if_pos h], List.getElem?_eq_getElem hlt, List.findIdx_getElem, ?_⟩
  rw [List.any_eq_false]
  intro x hx
  obtain ⟨i, hi, rfl⟩ := List.mem_take_iff_getElem.1 hx
  have := List.not_of_lt_findIdx (p := p) (xs := xs) (i := i) (by omega)
  simpa using this

abbrev rowF (v : Value) (xs : List Info) : Res := Res.row Info.enc 3 73 v xs

/-- A store of a whole element of three cells. -/
theorem Bun.store3 {α : Type} {enc : α → List Value} {e g n c k : Nat} {w0 w : World} {row : Option Nat} {rs : List Res} {xs : List α} {x : α} {a1 a2 a3 : Value} (h : Bun w0 row w (Res.row enc 3 e (.slice (some ⟨g, 0, none⟩) n c) xs :: rs)) (hK : ∀ x, (enc x).length = 3) (hk : k < xs.length) (hx : enc x = [a1, a2, a3]) :
    Bun w0 row (((w.setCell ⟨g, k * 3, none⟩ a1).setCell ⟨g, k * 3 + 1, none⟩ a2).setCell ⟨g, k * 3 + 2, none⟩ a3) (Res.row enc 3 e (.slice (some ⟨g, 0, none⟩) n c) (xs.set k x) :: rs) := by
  have ho : OwT enc 3 e 0 w (.slice (some ⟨g, 0, none⟩) n c) xs := h.get 0 rfl
  exact h.mod ((Chs.set w ⟨g, k * 3, none⟩ a1 (by exact (rfl : (some g : Option Nat) = some g))).trans ((Chs.set _ ⟨g, k * 3 + 1, none⟩ a2 (by exact (rfl : (some g : Option Nat) = some g))).trans (Chs.set _ ⟨g, k * 3 + 2, none⟩ a3 (by exact (rfl : (some g : Option Nat) = some g))))) (Res.row enc 3 e (.slice (some ⟨g, 0, none⟩) n c) (xs.set k x)) (ho.stored3 hK k x a1 a2 a3 hk hx) (fun _ h => .inl h) (fun _ h => .inl h)

theorem takB_f1 {xs : List Info} {g : Txt} (h : infosOk xs = false) : takB xs g = false ∧ takI xs g = 0 ∧ takL xs g = [] := by
  have : takB xs g = false := by simp [takB, h]
  exact ⟨this, by simp [takI, this], by simp [takL, this]⟩
theorem takB_f2 {xs : List Info} {g : Txt} (h : rightOk g = false) : takB xs g = false ∧ takI xs g = 0 ∧ takL xs g = [] := by
  have : takB xs g = false := by simp [takB, h]
  exact ⟨this, by simp [takI, this], by simp [takL, this]⟩
theorem takB_f3 {xs : List Info} {g : Txt} (h : xs.any isFree0 = false) : takB xs g = false ∧ takI xs g = 0 ∧ takL xs g = [] := by
  have : takB xs g = false := by simp [takB, h]
  exact ⟨this, by simp [takI, this], by simp [takL, this]⟩
theorem takB_t {xs : List Info} {g : Txt} (h1 : infosOk xs = true) (h2 : rightOk g = true) (h3 : xs.any isFree0 = true) : ∃ k : Nat, k < 12 ∧ freeI xs = (k : Int) ∧ takB xs g = true ∧ takI xs g = (k : Int) ∧ takL xs g = xs.set k ⟨1, g, 0⟩ ∧ xs[k]? = some Info.zero ∧ (xs.take k).any isFree0 = false := by
  obtain ⟨k, x, hk, hx, hp, hn⟩ := idx_found h3
  have hb : takB xs g = true := by simp [takB, h1, h2, h3]
  have hf : freeI xs = (k : Int) := hk
  have hl : k < xs.length := (List.getElem?_eq_some_iff.1 hx).1
  have hz : x = Info.zero := infoOk_free (infosOk_all h1 (List.mem_of_getElem? hx)) (by simpa [isFree0] using hp)
  refine ⟨k, by have := infosOk_len h1; omega, hf, hb, by simp [takI, hb, hf], by simp [takL, hb, hf], by rw [hx, hz], hn⟩

theorem isFrame_c (n : Int) (w : World) : Calls Tryz.prog 46 #[.int .i64 n] w fun e w' => e = .returned (.bool (btw 0 n 11)) ∧ w = w' := by
  go_enter Tryz.func46, Tryz.ntmps46
  go_wp2_with (go_at_call 105; refine (within_c _ _ _ _).mono ?_; rintro e w' ⟨rfl, rfl⟩)
  go_ret
  exact ⟨rfl, rfl⟩
theorem l1Frame_c (n : Int) (w : World) : Calls Tryz.prog 130 #[.int .i64 n] w fun e w' => e = .returned (.bool (btw 0 n 11)) ∧ w = w' := by
  go_enter Tryz.func130, Tryz.ntmps130
  go_wp2_with (go_at_call 86; refine (l6In_c _ _ _ _).mono ?_; rintro e w' ⟨rfl, rfl⟩)
  go_ret
  exact ⟨rfl, rfl⟩

theorem givB_f1 {xs : List Info} {f : Int} (h : infosOk xs = false) : givB xs f = false ∧ givL xs f = [] := by
  have : givB xs f = false := by simp [givB, h]
  exact ⟨this, by simp [givL, this]⟩
theorem givB_f2 {xs : List Info} {f : Int} (h : btw 0 f 11 = false) : givB xs f = false ∧ givL xs f = [] := by
  have : givB xs f = false := by simp [givB, h]
  exact ⟨this, by simp [givL, this]⟩
theorem giv_at {xs : List Info} {f : Int} (h1 : infosOk xs = true) (h2 : btw 0 f 11 = true) : ∃ (k : Nat) (m : Info), f = (k : Int) ∧ k < 12 ∧ xs[k]? = some m ∧ infAt xs f = m ∧ 0 ≤ m.rf ∧ givB xs f = (decide (m.kd = 1) && decide (m.rf = 0)) := by
  simp only [btw, decide_eq_true_eq] at h2
  obtain ⟨k, rfl⟩ := Int.eq_ofNat_of_zero_le h2.1
  have hl := infosOk_len h1
  have hx : xs[k]? = some xs[k] := List.getElem?_eq_getElem (by omega)
  have ha : infAt xs (k : Int) = xs[k] := by simp [infAt, hx]
  refine ⟨k, xs[k], rfl, by omega, hx, ha, (infoOk_refs (infosOk_all h1 (List.mem_of_getElem? hx))).1, ?_⟩
  have hb : btw 0 (k : Int) 11 = true := by simp only [btw, decide_eq_true_eq]; exact h2
  simp [givB, h1, hb, ha]
theorem givL_f {xs : List Info} {f : Int} (h : givB xs f = false) : givL xs f = [] := by simp [givL, h]
theorem givL_t {xs : List Info} {k : Nat} (h : givB xs (k : Int) = true) : givL xs (k : Int) = xs.set k Info.zero := by simp [givL, h]

end Go.Proofs.YtojknkpjnchchaaGreatDoor
