/- Contracts of the library's slices functions at messages, and of the checks. No conditions but the readings of the arguments. -/
import Derived.Test.YtkpdjnfgmgnjdaaMailB
namespace Go.Proofs.Ytkpdjnfgmgnjdaa
open Go.ChangeShapes Go.WideShapes Go.RowKit
set_option linter.all false
attribute [local go_sem ↓] Go.wp_at_zero Go.wp_at_succ

/-- The first place at which p holds, or -1. -/
def idxOf {α : Type} (p : α → Bool) (xs : List α) : Int := if xs.any p then (xs.findIdx p : Int) else -1

theorem idxOf_at {α : Type} {p : α → Bool} {xs : List α} {k : Nat} {x : α} (hx : xs[k]? = some x) (h : (xs.take k).any p = false) (hp : p x = true) : idxOf p xs = k := by
  obtain ⟨hk, rfl⟩ := List.getElem?_eq_some_iff.1 hx
  unfold idxOf
  have : xs.any p = true := List.any_eq_true.2 ⟨_, List.getElem_mem hk, hp⟩
  rw [if_pos this]
  congr 1
  rw [List.findIdx_eq hk]
  refine ⟨hp, fun j hj => ?_⟩
  rw [List.any_eq_false] at h
  have := h xs[j] (by rw [List.mem_take_iff_getElem]; exact ⟨j, by omega, rfl⟩)
  simpa using this

theorem any_take_succ {α : Type} {p : α → Bool} {xs : List α} {k : Nat} {x : α} (hx : xs[k]? = some x) (h : (xs.take k).any p = false) (hp : p x = false) : (xs.take (k + 1)).any p = false := by
  rw [List.take_add_one, hx]; simp [List.any_append, h, hp]

theorem idxOf_none {α : Type} {p : α → Bool} {xs : List α} {k : Nat} (hk : xs.length ≤ k) (h : (xs.take k).any p = false) : idxOf p xs = -1 := by
  rw [List.take_of_length_le hk] at h
  simp [idxOf, h]

set_option maxHeartbeats 1000000 in
theorem idxMail_c (g : Nat) (lb : Array Value) (p : Mail → Bool) (xs : List Mail) (v : Value) (w : World) (hx : RdM w v xs)
    (hg : ∀ (args : Array Value) (w : World), (callFunc g args).run Try.prog w = .ok (.enter g args) w)
    (hp : ∀ m W, Below w.heap.size w W → Calls Try.prog g (#[m.val] ++ lb) W fun e W' => e = .returned (.bool (p m)) ∧ Below W.heap.size W W') :
    Calls Try.prog 54 #[v, .func (.func g) #[] lb] w fun e w' =>
    e = .returned (.int .i64 (idxOf p xs)) ∧ Below w.heap.size w w' := by
  obtain ⟨a, c, rfl, h1, h2, -, h3⟩ := hx
  have H3 := Lib.hid h3
  have HP := Lib.hid hp
  clear h3 hp
  unfold maxLen at h2
  go_enter Try.func54, Try.ntmps54
  go_wp2
  go_loopw [8] (fun i wr => ∃ k : Nat, k ≤ xs.length ∧ i = .int .i64 k ∧ Below w.heap.size w wr ∧ Hid ((xs.take k).any p = false)) (fun i _ => xs.length - (intOf i).toNat)
  case atStart => exact ⟨0, Nat.zero_le _, rfl, Below.refl _ _, by simp [Hid]⟩
  case round =>
    obtain ⟨k, hk, rfl, hb, heq⟩ := hrel
    by_cases hlt : k < xs.length
    · obtain ⟨m, hm⟩ : ∃ m, xs[k]? = some m := ⟨_, List.getElem?_eq_getElem hlt⟩
      obtain ⟨b, o, rfl, hbl, hc⟩ := H3.out k m hm
      have c0 := (hb.cell (p := ⟨b, o + k * 3 + 0, none⟩) hbl).trans (hc 0 _ rfl)
      have c1 := (hb.cell (p := ⟨b, o + k * 3 + 1, none⟩) hbl).trans (hc 1 _ rfl)
      have c2 := (hb.cell (p := ⟨b, o + k * 3 + 2, none⟩) hbl).trans (hc 2 _ rfl)
      simp only [Nat.add_zero] at c0
      have HM := Lib.hid hm
      clear hc hm
      cases hpm : p m
      all_goals
        have HE := Lib.hid hpm
        clear hpm
        go_wp2_with fail
        refine (HP.out m _ hb).mono ?_
        rintro e w' ⟨rfl, hb2⟩
        rw [HE.out]
        have hb3 := hb.trans (hb2.mono hb.size)
        go_wp2
      · go_roundw
        case rel => exact ⟨k + 1, by omega, by go_num, hb3, any_take_succ HM.out heq HE.out⟩
        case measure => simp [intOf]; omega
      · go_ret
        exact ⟨ret_int (idxOf_at HM.out heq HE.out).symm, hb3⟩
    · go_wp2
      go_ret
      exact ⟨ret_int (idxOf_none (k := k) (by omega) heq.out).symm, hb⟩

theorem eltMail : Elt Try.prog Mail.enc 3 31 27 (⟨0, 0, 0⟩ : Mail) := by
  obtain ⟨i0, hi, hz0, hz1, hz2⟩ := info_parts infoMail
  refine ⟨Mail.enc_len, by decide, ?_, Try.underlying27, i0, _, hi, hz0, hz1, by omega, rfl⟩
  intro x u hu
  simp [Mail.enc] at hu
  rcases hu with rfl | rfl | rfl <;> rfl

theorem cloneMail_c (xs : List Mail) (v : Value) (w : World) (hx : RdM w v xs) (hl : xs.length ≤ 2000000) :
    Calls Try.prog 53 #[v] w fun e w' => ∃ u, e = .returned u ∧ OwM w.heap.size w' u xs ∧ Below w.heap.size w w' := by
  have hx' := Lib.hid hx
  obtain ⟨a, c, rfl, h1, h2, h0, h3⟩ := hx
  cases a with
  | none =>
    have hc := h0 rfl
    subst hc
    have hy : xs = [] := List.eq_nil_of_length_eq_zero (by omega)
    subst hy
    have he := fun w => Lib.run_eql_slice_nil (P := Try.prog) w 27
    go_enter Try.func53, Try.ntmps53
    go_wp2
    go_ret
    exact ⟨_, rfl, World.ownsRow_nil _ _ _ _, Below.refl _ _⟩
  | some ad =>
    have he := fun w => Lib.run_eql_slice_nil (P := Try.prog) w 27
    clear h3 h0
    go_enter Try.func53, Try.ntmps53
    go_wp2_with (at_builtin; refine append_T eltMail rfl _ _ rfl w.heap.size (.slice (some ⟨w.heap.size, 0, none⟩) 0 0) (.slice (some ad) xs.length c) [] xs rfl rfl (OwT.lit eltMail _ #[] [] rfl (by simp)) (hx'.out.below ((Below.refl _ _).alloc (Nat.le_refl _) _)) (by simp; omega) (by simp) ?_; intro v' w' ho hg hat hnil)
    go_ret
    exact ⟨_, rfl, ho, ((Below.refl _ _).alloc (Nat.le_refl _) _).grown hg (by simp) (by simp [Value.ownBlock])⟩

theorem hasMail_c (g : Nat) (lb : Array Value) (p : Mail → Bool) (xs : List Mail) (v : Value) (w : World) (hx : RdM w v xs)
    (hg : ∀ (args : Array Value) (w : World), (callFunc g args).run Try.prog w = .ok (.enter g args) w)
    (hp : ∀ m W, Below w.heap.size w W → Calls Try.prog g (#[m.val] ++ lb) W fun e W' => e = .returned (.bool (p m)) ∧ Below W.heap.size W W') :
    Calls Try.prog 48 #[v, .func (.func g) #[] lb] w fun e w' =>
    e = .returned (.bool (xs.any p)) ∧ Below w.heap.size w w' := by
  have HG := Lib.hid hg
  have HP := Lib.hid hp
  clear hg hp
  have hid : decide (0 ≤ idxOf p xs) = xs.any p := by unfold idxOf; cases xs.any p <;> simp
  have HD := Lib.hid hid
  clear hid
  go_enter Try.func48, Try.ntmps48
  go_wp2_with (go_at_call 54; refine (idxMail_c g lb p xs v _ hx HG.out HP.out).mono ?_; rintro e w' ⟨rfl, hb⟩)
  go_ret
  exact ⟨ret_bool HD.out, hb⟩

theorem enters_of {P : Program} {f : FuncId} {fn : Func} {c : Code} (hf : P.funcs[f]? = some fn) (hname : (fn.name == "runtime.NumGoroutine") = false) (hb : fn.body = some c) : ∀ (args : Array Value) (w : World), (callFunc f args).run P w = .ok (.enter f args) w := by
  intro args w
  have h1 : fn.name ≠ "runtime.NumGoroutine" := by simpa using hname
  simp [callFunc, hf, h1, hb, mark]

theorem notMailOk_c (m : Mail) (w : World) : Calls Try.prog 49 #[m.val] w fun e w' => e = .returned (.bool (!m.ok)) ∧ Below w.heap.size w w' := by
  obtain ⟨a, b, c⟩ := m
  unfold Mail.val
  dsimp only
  go_enter Try.func49, Try.ntmps49
  go_wp2_with (go_at_call 50; refine (mailOk_c ⟨a, b, c⟩ _).mono ?_; rintro e w' ⟨rfl, hb⟩)
  go_ret
  exact ⟨rfl, ((Below.refl _ _).alloc (Nat.le_refl _) _).trans (hb.mono (by simp))⟩

/-- Messages are valid. -/
def mailsOk (xs : List Mail) : Bool := decide (xs.length ≤ 8) && !(xs.any fun m => !m.ok)

theorem implMailsValid_c (xs : List Mail) (v : Value) (w : World) (hx : RdM w v xs) :
    Calls Try.prog 21 #[v] w fun e w' => e = .returned (.bool (mailsOk xs)) ∧ Below w.heap.size w w' := by
  have hx' := hx
  obtain ⟨a, c, rfl, h1, h2, -, h3⟩ := hx
  unfold maxLen at h2
  have HX := Lib.hid hx'
  unfold mailsOk
  generalize hq : (xs.any fun m => !m.ok) = q
  have HQ := Lib.hid hq
  clear hx' h3 hq
  go_enter Try.func21, Try.ntmps21
  by_cases h8 : xs.length ≤ 8
  · go_wp2_with (go_at_call 48; refine (hasMail_c 49 #[] (fun m => !m.ok) xs _ _ HX.out (enters_of Try.func49 (by kernel_rfl) rfl) (fun m W _ => notMailOk_c m W)).mono ?_; rintro e w' ⟨rfl, hb⟩; rw [HQ.out])
    go_ret
    exact ⟨ret_bool (by simp [h8]), hb⟩
  · go_wp2
    go_ret
    exact ⟨ret_bool (by simp [h8]), Below.refl _ _⟩

theorem specMailsValid_c (xs : List Mail) (v : Value) (w : World) (hx : RdM w v xs) :
    Calls Try.prog 22 #[v] w fun e w' => e = .returned (.bool (mailsOk xs)) ∧ Below w.heap.size w w' := by
  obtain ⟨a, c, rfl, h1, h2, -, h3⟩ := hx
  have H3 := Lib.hid h3
  clear h3
  unfold maxLen at h2
  go_enter Try.func22, Try.ntmps22
  go_wp2
  go_loopw [3] (fun i wr => ∃ k : Nat, k ≤ xs.length ∧ i = .int .i64 k ∧ Below w.heap.size w wr ∧ Hid ((xs.take k).any (fun m => !m.ok) = false)) (fun i _ => xs.length - (intOf i).toNat)
  case atStart => exact ⟨0, Nat.zero_le _, rfl, Below.refl _ _, by simp [Hid]⟩
  case round =>
    obtain ⟨k, hk, rfl, hb, heq⟩ := hrel
    by_cases hlt : k < xs.length
    · obtain ⟨m, hm⟩ : ∃ m, xs[k]? = some m := ⟨_, List.getElem?_eq_getElem hlt⟩
      obtain ⟨b, o, rfl, hbl, hc⟩ := H3.out k m hm
      have c0 := (hb.cell (p := ⟨b, o + k * 3 + 0, none⟩) hbl).trans (hc 0 _ rfl)
      have c1 := (hb.cell (p := ⟨b, o + k * 3 + 1, none⟩) hbl).trans (hc 1 _ rfl)
      have c2 := (hb.cell (p := ⟨b, o + k * 3 + 2, none⟩) hbl).trans (hc 2 _ rfl)
      simp only [Nat.add_zero] at c0
      have HM := Lib.hid hm
      clear hc hm
      cases hpm : m.ok
      all_goals
        have HE := Lib.hid hpm
        clear hpm
        go_wp2_with (go_at_call 51; refine (l23Mail_c m _).mono ?_; rintro e w' ⟨rfl, hb2⟩; rw [HE.out]; have hb3 := hb.trans (hb2.mono hb.size))
      · go_ret
        refine ⟨ret_bool ?_, hb3⟩
        have : (xs.any fun m => !m.ok) = true := List.any_eq_true.2 ⟨m, List.mem_of_getElem? HM.out, by simp [HE.out]⟩
        simp [mailsOk, this]
      · go_roundw
        case rel => exact ⟨k + 1, by omega, by go_num, hb3, any_take_succ HM.out heq (by simp [HE.out])⟩
        case measure => simp [intOf]; omega
    · have hn : (xs.any fun m => !m.ok) = false := by have := heq.out; rwa [List.take_of_length_le (by omega)] at this
      have HN := Lib.hid hn
      clear hn
      go_wp2
      go_ret
      exact ⟨ret_bool (by simp only [mailsOk, HN.out]; simp; omega), hb⟩
end Go.Proofs.Ytkpdjnfgmgnjdaa
