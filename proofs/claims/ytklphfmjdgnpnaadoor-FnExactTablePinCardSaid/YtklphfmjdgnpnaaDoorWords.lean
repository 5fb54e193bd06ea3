/- Contracts of the functions on words: slices of integers, and the library's loops over them. No conditions but the readings of the arguments. -/
import Derived.Test.YtklphfmjdgnpnaaDoorSmall
namespace Go.Proofs.YtklphfmjdgnpnaaDoor
open Go.ChangeShapes Go.WideShapes Go.RowKit
set_option linter.all false
set_option maxRecDepth 100000
attribute [local go_sem ↓] Go.wp_at_zero Go.wp_at_succ

theorem isWord_c (n : Int) (w : World) : Calls Tryd.prog 76 #[.int .i64 n] w fun e w' => e = .returned (.bool (btw 0 n 9999)) ∧ w = w' := by
  go_enter Tryd.func76, Tryd.ntmps76
  go_wp2_with (go_at_call 98; refine (within_c _ _ _ _).mono ?_; rintro e w' ⟨rfl, rfl⟩)
  go_ret
  exact ⟨rfl, rfl⟩

set_option maxHeartbeats 1000000 in
theorem idxInt_c (g : Nat) (lb : Array Value) (ps : List Bool) (xs : List Int) (v : Value) (w : World) (hl : ps.length = xs.length) (hx : RdT encI 1 w v xs)
    (hg : ∀ (args : Array Value) (w : World), (callFunc g args).run Tryd.prog w = .ok (.enter g args) w)
    (hp : ∀ (k : Nat) (m : Int) (p : Bool) W, xs[k]? = some m → ps[k]? = some p → Below w.heap.size w W → Calls Tryd.prog g (#[.int .i64 m] ++ lb) W fun e W' => e = .returned (.bool p) ∧ Below W.heap.size W W') :
    Calls Tryd.prog 118 #[v, .func (.func g) #[] lb] w fun e w' =>
    e = .returned (.int .i64 (idxOf id ps)) ∧ Below w.heap.size w w' := by
  obtain ⟨a, c, rfl, h1, h2, -, h3⟩ := hx
  have H3 := Lib.hid h3
  have HP := Lib.hid hp
  have HL := Lib.hid hl
  clear h3 hp hl
  unfold maxLen at h2
  go_enter Tryd.func118, Tryd.ntmps118
  go_wp2
  go_loopw [8] (fun i wr => ∃ k : Nat, k ≤ xs.length ∧ i = .int .i64 k ∧ Below w.heap.size w wr ∧ Hid ((ps.take k).any id = false)) (fun i _ => xs.length - (intOf i).toNat)
  case atStart => exact ⟨0, Nat.zero_le _, rfl, Below.refl _ _, by simp [Hid]⟩
  case round =>
    obtain ⟨k, hk, rfl, hb, heq⟩ := hrel
    by_cases hlt : k < xs.length
    · obtain ⟨m, hm⟩ : ∃ m, xs[k]? = some m := ⟨_, List.getElem?_eq_getElem hlt⟩
      obtain ⟨p, hpk⟩ : ∃ p, ps[k]? = some p := ⟨_, List.getElem?_eq_getElem (by rw [HL.out]; exact hlt)⟩
      obtain ⟨b, o, rfl, hbl, hc⟩ := H3.out k m hm
      have c0 := (hb.cell (p := ⟨b, o + k * 1 + 0, none⟩) hbl).trans (hc 0 _ rfl)
      simp only [Nat.add_zero, Nat.mul_one] at c0
      have HM := Lib.hid hm
      have HQ := Lib.hid hpk
      clear hc hm hpk
      cases p
      all_goals
        go_wp2_with fail
        refine (HP.out k m _ _ HM.out HQ.out hb).mono ?_
        rintro e w' ⟨rfl, hb2⟩
        have hb3 := hb.trans (hb2.mono hb.size)
        go_wp2
      · go_roundw
        case rel => exact ⟨k + 1, by omega, by go_num, hb3, any_take_succ HQ.out heq rfl⟩
        case measure => simp [intOf]; omega
      · go_ret
        exact ⟨ret_int (idxOf_at HQ.out heq rfl).symm, hb3⟩
    · go_wp2
      go_ret
      exact ⟨ret_int (idxOf_none (k := k) (by rw [HL.out]; omega) heq.out).symm, hb⟩

theorem hasInt_c (g : Nat) (lb : Array Value) (ps : List Bool) (xs : List Int) (v : Value) (w : World) (hl : ps.length = xs.length) (hx : RdT encI 1 w v xs)
    (hg : ∀ (args : Array Value) (w : World), (callFunc g args).run Tryd.prog w = .ok (.enter g args) w)
    (hp : ∀ (k : Nat) (m : Int) (p : Bool) W, xs[k]? = some m → ps[k]? = some p → Below w.heap.size w W → Calls Tryd.prog g (#[.int .i64 m] ++ lb) W fun e W' => e = .returned (.bool p) ∧ Below W.heap.size W W') :
    Calls Tryd.prog 101 #[v, .func (.func g) #[] lb] w fun e w' =>
    e = .returned (.bool (ps.any id)) ∧ Below w.heap.size w w' := by
  have HL := Lib.hid hl
  have HG := Lib.hid hg
  have HP := Lib.hid hp
  clear hg hp hl
  have hid : decide (0 ≤ idxOf id ps) = ps.any id := by unfold idxOf; cases ps.any id <;> simp
  have HD := Lib.hid hid
  clear hid
  go_enter Tryd.func101, Tryd.ntmps101
  go_wp2_with (go_at_call 118; refine (idxInt_c g lb ps xs v _ HL.out hx HG.out HP.out).mono ?_; rintro e w' ⟨rfl, hb⟩)
  go_ret
  exact ⟨ret_bool HD.out, hb⟩

theorem cloneInt_c (xs : List Int) (v : Value) (w : World) (hx : RdT encI 1 w v xs) (hl : xs.length ≤ 2000000) :
    Calls Tryd.prog 109 #[v] w fun e w' => ∃ u, e = .returned u ∧ OwT encI 1 3 w.heap.size w' u xs ∧ Below w.heap.size w w' := by
  have hx' := Lib.hid hx
  obtain ⟨a, c, rfl, h1, h2, h0, h3⟩ := hx
  cases a with
  | none =>
    have hc := h0 rfl
    subst hc
    have hy : xs = [] := List.eq_nil_of_length_eq_zero (by omega)
    subst hy
    have he := fun w => Lib.run_eql_slice_nil (P := Tryd.prog) w 27
    go_enter Tryd.func109, Tryd.ntmps109
    go_wp2
    go_ret
    exact ⟨_, rfl, World.ownsRow_nil _ _ _ _, Below.refl _ _⟩
  | some ad =>
    have he := fun w => Lib.run_eql_slice_nil (P := Tryd.prog) w 27
    clear h3 h0
    go_enter Tryd.func109, Tryd.ntmps109
    go_wp2_with (at_builtin; refine append_T eltInt rfl _ _ rfl w.heap.size (.slice (some ⟨w.heap.size, 0, none⟩) 0 0) (.slice (some ad) xs.length c) [] xs rfl rfl (OwT.lit eltInt _ #[] [] rfl (by simp)) (hx'.out.below ((Below.refl _ _).alloc (Nat.le_refl _) _)) (by simp; omega) (by simp) ?_; intro v' w' ho hg hat hnil)
    go_ret
    exact ⟨_, rfl, ho, ((Below.refl _ _).alloc (Nat.le_refl _) _).grown hg (by simp) (by simp [Value.ownBlock])⟩


/-- The words of a frame. -/
def wordsOk (xs : List Int) : Bool := decide (xs.length = 4) && !(xs.any fun x => !btw 0 x 9999)
theorem wordsOk_len {xs : List Int} (h : wordsOk xs = true) : xs.length = 4 := by simp [wordsOk] at h; exact h.1

theorem isWords1_c (n : Int) (w : World) : Calls Tryd.prog 115 #[.int .i64 n] w fun e w' => e = .returned (.bool (!btw 0 n 9999)) ∧ Below w.heap.size w w' := by
  go_enter Tryd.func115, Tryd.ntmps115
  go_wp2_with (go_at_call 76; refine (isWord_c _ _).mono ?_; rintro e w' ⟨rfl, rfl⟩)
  go_ret
  exact ⟨rfl, bref _⟩

theorem isWords_c (xs : List Int) (v : Value) (w : World) (hx : RdI w v xs) :
    Calls Tryd.prog 94 #[v] w fun e w' => e = .returned (.bool (wordsOk xs)) ∧ Below w.heap.size w w' := by
  have hx' := hx
  obtain ⟨a, c, rfl, h1, h2, -, h3⟩ := hx
  unfold maxLen at h2
  have HX := Lib.hid hx'
  unfold wordsOk
  generalize hq : (xs.any fun x => !btw 0 x 9999) = q
  have HQ := Lib.hid hq
  clear hx' h3 hq
  by_cases h8 : xs.length = 4
  · have h8g : ((xs.length : Int) == 4) = true := by rw [beq_iff_eq]; omega
    have hp : ∀ (k : Nat) (m : Int) (p : Bool) W, xs[k]? = some m → (xs.map fun x => !btw 0 x 9999)[k]? = some p → Below w.heap.size w W → Calls Tryd.prog 115 (#[.int .i64 m] ++ #[]) W fun e W' => e = .returned (.bool p) ∧ Below W.heap.size W W' := by
      intro k m p W hm hp _
      have := get_map hm hp
      subst this
      exact isWords1_c m W
    have HPP := Lib.hid hp
    have HLL := Lib.hid (show (xs.map fun x => !btw 0 x 9999).length = xs.length by simp)
    clear hp
    have HE := enters_of (P := Tryd.prog) (f := 115) Tryd.func115 (by kernel_rfl) rfl
    have HC := Lib.hid (hasInt_c 115 #[] (xs.map fun x => !btw 0 x 9999) xs (.slice a xs.length c) w HLL.out HX.out HE HPP.out)
    have H8 := Lib.hid h8
    clear HE h8
    go_enter Tryd.func94, Tryd.ntmps94
    go_wp2_with fail
    refine HC.out.mono ?_
    rintro e w' ⟨rfl, hb⟩
    rw [any_map_id, HQ.out]
    go_wp2
    go_ret
    exact ⟨ret_bool (by simp [H8.out]), hb⟩
  · have h8g : ((xs.length : Int) == 4) = false := by rw [beq_eq_false_iff_ne]; omega
    go_enter Tryd.func94, Tryd.ntmps94
    go_wp2
    go_ret
    exact ⟨ret_bool (by simp [h8]), Below.refl _ _⟩

theorem l2Words_c (xs : List Int) (v : Value) (w : World) (hx : RdI w v xs) :
    Calls Tryd.prog 58 #[v] w fun e w' => e = .returned (.bool (wordsOk xs)) ∧ Below w.heap.size w w' := by
  obtain ⟨a, c, rfl, h1, h2, -, h3⟩ := hx
  have H3 := Lib.hid h3
  clear h3
  unfold maxLen at h2
  go_enter Tryd.func58, Tryd.ntmps58
  go_wp2
  go_loopw [3] (fun i wr => ∃ k : Nat, k ≤ xs.length ∧ i = .int .i64 k ∧ Below w.heap.size w wr ∧ Hid ((xs.take k).any (fun x => !btw 0 x 9999) = false)) (fun i _ => xs.length - (intOf i).toNat)
  case atStart => exact ⟨0, Nat.zero_le _, rfl, Below.refl _ _, by simp [Hid]⟩
  case round =>
    obtain ⟨k, hk, rfl, hb, heq⟩ := hrel
    by_cases hlt : k < xs.length
    · obtain ⟨m, hm⟩ : ∃ m, xs[k]? = some m := ⟨_, List.getElem?_eq_getElem hlt⟩
      obtain ⟨b, o, rfl, hbl, hc⟩ := H3.out k m hm
      have c0 := (hb.cell (p := ⟨b, o + k * 1 + 0, none⟩) hbl).trans (hc 0 _ rfl)
      simp only [Nat.add_zero, Nat.mul_one] at c0
      have HM := Lib.hid hm
      clear hc hm
      cases hpm : btw 0 m 9999
      all_goals
        have HE := Lib.hid hpm
        clear hpm
        go_wp2_with (go_at_call 97; refine (l6In_c _ _ _ _).mono ?_; rintro e w' ⟨rfl, rfl⟩; rw [HE.out])
      · go_ret
        refine ⟨ret_bool ?_, hb⟩
        have : (xs.any fun x => !btw 0 x 9999) = true := List.any_eq_true.2 ⟨m, List.mem_of_getElem? HM.out, by simp [HE.out]⟩
        simp [wordsOk, this]
      · go_roundw
        case rel => exact ⟨k + 1, by omega, by go_num, hb, any_take_succ HM.out heq (by simp [HE.out])⟩
        case measure => simp [intOf]; omega
    · have hn : (xs.any fun x => !btw 0 x 9999) = false := by have := heq.out; rwa [List.take_of_length_le (by omega)] at this
      have HN := Lib.hid hn
      clear hn
      go_wp2
      go_ret
      exact ⟨ret_bool (by simp only [wordsOk, HN.out]; by_cases h4 : xs.length = 4 <;> simp [h4] <;> omega), hb⟩
end Go.Proofs.YtklphfmjdgnpnaaDoor
