/- A region that draws its order: reads in any order (each may wait), one single operation at a time between them. -/
import Derived.Test.YtojknkpjnchchaaGreatDoorKerN
namespace Go.Proofs.YtojknkpjnchchaaGreatDoor
open Go.BigFrame
set_option linter.all false
set_option maxRecDepth 100000

section
variable {P : Program} {ops : Array Oper} {md : Region.Mode} {C : World → Prop} {R : Act → World → Prop}

def isRead (o : Oper) : Bool :=
  match o.op with
  | .move _ | .assign _ | .pick _ _ _ | .load _ _ | .fieldAddr _ _ _ | .indexAddr _ _ _ | .binOp _ _ _ _ _ | .unOp _ _ _ | .extract _ _ => true
  | _ => false

theorem val_run (s : Sem Value) (w : World) : ∀ f args w', (show Sem Next from do pure (.value (← s))).run P w ≠ .ok (.enter f args) w' := by
  intro f args w'
  simp only [Sem.run_bind]
  cases s.run P w <;> simp [Result.andThen, Sem.run_pure]

theorem read_run {ρ : Operand → Value} {o : Oper} (h : isRead o = true) (w : World) : ∀ f args w', (execOp ρ o).run P w ≠ .ok (.enter f args) w' := by
  unfold isRead at h
  unfold execOp
  split at h
  case h_1 x e => rw [e]; intro f args w'; simp [Sem.run_pure]
  case h_2 x e => rw [e]; intro f args w'; simp [Sem.run_pure]
  case h_3 c x y e =>
    rw [e]
    intro f args w'
    simp only [Sem.run_bind]
    cases (asBool (ρ c)).run P w <;> simp [Result.andThen, Sem.run_pure]
  case h_4 x y e => rw [e]; exact val_run _ w
  case h_5 x y z e => rw [e]; exact val_run _ w
  case h_6 x y z e => rw [e]; exact val_run _ w
  case h_7 x y z u v e => rw [e]; exact val_run _ w
  case h_8 x y z e => rw [e]; exact val_run _ w
  case h_9 x y e => rw [e]; exact val_run _ w
  case h_10 => cases h

def none0 : Exit → Act → World → Prop := fun _ _ _ => False
theorem none0_out : ¬ LetsOut none0 := fun ⟨_, _, h⟩ => h

def wpAnyC (P : Program) (md : Region.Mode) (ops : Array Oper) (C : World → Prop) (R : Act → World → Prop) : Nat → Array Bool → Act → World → Prop
  | 0, listed, a, w => Region.ready md ops listed = [] ∧ R a w
  | fuel + 1, listed, a, w =>
    (Region.ready md ops listed = [] → R a w) ∧
    ∀ i ∈ Region.ready md ops listed, wpOp P ops none0 i (fun a' w' => C w' ∧ wpAnyC P md ops C R fuel (listed.setIfInBounds i true) a' w') a w

theorem Oper.wp_of_none {o : Oper} {a : Act} {w : World} {K : Act → World → Prop} {Q : Exit → Act → World → Prop} (h : o.wp P a w K none0) : o.wp P a w K Q := by
  unfold Oper.wp at *
  generalize (execOp a.eval o).run P w = r at *
  cases r with
  | ok n w' =>
    cases n <;> simp only [Oper.upon] at h ⊢
    case enter f args =>
      refine Calls.mono h fun e w'' he => ?_
      cases e with
      | returned v => exact he
      | panicked c => exact absurd he (fun h => h)
      | outgrown => exact absurd he none0_out
    all_goals exact h
  | halt x w' => cases x <;> simp only [Oper.upon] at h ⊢ <;> first | exact h | exact absurd h (fun h => h)

theorem wpOp_of_none {i : Nat} {a : Act} {w : World} {K : Act → World → Prop} {Q : Exit → Act → World → Prop} (h : wpOp P ops none0 i K a w) : wpOp P ops Q i K a w := by
  unfold wpOp at *
  split
  · rename_i ho; simp only [ho] at h; exact h
  · rename_i o ho
    simp only [ho] at h
    split
    · rename_i hw
      simp only [hw, if_true] at h
      rcases h with h | h
      · exact .inl (Oper.wp_of_none h)
      · exact absurd h.2 none0_out
    · rename_i hw; simp only [hw] at h; exact h

theorem wpAny_of_C {Q : Exit → Act → World → Prop} (hR : ∀ a w, R a w → Q .normal a w) : ∀ fuel listed a w, wpAnyC P md ops C R fuel listed a w → wpAny P md ops Q fuel listed a w
  | 0, _, _, _, h => ⟨h.1, hR _ _ h.2⟩
  | fuel + 1, _, _, _, h => ⟨fun h0 => hR _ _ (h.1 h0), fun i hi => wpOp_of_none (wpOp_mono (fun a' w' h' => wpAny_of_C hR fuel _ a' w' h'.2) (h.2 i hi))⟩

theorem put_defers (a : Act) (x : Option Tmp) (v : Value) (d : Deferred) : { a.put x v with defers := d :: (a.put x v).defers } = ({ a with defers := d :: a.defers } : Act).put x v := by
  cases x <;> rfl

/-- One operation, apart from a read: the read may stand ahead of it or behind it. -/
theorem wpOp_put {j : Nat} {oi oj : Oper} {v : Value} (hj : ops[j]? = some oj) (hap : oi.apart ops oj = true)
    (hsi : ∀ cs b, oi.op ≠ .select cs b) (hsj : ∀ cs b, oj.op ≠ .select cs b) {K : Act → World → Prop} {a : Act} {w : World}
    (hy : YieldsIn P ops C oi v a) (h : wpOp P ops none0 j K (a.put oi.dst v) w) :
    wpOp P ops none0 j (fun a' w' => YieldsIn P ops C oi v a' ∧ K (a'.put oi.dst v) w') a w := by
  obtain ⟨h1, h2, h3⟩ := Oper.apart_spec hap
  have keep : ∀ (a : Act), YieldsIn P ops C oi v a → ∀ u, YieldsIn P ops C oi v (a.put oj.dst u) := fun a hy u =>
    hy.of_same (execOp_put oi hsi a oj.dst u h3) (wanted_put oi a oj.dst u h3)
  have keepd : ∀ (a : Act) d, YieldsIn P ops C oi v a → YieldsIn P ops C oi v { a with defers := d } := fun a d hy => hy.of_same rfl rfl
  unfold wpOp at *
  simp only [hj] at *
  rw [wanted_put oj a oi.dst v h1] at h
  split
  · rename_i hw
    simp only [hw, if_true] at h
    refine .inl ?_
    rcases h with h | h
    · unfold Oper.wp at *
      rw [execOp_put oj hsj a oi.dst v h1] at h
      generalize (execOp a.eval oj).run P w = r at *
      cases r with
      | ok n w' =>
        cases n <;> simp only [Oper.upon] at h ⊢
        case value u => exact ⟨keep a hy u, by rw [← Act.put_comm a v u h2]; exact h⟩
        case skip => exact ⟨keep a hy _, by rw [← Act.put_comm a v undef h2]; exact h⟩
        case defer d =>
          rw [put_defers, Act.put_comm _ v undef h2] at h
          exact ⟨keep _ (keepd a _ hy) _, h⟩
        case enter f args =>
          refine Calls.mono h fun e w'' he => ?_
          cases e with
          | returned u => exact ⟨keep a hy u, by rw [← Act.put_comm a v u h2]; exact he⟩
          | panicked c => exact absurd he (fun h => h)
          | outgrown => exact he
        case row r args => exact Rows.mono h fun u w'' he => ⟨keep a hy u, by rw [← Act.put_comm a v u h2]; exact he⟩
      | halt x w' => cases x <;> simp only [Oper.upon] at h ⊢ <;> exact absurd h (fun h => h)
    · exact absurd h.2 none0_out
  · rename_i hw
    simp only [hw] at h
    exact ⟨keep a hy _, by rw [← Act.put_comm a v undef h2]; exact h⟩

theorem yields_op {i : Nat} {o : Oper} {v : Value} {a : Act} {w : World} {K : Act → World → Prop} (hi : ops[i]? = some o) (hr : isRead o = true) (hC : C w) (hy : YieldsIn P ops C o v a) (h : K (a.put o.dst v) w) : wpOp P ops none0 i K a w := by
  unfold wpOp
  simp only [hi]
  rcases hy with ⟨hw, hv⟩ | ⟨hw, rfl⟩
  · simp only [hw, if_true]
    refine .inl ?_
    have h3 := hv w hC
    have h4 := read_run (P := P) (ρ := a.eval) hr w
    unfold Oper.quietAt at h3
    unfold Oper.wp
    generalize (execOp a.eval o).run P w = r at *
    cases r with
    | ok n w' =>
      cases n <;> simp only [Oper.quietUpon] at h3 <;> simp only [Oper.upon]
      case value u => obtain ⟨e1, e2⟩ := h3; rw [e1, e2]; exact h
      case skip => obtain ⟨e1, e2⟩ := h3; rw [e1, ← e2]; exact h
      case enter f args => exact absurd rfl (h4 f args w')
    | halt x w' => simp only [Oper.quietUpon] at h3
  · simp only [hw, Bool.false_eq_true, if_false]; exact h

theorem wpAnyC_first {i : Nat} {oi : Oper} {v : Value} (hi : ops[i]? = some oi) (hrd : isRead oi = true) (hsel : ∀ (j : Nat) (o : Oper) cs b, ops[j]? = some o → o.op ≠ .select cs b) :
    ∀ (fuel : Nat) (listed : Array Bool) (a : Act) (w : World), C w →
      (∀ j oj, ops[j]? = some oj → j ≠ i → listed.getD j true = false → (∀ e ∈ oj.after, Region.binds md e = true → e.on ≠ i) → oi.apart ops oj = true) →
      i ∈ Region.ready md ops listed → YieldsIn P ops C oi v a →
      wpAnyC P md ops C R fuel (listed.setIfInBounds i true) (a.put oi.dst v) w → wpAnyC P md ops C R (fuel + 1) listed a w := by
  intro fuel
  induction fuel with
  | zero =>
    intro listed a w hC _ hr hy H
    refine ⟨fun h => (by rw [h] at hr; cases hr), fun j hj => ?_⟩
    by_cases hji : j = i
    · subst hji; exact yields_op hi hrd hC hy ⟨hC, H⟩
    · have := ready_mono hj hji
      rw [H.1] at this
      cases this
  | succ fuel ih =>
    intro listed a w hC hfree hr hy H
    refine ⟨fun h => (by rw [h] at hr; cases hr), fun j hj => ?_⟩
    by_cases hji : j = i
    · subst hji; exact yields_op hi hrd hC hy ⟨hC, H⟩
    · have h1 := H.2 j (ready_mono hj hji)
      obtain ⟨hjun, oj, hoj, hall⟩ := mem_ready.1 hj
      have hnot : ∀ e ∈ oj.after, Region.binds md e = true → e.on ≠ i := fun e he hb heq => by
        have h1 := hall e he hb
        have h0 := (mem_ready.1 hr).1
        rw [heq] at h1
        rcases Nat.lt_or_ge i listed.size with h' | h'
        · simp [h'] at h0 h1; rw [h0] at h1; cases h1
        · simp [Array.getElem?_eq_none h'] at h1
      have h2 := wpOp_put hoj (hfree j oj hoj hji hjun hnot) (fun cs b => hsel i oi cs b hi) (fun cs b => hsel j oj cs b hoj) hy h1
      have hfree' : ∀ k ok, ops[k]? = some ok → k ≠ i → (listed.setIfInBounds j true).getD k true = false →
          (∀ e ∈ ok.after, Region.binds md e = true → e.on ≠ i) → oi.apart ops ok = true := fun k ok hk hki hun hno => by
        refine hfree k ok hk hki ?_ hno
        by_cases hjk : j = k
        · subst hjk; exact hjun
        · rw [getD_set_ne true hjk] at hun; exact hun
      refine wpOp_mono (fun a' w' h3 => ⟨h3.2.1, ih (listed.setIfInBounds j true) a' w' h3.2.1 hfree' (ready_mono hr (Ne.symm hji)) h3.1 ?_⟩) h2
      rw [Array.setIfInBounds_comm _ _ hji]
      exact h3.2.2

/-- The walk, one operation at a time: true = a read, false = a single operation. -/
def wpPlan1 (P : Program) (ops : Array Oper) (C : World → Prop) (R : Act → World → Prop) : List Bool → List Oper → Act → World → Prop
  | [], _, a, w => R a w
  | _ :: _, [], _, _ => False
  | true :: r, o :: l, a, w => if Region.wanted o (yielded ops a.tmps) then o.quiet P a C (fun a' => wpPlan1 P ops C R r l a' w) else wpPlan1 P ops C R r l (a.put o.dst undef) w
  | false :: r, o :: l, a, w => if Region.wanted o (yielded ops a.tmps) then o.wp P a w (fun a' w' => C w' ∧ wpPlan1 P ops C R r l a' w') none0 else wpPlan1 P ops C R r l (a.put o.dst undef) w

def planB (md : Region.Mode) (ops : Array Oper) : List Bool → List Nat → Array Bool → Bool
  | [], _, listed => (Region.ready md ops listed).isEmpty
  | _ :: _, [], _ => false
  | true :: r, k :: ks, listed => (Region.ready md ops listed).contains k && Region.free md ops listed k && (ops[k]?.map isRead).getD false && planB md ops r ks (listed.setIfInBounds k true)
  | false :: r, k :: ks, listed => decide (Region.ready md ops listed = [k]) && planB md ops r ks (listed.setIfInBounds k true)

theorem wpAnyC_plan (hs : Region.noSelect ops = true) : ∀ (p : List Bool) (l : List Oper) (ks : List Nat) (listed : Array Bool) (a : Act) (w : World), C w → ks.map (ops[·]?) = l.map some →
    planB md ops p ks listed = true → wpPlan1 P ops C R p l a w → wpAnyC P md ops C R p.length listed a w
  | [], l, ks, listed, a, w, _, _, hB, h => ⟨by simpa [planB] using hB, h⟩
  | _ :: _, [], _, _, _, _, _, _, _, h => by simp [wpPlan1] at h
  | _ :: _, _ :: _, [], _, _, _, _, hl, _, _ => by simp at hl
  | true :: r, o :: l, k :: ks, listed, a, w, hC, hl, hB, h => by
    simp only [List.map_cons, List.cons.injEq] at hl
    obtain ⟨h0, hl'⟩ := hl
    simp only [planB, Bool.and_eq_true, h0, Option.map_some, Option.getD_some] at hB
    obtain ⟨⟨⟨hr, hf⟩, hrd⟩, hB'⟩ := hB
    have hst : qOp P ops C k (fun a' => wpPlan1 P ops C R r l a' w) a := by unfold qOp; simp only [h0]; exact h
    obtain ⟨v, hy, hK⟩ := yieldsIn_of_qOp h0 hst
    exact wpAnyC_first h0 hrd (Region.noSelect_spec hs) r.length listed a w hC (Region.free_spec h0 hf) (by simpa using hr) hy
      (wpAnyC_plan hs r l ks _ _ w hC hl' hB' hK)
  | false :: r, o :: l, k :: ks, listed, a, w, hC, hl, hB, h => by
    simp only [List.map_cons, List.cons.injEq] at hl
    obtain ⟨h0, hl'⟩ := hl
    simp only [planB, Bool.and_eq_true, decide_eq_true_eq] at hB
    refine ⟨fun h1 => (by rw [hB.1] at h1; cases h1), fun i hi => ?_⟩
    rw [hB.1] at hi
    obtain rfl : i = k := by simpa using hi
    unfold wpOp
    simp only [h0]
    simp only [wpPlan1] at h
    split
    · rename_i hw
      rw [if_pos hw] at h
      refine .inl (Oper.wp_mono (fun a' w' h' => ⟨h'.1, wpAnyC_plan hs r l ks _ a' w' h'.1 hl' hB.2 h'.2⟩) h)
    · rename_i hw
      rw [if_neg hw] at h
      exact ⟨hC, wpAnyC_plan hs r l ks _ _ w hC hl' hB.2 h⟩

/-- What stands behind a single operation. -/
def segQ (C : World → Prop) (next : Act → World → Prop) : Exit → Act → World → Prop
  | .normal, a, w => C w ∧ next a w
  | _, _, _ => False

def wpPlan (P : Program) (ops : Array Oper) (C : World → Prop) (R : Act → World → Prop) : List (Option Nat) → List Oper → Act → World → Prop
  | [], _, a, w => R a w
  | some n :: r, l, a, w => wpQuiet P ops C (fun a' => wpPlan P ops C R r (l.drop n) a' w) (l.take n) a
  | none :: r, l, a, w => wpList P ops (segQ C fun a' w' => wpPlan P ops C R r (l.drop 1) a' w') (l.take 1) a w

theorem wpPlan_nil {l : List Oper} {a : Act} {w : World} (h : R a w) : wpPlan P ops C R [] l a w := h

def flatPlan : List (Option Nat) → List Bool
  | [] => []
  | some n :: r => List.replicate n true ++ flatPlan r
  | none :: r => false :: flatPlan r

theorem Oper.wp_of_seg {o : Oper} {a : Act} {w : World} {K : Act → World → Prop} {next : Act → World → Prop} (h : o.wp P a w K (segQ C next)) : o.wp P a w K none0 := by
  unfold Oper.wp at *
  generalize (execOp a.eval o).run P w = r at *
  cases r with
  | ok n w' =>
    cases n <;> simp only [Oper.upon] at h ⊢
    case enter f args =>
      refine Calls.mono h fun e w'' he => ?_
      cases e with
      | returned v => exact he
      | panicked c => exact absurd he (fun h => h)
      | outgrown => obtain ⟨_, _, h⟩ := he; exact absurd h (fun h => h)
    all_goals exact h
  | halt x w' => cases x <;> simp only [Oper.upon] at h ⊢ <;> first | exact h | exact absurd h (fun h => h)

theorem plan1_reads {p : List Bool} {L : List Oper} {w : World} : ∀ (n : Nat) (l : List Oper) (a : Act), n ≤ l.length → wpQuiet P ops C (fun a' => wpPlan1 P ops C R p (l.drop n) a' w) (l.take n) a → wpPlan1 P ops C R (List.replicate n true ++ p) l a w
  | 0, l, a, _, h => by simpa [wpQuiet] using h
  | n + 1, [], a, hn, h => by simp at hn
  | n + 1, o :: l, a, hn, h => by
    simp only [List.take_succ_cons, wpQuiet, List.drop_succ_cons] at h
    simp only [List.replicate_succ, List.cons_append, wpPlan1]
    have hn' : n ≤ l.length := by simpa using hn
    split
    · rename_i hw
      rw [if_pos hw] at h
      exact Oper.quiet_mono (fun a' h' => plan1_reads (L := L) n l a' hn' h') h
    · rename_i hw
      rw [if_neg hw] at h
      exact plan1_reads (L := L) n l _ hn' h

def sizeP : List (Option Nat) → Nat
  | [] => 0
  | some n :: r => n + sizeP r
  | none :: r => 1 + sizeP r

theorem wpQuiet_mono' {Q Q' : Act → Prop} (hq : ∀ a, Q a → Q' a) : ∀ (l : List Oper) (a : Act), wpQuiet P ops C Q l a → wpQuiet P ops C Q' l a
  | [], a, h => hq a h
  | o :: l, a, h => by
    unfold wpQuiet at *
    split
    · rename_i hw; rw [if_pos hw] at h; exact Oper.quiet_mono (fun a' h' => wpQuiet_mono' hq l a' h') h
    · rename_i hw; rw [if_neg hw] at h; exact wpQuiet_mono' hq l _ h

theorem plan_flat : ∀ (p : List (Option Nat)) (l : List Oper) (a : Act) (w : World), C w → sizeP p ≤ l.length → wpPlan P ops C R p l a w → wpPlan1 P ops C R (flatPlan p) l a w
  | [], l, a, w, _, _, h => by simpa [wpPlan, flatPlan, wpPlan1] using h
  | some n :: r, l, a, w, hC, hn, h => by
    simp only [sizeP] at hn
    simp only [wpPlan] at h
    simp only [flatPlan]
    refine plan1_reads (L := l) n l a (by omega) ?_
    exact wpQuiet_mono' (fun a' h' => plan_flat r _ a' w hC (by simp; omega) h') _ _ h
  | none :: r, [], a, w, _, hn, h => by simp [sizeP] at hn
  | none :: r, o :: l, a, w, hC, hn, h => by
    simp only [sizeP, List.length_cons] at hn
    simp only [wpPlan, List.take_succ_cons, List.take_zero, List.drop_succ_cons, List.drop_zero, wpList] at h
    simp only [flatPlan, wpPlan1]
    split
    · rename_i hw
      rw [if_pos hw] at h
      rcases h with h | h
      · refine Oper.wp_mono (fun a' w' h' => ?_) (Oper.wp_of_seg h)
        exact ⟨h'.1, plan_flat r l a' w' h'.1 (by omega) h'.2⟩
      · obtain ⟨_, _, h9⟩ := h.2
        exact absurd h9 (fun h => h)
    · rename_i hw
      rw [if_neg hw] at h
      exact plan_flat r l _ w hC (by omega) h.2

theorem flatPlan_len : ∀ p : List (Option Nat), (flatPlan p).length = sizeP p
  | [] => rfl
  | some n :: r => by simp [flatPlan, sizeP, flatPlan_len r]
  | none :: r => by simp [flatPlan, sizeP, flatPlan_len r, Nat.add_comm]

/-- Whether a plan serves a region: 'is' is the order of its operations in which the walk takes them. -/
def planOk (p : List (Option Nat)) (is : List Nat) (l : List Oper) : Bool := Region.noSelect l.toArray && decide (sizeP p = is.length) && planB .any l.toArray (flatPlan p) is (Array.replicate l.toArray.size false)
end

theorem wp_region_order {P : Program} {id : Nat} {Q : Exit → Act → World → Prop} {a : Act} {w : World} {l : List Oper} (p : List (Option Nat)) (is : List Nat) (l' : List Oper) (hl : is.map (l.toArray[·]?) = l'.map some) (hn : l'.length = l.length) (hm : P.follows .mixedOrders = true) (hB : planOk p is l = true)
    (h : wpPlan P l.toArray (fun w' => ∃ p : Bel w, w' = p.wd) (fun a' w' => Q .normal a' w') p l' a w.drew) : (Code.region id l.toArray true).wp P Q a w := by
  simp only [planOk, Bool.and_eq_true, decide_eq_true_eq] at hB
  obtain ⟨⟨hsel, hsz⟩, hpl⟩ := hB
  refine wp_region_any hm ?_
  have hC : (fun w' => ∃ p : Bel w, w' = p.wd) w.drew := ⟨⟨w.drew, (bref w).drew⟩, rfl⟩
  have hil : is.length = l'.length := by have := congrArg List.length hl; simpa using this
  have h1 := plan_flat p l' a w.drew hC (by omega) h
  have h2 := wpAnyC_plan (md := .any) hsel (flatPlan p) l' is _ a w.drew hC hl hpl h1
  rw [flatPlan_len, hsz, hil, hn] at h2
  have h3 := wpAny_of_C (Q := Q) (fun a w h => h) _ _ _ _ h2
  simpa using h3

theorem range_map (l : List Oper) : (List.range l.length).map (l.toArray[·]?) = l.map some := by
  apply List.ext_getElem?
  intro i
  rw [List.getElem?_map, List.getElem?_map]
  by_cases hi : i < l.length
  · rw [List.getElem?_range hi]; simp [hi]
  · rw [List.getElem?_eq_none (by simpa using hi), List.getElem?_eq_none (by simpa using hi)]; rfl

theorem wp_region_plan {P : Program} {id : Nat} {Q : Exit → Act → World → Prop} {a : Act} {w : World} {l : List Oper} (p : List (Option Nat)) (hm : P.follows .mixedOrders = true) (hB : planOk p (List.range l.length) l = true)
    (h : wpPlan P l.toArray (fun w' => ∃ p : Bel w, w' = p.wd) (fun a' w' => Q .normal a' w') p l a w.drew) : (Code.region id l.toArray true).wp P Q a w :=
  wp_region_order p (List.range l.length) l (range_map l) rfl hm hB h
/-- An operation (at n) behind the i operations that follow it. -/
def swapL {α : Type} (n i : Nat) (l : List α) : List α := l.take n ++ ((l.drop (n + 1)).take i ++ ((l.drop n).take 1 ++ l.drop (n + 1 + i)))
theorem wp_region_swap {P : Program} {id : Nat} {Q : Exit → Act → World → Prop} {a : Act} {w : World} {l : List Oper} (p : List (Option Nat)) (n i : Nat) (hm : P.follows .mixedOrders = true) (hl : (swapL n i (List.range l.length)).map (l.toArray[·]?) = (swapL n i l).map some) (hn : (swapL n i l).length = l.length) (hB : planOk p (swapL n i (List.range l.length)) l = true)
    (h : wpPlan P l.toArray (fun w' => ∃ p : Bel w, w' = p.wd) (fun a' w' => Q .normal a' w') p (swapL n i l) a w.drew) : (Code.region id l.toArray true).wp P Q a w :=
  wp_region_order p _ _ hl hn hm hB h

/-! A region step by step: reads in a row, one operation, one of two. -/
section
variable {P : Program} {l : List Oper} {md : Region.Mode} {C : World → Prop} {R : Act → World → Prop}

def setN (listed : Array Bool) : Nat → Nat → Array Bool
  | _, 0 => listed
  | k, n + 1 => setN (listed.setIfInBounds k true) (k + 1) n
def readsOk (md : Region.Mode) (ops : Array Oper) : Nat → Nat → Array Bool → Bool
  | _, 0, _ => true
  | k, n + 1, listed => (Region.ready md ops listed).contains k && Region.free md ops listed k && (ops[k]?.map isRead).getD false && readsOk md ops (k + 1) n (listed.setIfInBounds k true)

theorem anyC_reads (hs : Region.noSelect l.toArray = true) {fuel : Nat} {w : World} (hC : C w) : ∀ (n k : Nat) (listed : Array Bool) (a : Act), readsOk md l.toArray k n listed = true →
    wpQuiet P l.toArray C (fun a' => wpAnyC P md l.toArray C R fuel (setN listed k n) a' w) ((l.drop k).take n) a → wpAnyC P md l.toArray C R (fuel + n) listed a w
  | 0, k, listed, a, _, h => by simpa [wpQuiet, setN] using h
  | n + 1, k, listed, a, hB, h => by
    simp only [readsOk, Bool.and_eq_true] at hB
    obtain ⟨⟨⟨hr, hf⟩, hrd⟩, hB'⟩ := hB
    cases h0 : l.toArray[k]? with
    | none => rw [h0] at hrd; cases hrd
    | some o =>
      rw [h0] at hrd
      simp only [Option.map_some, Option.getD_some] at hrd
      have h0' : l[k]? = some o := by simpa using h0
      obtain ⟨hlt, hk⟩ := List.getElem?_eq_some_iff.1 h0'
      rw [List.drop_eq_getElem_cons hlt, hk, List.take_succ_cons] at h
      have hst : qOp P l.toArray C k (fun a' => wpQuiet P l.toArray C (fun a' => wpAnyC P md l.toArray C R fuel (setN listed k (n + 1)) a' w) ((l.drop (k + 1)).take n) a') a := by
        unfold qOp
        simp only [h0]
        simpa only [wpQuiet] using h
      obtain ⟨v, hy, hK⟩ := yieldsIn_of_qOp h0 hst
      exact wpAnyC_first h0 hrd (Region.noSelect_spec hs) (fuel + n) listed a w hC (Region.free_spec h0 hf) (by simpa using hr) hy (anyC_reads hs hC n (k + 1) _ _ hB' hK)

theorem wpOp_of_seg {k : Nat} {a : Act} {w : World} {next : Act → World → Prop} (hC : C w) (h : wpList P l.toArray (segQ C next) ((l.drop k).take 1) a w) (hk : k < l.length) : wpOp P l.toArray none0 k (fun a' w' => C w' ∧ next a' w') a w := by
  rw [List.drop_eq_getElem_cons hk] at h
  simp only [List.take_succ_cons, List.take_zero, wpList] at h
  have h0 : l.toArray[k]? = some l[k] := by simp [hk]
  unfold wpOp
  simp only [h0]
  split
  · rename_i hw
    rw [if_pos hw] at h
    rcases h with h | h
    · exact .inl (Oper.wp_mono (fun a' w' h' => h') (Oper.wp_of_seg h))
    · obtain ⟨_, _, h9⟩ := h.2
      exact absurd h9 (fun h => h)
  · rename_i hw
    rw [if_neg hw] at h
    exact ⟨hC, h.2⟩

theorem anyC_done {fuel : Nat} {listed : Array Bool} {a : Act} {w : World} (hr : Region.ready md l.toArray listed = []) (h : R a w) : wpAnyC P md l.toArray C R fuel listed a w := by
  cases fuel with
  | zero => exact ⟨hr, h⟩
  | succ n => exact ⟨fun _ => h, fun i hi => by rw [hr] at hi; cases hi⟩
theorem anyC_one (k : Nat) {fuel : Nat} {listed : Array Bool} {a : Act} {w : World} (hC : C w) (hr : Region.ready md l.toArray listed = [k]) (hk : decide (k < l.length) = true)
    (h : wpList P l.toArray (segQ C fun a' w' => wpAnyC P md l.toArray C R fuel (listed.setIfInBounds k true) a' w') ((l.drop k).take 1) a w) : wpAnyC P md l.toArray C R (fuel + 1) listed a w := by
  refine ⟨fun h1 => (by rw [hr] at h1; cases h1), fun i hi => ?_⟩
  rw [hr] at hi
  obtain rfl : i = k := by simpa using hi
  exact wpOp_of_seg hC h (of_decide_eq_true hk)
theorem anyC_two (i j : Nat) {fuel : Nat} {listed : Array Bool} {a : Act} {w : World} (hC : C w) (hr : Region.ready md l.toArray listed = [i, j]) (hk : decide (i < l.length ∧ j < l.length) = true)
    (h : wpList P l.toArray (segQ C fun a' w' => wpAnyC P md l.toArray C R fuel (listed.setIfInBounds i true) a' w') ((l.drop i).take 1) a w)
    (h2 : wpList P l.toArray (segQ C fun a' w' => wpAnyC P md l.toArray C R fuel (listed.setIfInBounds j true) a' w') ((l.drop j).take 1) a w) : wpAnyC P md l.toArray C R (fuel + 1) listed a w := by
  refine ⟨fun h1 => (by rw [hr] at h1; cases h1), fun q hq => ?_⟩
  rw [hr] at hq
  have hk' := of_decide_eq_true hk
  simp only [List.mem_cons, List.mem_nil_iff, or_false] at hq
  rcases hq with rfl | rfl
  · exact wpOp_of_seg hC h hk'.1
  · exact wpOp_of_seg hC h2 hk'.2
end

theorem wp_region_steps {P : Program} {id : Nat} {Q : Exit → Act → World → Prop} {a : Act} {w : World} {l : List Oper} (hm : P.follows .mixedOrders = true) (fuel : Nat) (hf : decide (fuel = l.length) = true)
    (h : wpAnyC P .any l.toArray (fun w' => ∃ p : Bel w, w' = p.wd) (fun a' w' => Q .normal a' w') fuel (Array.replicate l.toArray.size false) a w.drew) : (Code.region id l.toArray true).wp P Q a w := by
  refine wp_region_any hm ?_
  have h3 := wpAny_of_C (Q := Q) (fun a w h => h) _ _ _ _ h
  have := of_decide_eq_true hf
  subst this
  simpa using h3
end Go.Proofs.YtojknkpjnchchaaGreatDoor
