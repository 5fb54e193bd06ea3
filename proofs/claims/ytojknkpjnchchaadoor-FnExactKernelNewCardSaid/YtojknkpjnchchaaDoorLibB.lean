/- Laws for rows whose capacity is known: append within the room, clear, cuts. No conditions. -/
import Derived.Test.YtojknkpjnchchaaDoorLib
namespace Go.Proofs.YtojknkpjnchchaaDoor
open Go.ChangeShapes Go.WideShapes Go.RowKit
set_option linter.all false
set_option maxRecDepth 100000

section
variable {α : Type} {P : Program} {enc : α → List Value} {K : Nat} {e t : TypeId} {z : α}

theorem OwT.cut (hK : ∀ x, (enc x).length = K) {w : World} {base g n c i : Nat} {xs : List α} (h : OwT enc K e base w (.slice (some ⟨g, 0, none⟩) n c) xs) (hi : i ≤ n) : OwT enc K e base w (.slice (some ⟨g, 0, none⟩) i c) (xs.take i) := by
  have hn := (OwT.open hK h).1
  subst hn
  have hl : (xs.take i).length = i := by simp; omega
  obtain ⟨h1, h2⟩ := h
  rcases h2 with ⟨h', _⟩ | ⟨g', cap, cur, hv, hb, hg, hn, hm, hs, ht⟩
  · simp at h'
  · simp only [Value.slice.injEq, Option.some.injEq, Addr.mk.injEq, and_true, true_and] at hv
    obtain ⟨rfl, rfl⟩ := hv
    refine ⟨by rw [flatMap_len enc K hK], .inr ⟨g, c, cur, by rw [hl], hb, hg, by rw [hl]; omega, hm, hs, ?_⟩⟩
    rw [hl]
    have e1 : xs.flatMap enc = (xs.take i).flatMap enc ++ (xs.drop i).flatMap enc := by rw [← List.flatMap_append, List.take_append_drop]
    have e2 : cur.toList.take (i * K) = (cur.toList.take (xs.length * K)).take (i * K) := by
      rw [List.take_take, Nat.min_eq_left (Nat.mul_le_mul_right _ hi)]
    rw [e2, ht, e1, List.take_append_of_le_length (by rw [flatMap_len enc K hK, hl]; exact Nat.le_refl _), List.take_of_length_le (by rw [flatMap_len enc K hK, hl]; exact Nat.le_refl _)]

/-- append within the capacity: the value stays where it is. -/
theorem append_fits_T (E : Elt P enc K e t z) {w : World} {ops : Array Oper} {rest : List Oper} {o : Oper} {a : Act} {Q : Exit → Act → World → Prop} (hgd : o.guard = none) (s x : Operand)
    (ho : o.op = .call { callee := .builtin .append, args := #[s, x], argTypes := #[t, t] }) (base g n c m cc : Nat) (ad : Option Addr) (xs ys : List α) (hs : a.eval s = .slice (some ⟨g, 0, none⟩) n c) (hx : a.eval x = .slice ad m cc)
    (hown : OwT enc K e base w (.slice (some ⟨g, 0, none⟩) n c) xs) (hr : RdT enc K w (.slice ad m cc) ys) (hroom : n + m ≤ c)
    (h : ∀ w', OwT enc K e base w' (.slice (some ⟨g, 0, none⟩) (n + m) c) (xs ++ ys) → w.grownBy w' (some g) → wpList P ops Q rest (a.put o.dst (.slice (some ⟨g, 0, none⟩) (n + m) c)) w') : wpList P ops Q (o :: rest) a w := by
  obtain ⟨i, zv, hi, hz, hsz, hby, hzc⟩ := E.info
  have hn := (OwT.open E.len hown).1
  subst hn
  have hr' := hr
  obtain ⟨a', c', hv, h1, h2, h0, h3⟩ := hr
  simp only [Value.slice.injEq] at hv
  obtain ⟨rfl, rfl, rfl⟩ := hv
  refine wpList_plain hgd fun _ hK => ?_
  have hfl : ((xs ++ ys).flatMap enc) = xs.flatMap enc ++ ys.flatMap enc := List.flatMap_append
  cases ad with
  | none =>
    have hc := h0 rfl
    subst hc
    have hy : ys = [] := List.eq_nil_of_length_eq_zero (by omega)
    subst hy
    have hrun := run_append_owned_none (P := P) w base t o.type e i K E.sl hi _ xs.length _ hown
    unfold Oper.wp execOp
    simp only [ho, resolve, invoke, builtin, Sem.run_bind, Sem.run_pure, Result.andThen_ok, List.map_toArray, List.map_cons, List.map_nil, hs, hx, List.length_nil, hrun]
    exact hK _ _ (h w (by simpa using hown) (World.grownBy.refl _ _))
  | some ad =>
    obtain ⟨w', hrun, r1, r2⟩ := run_append_fits (P := P) w base t o.type e i K E.sl hi hsz g xs.length c (xs.flatMap enc) hown ad ys.length cc (ys.flatMap enc) (flatMap_len enc K E.len ys) (RdT.flat E.len E.pos hr')
      (fun u hu => by obtain ⟨x, _, hx⟩ := List.mem_flatMap.1 hu; exact E.one x u hx) hroom
    unfold Oper.wp execOp
    simp only [ho, resolve, invoke, builtin, Sem.run_bind, Sem.run_pure, Result.andThen_ok, List.map_toArray, List.map_cons, List.map_nil, hs, hx, hrun]
    refine hK _ _ (h w' ?_ r2)
    unfold OwT
    rw [hfl, List.length_append]; exact r1

/-- append at a step of a region that draws its order, behind a guard that is met. -/
theorem step_append_G (E : Elt P enc K e t z) {w : World} {ops : Array Oper} {o : Oper} {a : Act} {k : Act → World → Prop} {Q : Exit → Act → World → Prop} {F : Prop} (hw : Region.wanted o (yielded ops a.tmps) = true) (s x : Operand)
    (ho : o.op = .call { callee := .builtin .append, args := #[s, x], argTypes := #[t, t] }) (base : Nat) (v u : Value) (xs ys : List α) (hs : a.eval s = v) (hx : a.eval x = u)
    (hown : OwT enc K e base w v xs) (hr : RdT enc K w u ys) (hb : xs.length + ys.length ≤ 1000000000) (hbase : base ≤ w.heap.size)
    (h : ∀ v' w', OwT enc K e base w' v' (xs ++ ys) → w.grownBy w' v.ownBlock → (v'.ownBlock = v.ownBlock ∨ v'.ownBlock = some w.heap.size) → (ys ≠ [] → v' ≠ .slice none 0 0) → k (a.put o.dst v') w') :
    if Region.wanted o (yielded ops a.tmps) = true then Oper.wp P o a w k Q else F := by
  rw [if_pos hw]
  exact wp_append_T E s x ho base v u xs ys hs hx hown hr hb hbase h

theorem zeroCells_toList (z : Array Value) (n : Nat) : (Builtin.zeroCells z n).size = n * z.size := size_zeroCells z n

/-- clear behind an owned row, within its capacity. -/
theorem clear_T (E : Elt P enc K e t z) {zv : Value} (hzv : ∀ w, (zeroValue e).run P w = .ok zv w) (hzc : zv.cells.size = K) (hz1 : ∀ u ∈ zv.cells.toList, u.oneCell' = true) {w : World} {ops : Array Oper} {rest : List Oper} {o : Oper} {a : Act} {Q : Exit → Act → World → Prop} (hgd : o.guard = none) (s : Operand)
    (ho : o.op = .call { callee := .builtin .clear, args := #[s], argTypes := #[t] }) (base g n c m cc off : Nat) (xs : List α) (hs : a.eval s = .slice (some ⟨g, off, none⟩) m cc) (hoff : off = n * K) (hm : 0 < m)
    (hown : OwT enc K e base w (.slice (some ⟨g, 0, none⟩) n c) xs) (hroom : n + m ≤ c)
    (h : ∀ w', OwT enc K e base w' (.slice (some ⟨g, 0, none⟩) n c) xs → w.grownBy w' (some g) → wpList P ops Q rest (a.put o.dst (.tuple #[])) w') : wpList P ops Q (o :: rest) a w := by
  subst hoff
  have hn := (OwT.open E.len hown).1
  subst hn
  obtain ⟨h1, h2⟩ := hown
  rcases h2 with ⟨h', _⟩ | ⟨g', cap, cur, hv, hb, hg, hn, hmx, hsz, ht⟩
  · simp at h'
  · simp only [Value.slice.injEq, Option.some.injEq, Addr.mk.injEq, and_true, true_and] at hv
    obtain ⟨rfl, rfl⟩ := hv
    refine wpList_plain hgd fun _ hK => ?_
    have hzl : (Builtin.zeroCells zv.cells m).toList.length = m * K := by rw [Array.length_toList, size_zeroCells, hzc]
    have hfit : xs.length * K + 0 + (Builtin.zeroCells zv.cells m).toList.length ≤ cur.size := by
      rw [hzl, hsz, Nat.add_zero, ← Nat.add_mul]; exact Nat.mul_le_mul_right _ hroom
    have hone : ∀ u ∈ (Builtin.zeroCells zv.cells m).toList, u.oneCell' = true := by
      intro u hu
      simp only [Builtin.zeroCells] at hu
      simp at hu
      obtain ⟨j, hj, rfl⟩ := hu
      have hp := E.pos
      have hlt : j % zv.cells.size < zv.cells.size := Nat.mod_lt _ (by omega)
      rw [getElem!_pos zv.cells _ hlt]
      exact hz1 _ (by simp)
    have hst := run_storeCells_at (P := P) g (xs.length * K) e (Builtin.zeroCells zv.cells m).toList 0 cur w hg hfit hone
    have hrun : (Builtin.clear_ #[t] o.type #[.slice (some ⟨g, xs.length * K, none⟩) m cc]).run P w = .ok (.tuple #[]) (w.setRow g (cur.toList.take (xs.length * K + 0) ++ (Builtin.zeroCells zv.cells m).toList ++ cur.toList.drop (xs.length * K + 0 + (Builtin.zeroCells zv.cells m).toList.length)).toArray) := by
      obtain ⟨q, rfl⟩ : ∃ q, m = q + 1 := ⟨m - 1, by omega⟩
      generalize w.setRow g (cur.toList.take (xs.length * K + 0) ++ (Builtin.zeroCells zv.cells (q + 1)).toList ++ cur.toList.drop (xs.length * K + 0 + (Builtin.zeroCells zv.cells (q + 1)).toList.length)).toArray = Wn at hst ⊢
      simp [Builtin.clear_, run_underlying E.sl, hzv, hst]
    unfold Oper.wp execOp
    simp only [ho, resolve, invoke, builtin, Sem.run_bind, Sem.run_pure, Result.andThen_ok, List.map_toArray, List.map_cons, List.map_nil, hs, hrun]
    refine hK _ _ (h _ ⟨h1, .inr ⟨g, c, _, rfl, hb, setRow_heap w g cur _ e _ hg, hn, hmx, ?_, ?_⟩⟩ ⟨rfl, rfl, rfl, by simp, fun k _ hk => setRow_other w g k _ (fun e => hk (by simp [e]))⟩)
    · simp only [List.size_toArray, List.length_append, List.length_take, List.length_drop, Array.length_toList, Nat.add_zero] at hfit ⊢
      omega
    · have hle : xs.length * K ≤ cur.toList.length := by have e := Array.length_toList (xs := cur); omega
      simp only [Nat.add_zero]
      rw [List.append_assoc, List.take_append_of_le_length (by rw [List.length_take]; exact Nat.le_min.2 ⟨Nat.le_refl _, hle⟩), List.take_take, Nat.min_self, ht]
end
end Go.Proofs.YtojknkpjnchchaaDoor
