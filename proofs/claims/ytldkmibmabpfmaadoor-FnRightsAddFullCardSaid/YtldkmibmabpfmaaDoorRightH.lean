/- Contracts of the library's search and insertion over owned slices of texts. No conditions but the readings of the arguments. -/
import Derived.Test.YtldkmibmabpfmaaDoorRightE
namespace Go.Proofs.YtldkmibmabpfmaaDoor
open Go.ChangeShapes Go.WideShapes Go.RowKit
set_option linter.all false
attribute [local go_sem ↓] Go.wp_at_zero Go.wp_at_succ

theorem cells_size (g : Nat) : ∀ (vs : List Value) (o : Nat) (w : World), (World.setCells w g o vs).heap.size = w.heap.size
  | [], _, _ => rfl
  | v :: r, o, w => by rw [World.setCells, cells_size g r]; simp
theorem cells_chs {S : Nat → Prop} (g : Nat) (hS : S g) : ∀ (vs : List Value) (o : Nat) (w : World), Chs S w (World.setCells w g o vs)
  | [], _, w => Chs.of_below (bref w)
  | v :: r, o, w => (Chs.set w ⟨g, o, none⟩ v hS).trans (cells_chs g hS r (o + 1) _)
theorem cells_below {a : World} {B : Nat} (g : Nat) (hB : B ≤ g) : ∀ (vs : List Value) (o : Nat) (w : World), Below B a w → Below B a (World.setCells w g o vs)
  | [], _, _, h => h
  | v :: r, o, w, h => cells_below g hB r (o + 1) _ (h.setCell hB v)
/-- What a block holds behind stores from a place on. -/
theorem cells_heap (g : Nat) (e : TypeId) : ∀ (vs : List Value) (o : Nat) (w : World) (cur : Array Value), w.heap[g]? = some (.cells cur e (0, 0)) →
    ∃ cur', (World.setCells w g o vs).heap[g]? = some (.cells cur' e (0, 0)) ∧ cur'.size = cur.size ∧ ∀ j, j < cur.size → cur'[j]? = if o ≤ j ∧ j < o + vs.length then vs[j - o]? else cur[j]? := by
  intro vs
  induction vs with
  | nil => intro o w cur h; exact ⟨cur, h, rfl, fun j _ => by rw [if_neg (by simp only [List.length_nil]; omega)]⟩
  | cons v t ih =>
    intro o w cur h
    have h1 := heap_setCell_same w g o cur e v h
    obtain ⟨cur', h2, h3, h4⟩ := ih (o + 1) _ _ h1
    refine ⟨cur', h2, by rw [h3]; simp, fun j hj => ?_⟩
    rw [h4 j (by simpa using hj)]
    simp only [List.length_cons]
    by_cases hjo : j = o
    · subst hjo
      rw [if_neg (by omega), if_pos (by omega)]
      simp [hj]
    · by_cases hin : o + 1 ≤ j ∧ j < o + 1 + t.length
      · rw [if_pos hin, if_pos (by omega)]
        have : j - o = (j - (o + 1)) + 1 := by omega
        rw [this, List.getElem?_cons_succ]
      · rw [if_neg hin, if_neg (by omega)]
        rw [Array.getElem?_setIfInBounds, if_neg (fun e => hjo e.symm)]

/-- An owned slice of texts out of a block that is known cell by cell. -/
theorem OwS.laid {base g c n : Nat} {w : World} {cur : Array Value} {ys : List Txt} (h : w.heap[g]? = some (.cells cur 9 (0, 0))) (hb : base ≤ g) (hs : cur.size = c) (hc : c ≤ maxLen) (hl : ys.length = n) (hn : n ≤ c) (hj : ∀ (j : Nat) (y : Txt), ys[j]? = some y → cur[j]? = some (tv y)) : OwS base w (.slice (some ⟨g, 0, none⟩) n c) ys := by
  subst hl
  refine ⟨by rw [flatMap_len encS 1 encS_len], .inr ⟨g, c, cur, rfl, hb, h, hn, hc, by omega, ?_⟩⟩
  apply List.ext_getElem?
  intro j
  rw [List.getElem?_take, Nat.mul_one]
  by_cases hlt : j < ys.length
  · rw [if_pos hlt, Array.getElem?_toList, hj j _ (List.getElem?_eq_getElem hlt)]
    have := flatMap_get encS 1 encS_len ys j _ 0 _ (List.getElem?_eq_getElem hlt) rfl
    rw [Nat.mul_one, Nat.add_zero] at this
    exact this.symm
  · rw [if_neg hlt, List.getElem?_eq_none (by rw [flatMap_len encS 1 encS_len]; omega)]
theorem OwS.laidOf {base : Nat} {w : World} {v : Value} {ys : List Txt} (h : OwS base w v ys) : (v = .slice none 0 0 ∧ ys = []) ∨ ∃ g c cur, v = .slice (some ⟨g, 0, none⟩) ys.length c ∧ base ≤ g ∧ w.heap[g]? = some (.cells cur 9 (0, 0)) ∧ cur.size = c ∧ c ≤ maxLen ∧ ys.length ≤ c ∧ ∀ (j : Nat) (y : Txt), ys[j]? = some y → cur[j]? = some (tv y) := by
  rcases h.2 with ⟨rfl, hz⟩ | ⟨g, c, cur, rfl, hb, hg, hn, hm, hs, ht⟩
  · exact .inl ⟨rfl, List.eq_nil_of_length_eq_zero hz⟩
  · refine .inr ⟨g, c, cur, rfl, hb, hg, by omega, hm, hn, fun j y hy => ?_⟩
    have h2 := flatMap_get encS 1 encS_len ys j y 0 _ hy rfl
    have hj : j < ys.length := (List.getElem?_eq_some_iff.1 hy).1
    rw [← ht, List.getElem?_take, if_pos (by omega)] at h2
    simpa using h2

theorem mk_toList (x : Txt) : (ByteArray.mk x.toArray).toList = x := by rw [Lib.toList_data]
theorem search_go {xs : List Txt} {s : Txt} (hp : xs.Pairwise (· < ·)) : Lib.bsGo (fun t => Op.bytesLess (ByteArray.mk ((xs[t]?).getD s).toArray).toList (ByteArray.mk s.toArray).toList) xs.length 0 xs.length = place xs s := by
  refine Lib.bsGo_spec _ _ (fun t ht => ?_) (fun t ht => ?_) _ _ _ (by omega) (Nat.zero_le _) (place_le xs s)
  · have hl := place_le xs s
    have hx : xs[t]? = some xs[t] := List.getElem?_eq_getElem (by omega)
    simp only [mk_toList, hx, Option.getD_some]
    exact place_lt ht hx
  · cases hx : xs[t]? with
    | none => simp only [mk_toList, Option.getD_none]; rw [bl_eq]; simp [txt_irrefl]
    | some z => simp only [mk_toList, Option.getD_some]; exact place_ge hp ht hx

theorem search_c (xs : List Txt) (v : Value) (s : Txt) (w : World) (h : RdS w v xs) (hp : xs.Pairwise (· < ·)) (hl : xs.length ≤ 1000) : Calls Tryd.prog 49 #[v, tv s] w fun e w' =>
    e = .returned (.tuple #[.int .i64 (place xs s : Nat), .bool (hasB xs s)]) ∧ Below w.heap.size w w' := by
  obtain ⟨a, c, rfl, t1, t2, -, t3⟩ := h
  by_cases hz : xs.length = 0
  · have hx : xs = [] := List.eq_nil_of_length_eq_zero hz
    subst hx
    refine (Any2.slices_BinarySearch_string_empty Tryd.searchL a c ⟨s.toArray⟩ w).mono ?_
    rintro e w' ⟨rfl, rfl⟩
    exact ⟨by simp [place, hasB], bref _⟩
  · obtain ⟨b, o, rfl, -, -⟩ := t3 0 _ (List.getElem?_eq_getElem (by omega))
    refine (Any2.slices_BinarySearch_string Tryd.searchL b o xs.length c (fun t => ⟨((xs[t]?).getD s).toArray⟩) ⟨s.toArray⟩ w (by omega) (fun j hj => ?_)).mono ?_
    · have hx : xs[j]? = some xs[j] := List.getElem?_eq_getElem hj
      obtain ⟨b', o', e, -, hc⟩ := t3 j _ hx
      simp only [Option.some.injEq, Addr.mk.injEq, and_true] at e
      obtain ⟨rfl, rfl⟩ := e
      have := hc 0 _ rfl
      simp only [Nat.mul_one, Nat.add_zero] at this
      rw [this, hx]; rfl
    · rintro e w' ⟨rfl, q, rfl⟩
      refine ⟨?_, below_drewN (bref _) _⟩
      rw [search_go hp]
      have hd : decide (place xs s < xs.length ∧ (⟨((xs[place xs s]?).getD s).toArray⟩ : ByteArray) = ⟨s.toArray⟩) = hasB xs s := by
        rw [Bool.eq_iff_iff]
        simp only [decide_eq_true_eq, hasB]
        rw [place_mem hp]
        constructor
        · rintro ⟨h1, h2⟩
          rw [List.getElem?_eq_getElem h1, Option.getD_some] at h2
          rw [List.getElem?_eq_getElem h1]
          have := congrArg ByteArray.toList h2
          rw [mk_toList, mk_toList] at this
          rw [this]
        · intro h1
          exact ⟨(List.getElem?_eq_some_iff.1 h1).1, by rw [h1]; rfl⟩
      rw [hd]

theorem ins_get {xs : List Txt} {s : Txt} {k : Nat} (hk : k ≤ xs.length) (j : Nat) : (xs.take k ++ s :: xs.drop k)[j]? = if j < k then xs[j]? else if j = k then some s else xs[j - 1]? := by
  have hl : (xs.take k).length = k := by simp; omega
  rw [List.getElem?_append, hl]
  by_cases h1 : j < k
  · rw [if_pos h1, if_pos h1, List.getElem?_take, if_pos h1]
  · rw [if_neg h1, if_neg h1]
    by_cases h2 : j = k
    · subst h2; simp
    · rw [if_neg h2]
      have : j - k = (j - k - 1) + 1 := by omega
      rw [this, List.getElem?_cons_succ, List.getElem?_drop]
      congr 1; omega
theorem ins_len2 {xs : List Txt} {s : Txt} {k : Nat} (hk : k ≤ xs.length) : (xs.take k ++ s :: xs.drop k).length = xs.length + 1 := by simp; omega

set_option maxHeartbeats 4000000 in
theorem insert_b {w0 w : World} {row : Option Nat} {rs : List Res} (xs : List Txt) (v u : Value) (s : Txt) (k : Nat) (H : Bun w0 row w (rowT v xs :: rowT u [s] :: rs)) (hk : k ≤ xs.length) (hl : xs.length ≤ 1000) :
    Calls Tryd.prog 50 #[v, .int .i64 k, u] w fun e w' => ∃ v', e = .returned v' ∧ Bun w0 row w' (rowT v' (xs.take k ++ s :: xs.drop k) :: rowT u [s] :: rs) := by
  have hv0 : OwS 0 w v xs := H.get 0 rfl
  have hu0 : OwS 0 w u [s] := H.get 1 rfl
  have hap := (List.pairwise_cons.1 H.apart).1 (rowT u [s]) (by simp)
  rcases hu0.laidOf with ⟨-, hx⟩ | ⟨vb, vc, cu, rfl, -, hub, hus, hum, hul, huc⟩
  · simp at hx
  have hvs : ∀ (j : Nat) v, [tv s][j]? = some v → w.cell? ⟨vb, 0 + j, none⟩ = some v := by
    intro j v hj
    rcases j with _ | j
    · simp at hj; subst hj
      rw [cell_of_row w vb _ cu _ (0, 0) hub]
      simpa using huc 0 s rfl
    · simp at hj
  have h1v : ∀ v ∈ [tv s], v.oneCell' = true := by intro v hv; simp at hv; subst hv; rfl
  have h1c : ∀ v ∈ xs.map tv, v.oneCell' = true := by intro v hv; obtain ⟨x, -, rfl⟩ := List.mem_map.1 hv; rfl
  have zsz : (Value.string ⟨#[]⟩).cells.size = 1 := rfl
  -- a new row
  have fresh : ∀ (w' : World) (cap : Nat) (cu' : Array Value), Below w.heap.size w w' → w'.heap[w.heap.size]? = some (.cells cu' 9 (0, 0)) → cu'.size = cap → cap ≤ maxLen → xs.length + 1 ≤ cap →
      (∀ (j : Nat) (y : Txt), (xs.take k ++ s :: xs.drop k)[j]? = some y → cu'[j]? = some (tv y)) →
      Bun w0 row w' (rowT (.slice (some ⟨w.heap.size, 0, none⟩) (xs.length + 1) cap) (xs.take k ++ s :: xs.drop k) :: rowT (.slice (some ⟨vb, 0, none⟩) [s].length vc) [s] :: rs) := by
    intro w' cap cu' hb hh hs hc hn hj
    refine H.mod (Chs.of_below hb) (rowT _ _) (OwS.laid hh (Nat.zero_le _) hs hc (ins_len2 hk) hn hj) ?_ ?_
    all_goals
      intro q hq
      have hq' : w.heap.size = q := by simpa [rowT, Res.row, Value.ownBlock] using hq
      exact .inr (Nat.le_of_eq hq')
  rcases hv0.laidOf with ⟨rfl, rfl⟩ | ⟨g, c, cu, rfl, -, hgb, hgs, hgm, hgl, hgc⟩
  · have hk0 : k = 0 := by simpa using hk
    subst hk0
    refine (Any2.slices_Insert_string_end_grow Tryd.insertL none 0 0 vb 0 1 vc [] [tv s] w (by omega) (by omega) (by omega) (by omega) rfl rfl (fun _ => rfl) (fun a h => by cases h) hvs h1v).mono ?_
    simp only [show Tryd.insertL_ren.t 9 = 9 from rfl]
    rintro e w' ⟨rfl, rfl⟩
    have hge := grownCap_ge w (0 + 1) 0 9
    have hle := grownCap_le_maxLen w (0 + 1) 0 9 (by unfold maxLen; omega)
    refine ⟨_, rfl, fresh _ _ _ ((bref w).drew.alloc (Nat.le_refl _) _) (heap_alloc_new w.drew _) ?_ hle hge ?_⟩
    · simp only [Nat.zero_add] at hge; simp [size_zeroCells, zsz]; omega
    · intro j y hj
      rcases j with _ | j
      · simp at hj; subst hj; simp [Array.getElem?_append_left]
      · simp at hj
  have hne : vb ≠ g := by rintro rfl; exact hap vb rfl rfl
  have hcs : ∀ (j : Nat) v, (xs.map tv)[j]? = some v → w.cell? ⟨g, 0 + j, none⟩ = some v := by
    intro j v hj
    rw [List.getElem?_map] at hj
    obtain ⟨y, hy, rfl⟩ := Option.map_eq_some_iff.1 hj
    rw [cell_of_row w g _ cu _ (0, 0) hgb, Nat.zero_add]
    exact hgc j y hy
  have hml : (xs.map tv).length = xs.length := by simp
  unfold maxLen at hgm
  -- the same row
  have same : ∀ (w' : World) (cu' : Array Value), Chs (fun q => q = g) w w' → w'.heap[g]? = some (.cells cu' 9 (0, 0)) → cu'.size = c → xs.length + 1 ≤ c →
      (∀ (j : Nat) (y : Txt), (xs.take k ++ s :: xs.drop k)[j]? = some y → cu'[j]? = some (tv y)) →
      Bun w0 row w' (rowT (.slice (some ⟨g, 0, none⟩) (xs.length + 1) c) (xs.take k ++ s :: xs.drop k) :: rowT (.slice (some ⟨vb, 0, none⟩) [s].length vc) [s] :: rs) := by
    intro w' cu' hb hh hs hn hj
    refine H.mod ⟨hb.os, hb.tape, hb.output, hb.size, fun q hq hnq => hb.block q hq (fun e => hnq (by subst e; rfl))⟩ (rowT _ _) (OwS.laid hh (Nat.zero_le _) hs (by unfold maxLen; omega) (ins_len2 hk) hn hj) ?_ ?_
    all_goals
      intro q hq
      have hq' : g = q := by simpa [rowT, Res.row, Value.ownBlock] using hq
      exact .inl (by subst hq'; rfl)
  by_cases hroom : xs.length + 1 ≤ c
  · have hsp : ∀ j, j < xs.length + 1 → (w.cell? ⟨g, 0 + j, none⟩).isSome = true := by
      intro j hj
      rw [cell_of_row w g _ cu _ (0, 0) hgb, Nat.zero_add, Array.getElem?_eq_getElem (by omega)]; rfl
    have hfz : ∀ j, j < xs.length + 1 → w.frozen? ⟨g, 0 + j, none⟩ = false := fun j _ => frozen_of_row w g _ cu _ hgb
    by_cases hkn : k < xs.length
    · refine (Any2.slices_Insert_string_shift Tryd.insertL g 0 xs.length c k vb 0 1 vc (xs.map tv) [tv s] w hkn (by omega) hroom (by omega) hne hml rfl hcs hsp hfz hvs h1c h1v 9 9 vc c ?_ ?_ (by omega) (frozen_of_row w vb _ _ _ hub) (frozen_of_row w vb _ _ _ hub)).mono ?_
      · simp [World.shape?, hub, hus]
      · simp [World.shape?, hgb, hgs]
      rintro e w' ⟨rfl, rfl⟩
      have hd : w.drew.heap[g]? = some (.cells cu 9 (0, 0)) := hgb
      obtain ⟨c1, p1, p2, p3⟩ := cells_heap g 9 ((xs.map tv).drop k) (0 + (k + 1)) w.drew cu hd
      obtain ⟨c2, q1, q2, q3⟩ := cells_heap g 9 [tv s] (0 + k) _ c1 p1
      refine ⟨_, rfl, same _ c2 ((Chs.of_below (bref w).drew).trans ((cells_chs (S := fun q => q = g) g rfl _ _ _).trans (cells_chs (S := fun q => q = g) g rfl _ _ _))) q1 (by omega) hroom ?_⟩
      intro j y hj
      rw [ins_get hk] at hj
      have hlen : ((xs.map tv).drop k).length = xs.length - k := by simp
      by_cases h1 : j < k
      · rw [if_pos h1] at hj
        rw [q3 j (by omega), if_neg (by omega), p3 j (by omega), if_neg (by omega)]
        exact hgc j y hj
      · rw [if_neg h1] at hj
        by_cases h2 : j = k
        · rw [if_pos h2] at hj
          simp only [Option.some.injEq] at hj
          subst hj; subst h2
          rw [q3 j (by omega), if_pos (by simp)]
          simp
        · rw [if_neg h2] at hj
          have hj1 : j - 1 < xs.length := (List.getElem?_eq_some_iff.1 hj).1
          rw [q3 j (by omega), if_neg (by simp; omega), p3 j (by omega), if_pos (by omega), List.getElem?_drop, List.getElem?_map, show k + (j - (0 + (k + 1))) = j - 1 by omega, hj]
          rfl
    · obtain rfl : k = xs.length := by omega
      refine (Any2.slices_Insert_string_end_room Tryd.insertL g 0 xs.length c vb 0 1 vc [tv s] w (by omega) hroom (by omega) rfl (fun j hj => ?_) (fun j hj => frozen_of_row w g _ cu _ hgb) hvs h1v).mono ?_
      · have := hsp (xs.length + j) (by omega)
        rwa [← Nat.add_assoc] at this
      rintro e w' ⟨rfl, rfl⟩
      obtain ⟨c1, p1, p2, p3⟩ := cells_heap g 9 [tv s] (0 + xs.length) w cu hgb
      refine ⟨_, rfl, same _ c1 (cells_chs (S := fun q => q = g) g rfl _ _ _) p1 (by omega) hroom ?_⟩
      intro j y hj
      rw [ins_get hk] at hj
      by_cases h1 : j < xs.length
      · rw [if_pos h1] at hj
        rw [p3 j (by omega), if_neg (by omega)]
        exact hgc j y hj
      · rw [if_neg h1] at hj
        by_cases h2 : j = xs.length
        · rw [if_pos h2] at hj
          simp only [Option.some.injEq] at hj
          subst hj; subst h2
          rw [p3 _ (by omega), if_pos (by simp)]
          simp
        · rw [if_neg h2] at hj
          have hj1 : j - 1 < xs.length := (List.getElem?_eq_some_iff.1 hj).1
          omega
  · have hge := grownCap_ge w (xs.length + 1) c 9
    have hle := grownCap_le_maxLen w (xs.length + 1) c 9 (by unfold maxLen; omega)
    by_cases hkn : k < xs.length
    · refine (Any2.slices_Insert_string_grow Tryd.insertL g 0 xs.length c k vb 0 1 vc (xs.map tv) [tv s] w hkn (by omega) hgl (by omega) (by omega) hml rfl hcs hvs h1c h1v).mono ?_
      simp only [show Tryd.insertL_ren.t 9 = 9 from rfl]
      rintro e w' ⟨rfl, rfl⟩
      generalize hC : ((xs.map tv).take k).toArray ++ Builtin.zeroCells (Value.string ⟨#[]⟩).cells (xs.length + 1 - k) ++ Builtin.zeroCells (Value.string ⟨#[]⟩).cells (grownCap w (xs.length + 1) c 9 - (xs.length + 1)) = C
      have hCs : C.size = grownCap w (xs.length + 1) c 9 := by rw [← hC]; simp [size_zeroCells, zsz]; omega
      have hC1 : ∀ j, j < k → C[j]? = (xs.map tv)[j]? := by
        intro j hj
        rw [← hC, Array.append_assoc, Array.getElem?_append_left (by simp; omega)]
        simp [List.getElem?_take, hj]
      have hd : ((w.alloc (.cells C 9)).drew).heap[w.heap.size]? = some (.cells C 9 (0, 0)) := heap_alloc_new w _
      obtain ⟨c1, p1, p2, p3⟩ := cells_heap w.heap.size 9 [tv s] k _ C hd
      have hd2 : (((w.alloc (.cells C 9)).drew.setCells w.heap.size k [tv s]).drew).heap[w.heap.size]? = some (.cells c1 9 (0, 0)) := p1
      obtain ⟨c2, q1, q2, q3⟩ := cells_heap w.heap.size 9 ((xs.map tv).drop k) (k + 1) _ c1 hd2
      have hlen : ((xs.map tv).drop k).length = xs.length - k := by simp
      refine ⟨_, rfl, fresh _ _ c2 (cells_below _ (Nat.le_refl _) _ _ _ (cells_below _ (Nat.le_refl _) _ _ _ (balloc w _).drew).drew) q1 (by omega) hle hge ?_⟩
      intro j y hj
      rw [ins_get hk] at hj
      by_cases h1 : j < k
      · rw [if_pos h1] at hj
        rw [q3 j (by omega), if_neg (by omega), p3 j (by omega), if_neg (by omega), hC1 j h1, List.getElem?_map, hj]
        rfl
      · rw [if_neg h1] at hj
        by_cases h2 : j = k
        · rw [if_pos h2] at hj
          simp only [Option.some.injEq] at hj
          subst hj; subst h2
          rw [q3 j (by omega), if_neg (by omega), p3 j (by omega), if_pos (by simp)]
          simp
        · rw [if_neg h2] at hj
          have hj1 : j - 1 < xs.length := (List.getElem?_eq_some_iff.1 hj).1
          rw [q3 j (by omega), if_pos (by omega), List.getElem?_drop, List.getElem?_map, show k + (j - (k + 1)) = j - 1 by omega, hj]
          rfl
    · obtain rfl : k = xs.length := by omega
      refine (Any2.slices_Insert_string_end_grow Tryd.insertL (some ⟨g, 0, none⟩) xs.length c vb 0 1 vc (xs.map tv) [tv s] w (by omega) hgl (by omega) (by omega) hml rfl (by simp) (fun a h j v hj => ?_) hvs h1v).mono ?_
      · simp only [Option.some.injEq] at h
        subst h
        rw [Addr.add_lit]; exact hcs j v hj
      simp only [show Tryd.insertL_ren.t 9 = 9 from rfl]
      rintro e w' ⟨rfl, rfl⟩
      refine ⟨_, rfl, fresh _ _ _ ((bref w).drew.alloc (Nat.le_refl _) _) (heap_alloc_new w.drew _) ?_ hle hge ?_⟩
      · simp [size_zeroCells, zsz]; omega
      · intro j y hj
        rw [ins_get hk] at hj
        by_cases h1 : j < xs.length
        · rw [if_pos h1] at hj
          rw [Array.getElem?_append_left (by simp; omega)]
          simp [List.getElem?_append, h1]
          rw [List.getElem?_eq_getElem h1] at hj
          simpa using hj
        · rw [if_neg h1] at hj
          by_cases h2 : j = xs.length
          · rw [if_pos h2] at hj
            simp only [Option.some.injEq] at hj
            subst hj; subst h2
            rw [Array.getElem?_append_left (by simp)]
            simp
          · rw [if_neg h2] at hj
            have hj1 : j - 1 < xs.length := (List.getElem?_eq_some_iff.1 hj).1
            omega
end Go.Proofs.YtldkmibmabpfmaaDoor
