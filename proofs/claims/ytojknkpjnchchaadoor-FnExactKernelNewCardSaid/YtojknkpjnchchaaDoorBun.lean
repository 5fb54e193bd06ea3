/- Bundles: what a walk knows of the blocks that it made, each block under one fact. No conditions. -/
import Derived.Test.YtojknkpjnchchaaDoorLibD
import Derived.Test.YtojknkpjnchchaaDoorLibB
namespace Go.Proofs.YtojknkpjnchchaaDoor
open Go.ChangeShapes Go.WideShapes Go.RowKit
set_option linter.all false
set_option maxRecDepth 100000

/-- A fact on some blocks: 'foot' are the blocks it speaks of, 'own' those that may be written. -/
structure Res where
  foot : Nat → Prop
  own : Nat → Prop
  sub : ∀ k, own k → foot k
  holds : World → Prop
  keep : ∀ {w w' : World}, holds w → (∀ k, foot k → w'.heap[k]? = w.heap[k]?) → w.heap.size ≤ w'.heap.size → holds w'
  lt : ∀ {w : World}, holds w → ∀ k, foot k → k < w.heap.size

/-- The world w has grown out of w0 (with changes in block 'row' alone); the facts hold, of blocks apart from each other. -/
structure Bun (w0 : World) (row : Option Nat) (w : World) (rs : List Res) : Prop where
  grow : w0.grownBy w row
  all : ∀ r ∈ rs, r.holds w ∧ ∀ k, r.own k → w0.heap.size ≤ k ∨ row = some k
  apart : rs.Pairwise fun a b => ∀ k, a.foot k → ¬ b.foot k

/-- w' is w with new blocks and with changes in the blocks of S. -/
structure Chs (S : Nat → Prop) (w w' : World) : Prop where
  os : w'.os = w.os
  tape : w'.tape = w.tape
  output : w'.output = w.output
  size : w.heap.size ≤ w'.heap.size
  block : ∀ k, k < w.heap.size → ¬ S k → w'.heap[k]? = w.heap[k]?

theorem Chs.of_below {S : Nat → Prop} {w w' : World} (h : Below w.heap.size w w') : Chs S w w' := ⟨h.os, h.tape, h.output, h.size, fun k hk _ => h.block k hk⟩
theorem Chs.of_grown {S : Nat → Prop} {w w' : World} {row : Option Nat} (h : w.grownBy w' row) (hr : ∀ k, row = some k → S k) : Chs S w w' :=
  ⟨h.os, h.tape, h.output, h.size, fun k hk hn => h.block k hk (fun e => hn (hr k e.symm))⟩
theorem Chs.set {S : Nat → Prop} (w : World) (p : Addr) (u : Value) (hp : S p.block) : Chs S w (w.setCell p u) :=
  ⟨rfl, rfl, rfl, by simp, fun k _ hn => Below.heap_setCell w p u k (fun e => hn (by rw [e]; exact hp))⟩
theorem Chs.trans {S : Nat → Prop} {a b c : World} (h : Chs S a b) (k : Chs S b c) : Chs S a c :=
  ⟨k.os.trans h.os, k.tape.trans h.tape, k.output.trans h.output, Nat.le_trans h.size k.size, fun i hi hn => (k.block i (Nat.lt_of_lt_of_le hi h.size) hn).trans (h.block i hi hn)⟩

section
variable {w0 w w' : World} {row : Option Nat} {r r' : Res} {rs : List Res}

theorem Bun.refl (w0 : World) (row : Option Nat) : Bun w0 row w0 [] := ⟨World.grownBy.refl _ _, by simp, List.Pairwise.nil⟩

theorem Bun.size (h : Bun w0 row w rs) : w0.heap.size ≤ w.heap.size := h.grow.size

/-- One fact turns into another; what is written are blocks that it owns. -/
theorem Bun.mod (h : Bun w0 row w (r :: rs)) (c : Chs r.own w w') (r' : Res) (hr : r'.holds w') (ho : ∀ k, r'.own k → r.own k ∨ w.heap.size ≤ k) (hf : ∀ k, r'.foot k → r.foot k ∨ w.heap.size ≤ k) : Bun w0 row w' (r' :: rs) := by
  have hw := h.grow
  have h0 := h.all r (by simp)
  have hap := List.pairwise_cons.1 h.apart
  have hg : w0.grownBy w' row := ⟨c.os.trans hw.os, c.tape.trans hw.tape, c.output.trans hw.output, Nat.le_trans hw.size c.size, fun k hk hne => (c.block k (Nat.lt_of_lt_of_le hk hw.size) (fun e => by
    rcases h0.2 k e with h1 | h1
    · omega
    · exact hne h1.symm)).trans (hw.block k hk hne)⟩
  refine ⟨hg, ?_, ?_⟩
  · intro q hq
    rcases List.mem_cons.1 hq with rfl | hq
    · refine ⟨hr, fun k hk => ?_⟩
      rcases ho k hk with h1 | h1
      · exact h0.2 k h1
      · have := hw.size; exact .inl (by omega)
    · have h2 := h.all q (by simp [hq])
      refine ⟨q.keep h2.1 (fun k hk => c.block k (q.lt h2.1 k hk) (fun e => hap.1 q hq k (r.sub k e) hk)) c.size, h2.2⟩
  · refine List.pairwise_cons.2 ⟨fun q hq k hk hk2 => ?_, hap.2⟩
    rcases hf k hk with h1 | h1
    · exact hap.1 q hq k h1 hk2
    · have := q.lt (h.all q (by simp [hq])).1 k hk2
      omega

theorem Bun.call (h : Bun w0 row w rs) (hb : Below w.heap.size w w') : Bun w0 row w' rs := by
  have hw := h.grow
  refine ⟨⟨hb.os.trans hw.os, hb.tape.trans hw.tape, hb.output.trans hw.output, Nat.le_trans hw.size hb.size, fun k hk hne => (hb.block k (Nat.lt_of_lt_of_le hk hw.size)).trans (hw.block k hk hne)⟩, fun q hq => ?_, h.apart⟩
  have h2 := h.all q hq
  exact ⟨q.keep h2.1 (fun k hk => hb.block k (q.lt h2.1 k hk)) hb.size, h2.2⟩

/-- A fact on new blocks. -/
theorem Bun.add (h : Bun w0 row w rs) (hb : Below w.heap.size w w') (r : Res) (hr : r.holds w') (hf : ∀ k, r.foot k → w.heap.size ≤ k) : Bun w0 row w' (r :: rs) := by
  have h2 := h.call hb
  have hs := h.grow.size
  refine ⟨h2.grow, fun q hq => ?_, List.pairwise_cons.2 ⟨fun q hq k hk hk2 => ?_, h2.apart⟩⟩
  · rcases List.mem_cons.1 hq with rfl | hq
    · exact ⟨hr, fun k hk => .inl (Nat.le_trans hs (hf k (q.sub k hk)))⟩
    · exact h2.all q hq
  · have := q.lt (h.all q hq).1 k hk2
    have := hf k hk
    omega

theorem Bun.drop (h : Bun w0 row w (r :: rs)) : Bun w0 row w rs := ⟨h.grow, fun q hq => h.all q (by simp [hq]), (List.pairwise_cons.1 h.apart).2⟩

theorem Bun.front (h : Bun w0 row w rs) (i : Nat) {r : Res} (hi : rs[i]? = some r) : Bun w0 row w (r :: rs.eraseIdx i) := by
  have hp : (r :: rs.eraseIdx i).Perm rs := by
    obtain ⟨hl, rfl⟩ := List.getElem?_eq_some_iff.1 hi
    rw [List.eraseIdx_eq_take_drop_succ]
    have e : rs = rs.take i ++ rs[i] :: rs.drop (i + 1) := by rw [← List.drop_eq_getElem_cons hl, List.take_append_drop]
    exact (List.perm_middle (a := rs[i]) (l₁ := rs.take i) (l₂ := rs.drop (i + 1))).symm.trans (by rw [← e])
  refine ⟨h.grow, fun q hq => h.all q (hp.mem_iff.1 hq), ?_⟩
  exact hp.symm.pairwise h.apart (fun {a b} hab k hk hk2 => hab k hk2 hk)

theorem Bun.get (h : Bun w0 row w rs) (i : Nat) {r : Res} (hi : rs[i]? = some r) : r.holds w := (h.all r (List.mem_of_getElem? hi)).1
theorem Bun.ok (h : Bun w0 row w rs) (i : Nat) {r : Res} (hi : rs[i]? = some r) (k : Nat) (hk : r.own k) : w0.heap.size ≤ k ∨ row = some k := (h.all r (List.mem_of_getElem? hi)).2 k hk

/-- Two facts in one. -/
theorem Bun.join (h : Bun w0 row w (r :: r' :: rs)) (q : Res) (hq : q.holds w) (ho : ∀ k, q.own k → r.own k ∨ r'.own k) (hf : ∀ k, q.foot k → r.foot k ∨ r'.foot k) : Bun w0 row w (q :: rs) := by
  have hap := List.pairwise_cons.1 h.apart
  have hap2 := List.pairwise_cons.1 hap.2
  refine ⟨h.grow, fun p hp => ?_, List.pairwise_cons.2 ⟨fun p hp k hk hk2 => ?_, hap2.2⟩⟩
  · rcases List.mem_cons.1 hp with rfl | hp
    · refine ⟨hq, fun k hk => ?_⟩
      rcases ho k hk with h1 | h1
      · exact (h.all r (by simp)).2 k h1
      · exact (h.all r' (by simp)).2 k h1
    · exact h.all p (by simp [hp])
  · rcases hf k hk with h1 | h1
    · exact hap.1 p (by simp [hp]) k h1 hk2
    · exact hap2.1 p hp k h1 hk2
/-- One fact in two. -/
theorem Bun.split {q : Res} (h : Bun w0 row w (q :: rs)) (r r' : Res) (hr : r.holds w) (hr' : r'.holds w) (ho : ∀ k, r.own k ∨ r'.own k → q.own k) (hf : ∀ k, r.foot k ∨ r'.foot k → q.foot k) (hd : ∀ k, r.foot k → ¬ r'.foot k) : Bun w0 row w (r :: r' :: rs) := by
  have hap := List.pairwise_cons.1 h.apart
  have h0 := h.all q (by simp)
  refine ⟨h.grow, fun p hp => ?_, List.pairwise_cons.2 ⟨fun p hp k hk hk2 => ?_, List.pairwise_cons.2 ⟨fun p hp k hk hk2 => hap.1 p hp k (hf k (.inr hk)) hk2, hap.2⟩⟩⟩
  · rcases List.mem_cons.1 hp with rfl | hp
    · exact ⟨hr, fun k hk => h0.2 k (ho k (.inl hk))⟩
    · rcases List.mem_cons.1 hp with rfl | hp
      · exact ⟨hr', fun k hk => h0.2 k (ho k (.inr hk))⟩
      · exact h.all p (by simp [hp])
  · rcases List.mem_cons.1 hp with rfl | hp
    · exact hd k hk hk2
    · exact hap.1 p hp k (hf k (.inl hk)) hk2

theorem Bun.below (h : Bun w0 none w rs) : Below w0.heap.size w0 w := grown_below h.grow
theorem Bun.drew (h : Bun w0 row w rs) : Bun w0 row w.drew rs := h.call (bref w).drew
end

/-- A block that is known whole. -/
def Res.blk (g : Nat) (o : Obj) : Res where
  foot k := k = g
  own k := k = g
  sub k h := h
  holds w := w.heap[g]? = some o
  keep h hk _ := (hk g rfl).trans h
  lt h k hk := by subst hk; exact (Array.getElem?_eq_some_iff.1 h).1

/-- An owned row. -/
def Res.row {α : Type} (enc : α → List Value) (K : Nat) (e : TypeId) (v : Value) (xs : List α) : Res where
  foot k := v.ownBlock = some k
  own k := v.ownBlock = some k
  sub k h := h
  holds w := OwT enc K e 0 w v xs
  keep {w w'} h hk hs := by
    obtain ⟨h1, h2⟩ := h
    refine ⟨h1, ?_⟩
    rcases h2 with h2 | ⟨g, cap, cur, hv, hg, hh, r⟩
    · exact .inl h2
    · exact .inr ⟨g, cap, cur, hv, hg, (hk g (by rw [hv]; rfl)).trans hh, r⟩
  lt {w} h k hk := (World.ownsRow.lt h k hk).2

/-- Owned rows, in blocks apart from each other. -/
def Res.rows {α : Type} (enc : α → List Value) (K : Nat) (e : TypeId) (ss : List Sl) (xss : List (List α)) : Res where
  foot k := ∃ s ∈ ss, (slv s).ownBlock = some k
  own k := ∃ s ∈ ss, (slv s).ownBlock = some k
  sub k h := h
  holds w := InO enc K e 0 w.heap.size w ss xss
  keep {w w'} h hk hs := (h.stay fun s g hm hg => hk g ⟨s, hm, hg⟩).mono (Nat.le_refl _) hs
  lt {w} h k hk := by
    obtain ⟨s, hm, hg⟩ := hk
    exact (h.lt hm hg).2.2

theorem OwT.up {α : Type} {enc : α → List Value} {K e base base' : Nat} {w : World} {v : Value} {xs : List α} (h : OwT enc K e base w v xs) (hb : ∀ k, v.ownBlock = some k → base' ≤ k) : OwT enc K e base' w v xs := by
  obtain ⟨h1, h2⟩ := h
  refine ⟨h1, ?_⟩
  rcases h2 with h2 | ⟨g, cap, cur, hv, hg, r⟩
  · exact .inl h2
  · exact .inr ⟨g, cap, cur, hv, hb g (by rw [hv]; rfl), r⟩

section
variable {w0 w w' : World} {row : Option Nat} {rs : List Res} {α : Type} {enc : α → List Value} {K : Nat} {e eo : TypeId} {v : Value} {xs : List α} {xss : List (List α)}

/-- What an owned row of the bundle is to the caller. -/
theorem Bun.ow (h : Bun w0 none w rs) (i : Nat) (hi : rs[i]? = some (Res.row enc K e v xs)) : OwT enc K e w0.heap.size w v xs :=
  OwT.up (h.get i hi) fun k hk => by
    rcases h.ok i hi k hk with h1 | h1
    · exact h1
    · cases h1
theorem Bun.owB {B : Nat} {o : Res} (h : Bun w0 (some B) w rs) (i j : Nat) (hi : rs[i]? = some (Res.row enc K e v xs)) (hj : rs[j]? = some o) (ho : o.foot B) (hne : i ≠ j) : OwT enc K e w0.heap.size w v xs :=
  OwT.up (h.get i hi) fun k hk => by
    rcases h.ok i hi k hk with h1 | h1
    · exact h1
    · exfalso
      simp only [Option.some.injEq] at h1
      subst h1
      obtain ⟨li, ei⟩ := List.getElem?_eq_some_iff.1 hi
      obtain ⟨lj, ej⟩ := List.getElem?_eq_some_iff.1 hj
      rcases Nat.lt_or_gt_of_ne hne with hlt | hlt
      · have := List.pairwise_iff_getElem.1 h.apart i j li lj hlt B
        rw [ei, ej] at this
        exact this hk ho
      · have := List.pairwise_iff_getElem.1 h.apart j i lj li hlt B
        rw [ei, ej] at this
        exact this ho hk
theorem Bun.rd (h : Bun w0 row w rs) (i : Nat) (hi : rs[i]? = some (Res.row enc K e v xs)) (hK : ∀ x, (enc x).length = K) : RdT enc K w v xs := OwT.rd hK (h.get i hi)

theorem Bun.addT (h : Bun w0 row w rs) (ho : OwT enc K e w.heap.size w' v xs) (hb : Below w.heap.size w w') : Bun w0 row w' (Res.row enc K e v xs :: rs) :=
  h.add hb (Res.row enc K e v xs) (ho.mono (Nat.zero_le _)) fun k hk => (World.ownsRow.lt ho k hk).1
theorem Bun.alloc (h : Bun w0 row w rs) (o : Obj) : Bun w0 row (w.alloc o) (Res.blk w.heap.size o :: rs) :=
  h.add (balloc w o) (Res.blk w.heap.size o) (heap_alloc_new w o) fun k hk => Nat.le_of_eq hk.symm
theorem Bun.over (h : Bun w0 row w rs) (o : Obj) : Bun w0 row (w.alloc o) rs := h.call (balloc w o)

/-- A store into a block that is known whole. -/
theorem Bun.put {g : Nat} {cs : Array Value} {t : TypeId} (h : Bun w0 row w (Res.blk g (.cells cs t (0, 0)) :: rs)) (i : Nat) (u : Value) : Bun w0 row (w.setCell ⟨g, i, none⟩ u) (Res.blk g (.cells (cs.setIfInBounds i u) t (0, 0)) :: rs) := by
  refine h.mod (Chs.set w ⟨g, i, none⟩ u (by exact (rfl : g = g))) (Res.blk g _) ?_ (fun k hk => .inl hk) (fun k hk => .inl hk)
  exact heap_setCell_same w g i cs t u (h.get 0 rfl)

/-- A slice of slices that a call made: two facts. -/
theorem Bun.addN (h : Bun w0 row w rs) (hne : e ≠ eo) (ho : OwN enc K e eo w.heap.size w'.heap.size w' v xss) (hb : Below w.heap.size w w') : ∃ ss, Bun w0 row w' (Res.row encL 1 eo v ss :: Res.rows enc K e ss xss :: rs) := by
  obtain ⟨ss, h1, h2⟩ := ho
  refine ⟨ss, ?_⟩
  have hin : InO enc K e 0 w'.heap.size w' ss xss := h2.mono (Nat.zero_le _) (Nat.le_refl _)
  have hrow : OwT encL 1 eo 0 w' v ss := h1.1.mono (Nat.zero_le _)
  have hb2 := h.add hb (Res.rows enc K e ss xss) hin (fun k ⟨s, hs, hk⟩ => (h2.lt hs hk).1)
  have h3 := h.call hb
  have hs := h.grow.size
  have hv : ∀ k, v.ownBlock = some k → w.heap.size ≤ k := fun k hk => (h1.2 k hk).1
  refine ⟨hb2.grow, fun q hq => ?_, List.pairwise_cons.2 ⟨fun q hq k hk hk2 => ?_, hb2.apart⟩⟩
  · rcases List.mem_cons.1 hq with rfl | hq
    · exact ⟨hrow, fun k hk => .inl (Nat.le_trans hs (hv k hk))⟩
    · exact hb2.all q hq
  · rcases List.mem_cons.1 hq with rfl | hq
    · obtain ⟨s, hs, hg⟩ := hk2
      obtain ⟨i, hi⟩ := List.getElem?_of_mem hs
      obtain ⟨ys, -, ho⟩ := h2.rget hi
      exact ho.other hne h1 k hg hk
    · have := q.lt (h.all q hq).1 k hk2
      have := hv k hk
      omega

theorem Bun.rdN (h : Bun w0 row w rs) (i j : Nat) {ss : List Sl} (hi : rs[i]? = some (Res.row encL 1 eo v ss)) (hj : rs[j]? = some (Res.rows enc K e ss xss)) (hK : ∀ x, (enc x).length = K) : RdN enc K w v xss :=
  ⟨ss, h.rd i hi encL_len, InO.rd hK (h.get j hj)⟩

theorem Bun.owN (h : Bun w0 none w rs) (i j : Nat) {ss : List Sl} (hi : rs[i]? = some (Res.row encL 1 eo v ss)) (hj : rs[j]? = some (Res.rows enc K e ss xss)) : OwN enc K e eo w0.heap.size w.heap.size w v xss := by
  have h1 := h.ow i hi
  have h2 : InO enc K e 0 w.heap.size w ss xss := h.get j hj
  refine ⟨ss, ⟨h1, fun k hk => World.ownsRow.lt h1 k hk⟩, h2.len, fun k s xs a b => ?_, h2.apart⟩
  have h3 := h2.row k s xs a b
  have h4 : ∀ g, (slv s).ownBlock = some g → w0.heap.size ≤ g := fun g hg => by
    rcases h.ok j hj g ⟨s, List.mem_of_getElem? a, hg⟩ with h5 | h5
    · exact h5
    · cases h5
  exact ⟨h3.1.up h4, fun g hg => ⟨h4 g hg, (h3.2 g hg).2⟩⟩

/-- A store of a new row into the outer slice. -/
theorem Bun.putRow {g n c k : Nat} {s : Sl} {ss : List Sl} (h : Bun w0 row w (Res.row enc K e (slv s) xs :: Res.row encL 1 eo (.slice (some ⟨g, 0, none⟩) n c) ss :: Res.rows enc K e ss xss :: rs)) (hk : k < n) :
    Bun w0 row (w.setCell ⟨g, k, none⟩ (slv s)) (Res.row encL 1 eo (.slice (some ⟨g, 0, none⟩) n c) (ss.set k s) :: Res.rows enc K e (ss.set k s) (xss.set k xs) :: rs) := by
  have a1 := List.pairwise_cons.1 h.apart
  have a2 := List.pairwise_cons.1 a1.2
  have hs : OwT enc K e 0 w (slv s) xs := h.get 0 rfl
  have ho : OwT encL 1 eo 0 w (.slice (some ⟨g, 0, none⟩) n c) ss := h.get 1 rfl
  have hi : InO enc K e 0 w.heap.size w ss xss := h.get 2 rfl
  have hn := (OwT.open encL_len ho).1
  have dsr : ∀ q, (slv s).ownBlock = some q → ∀ t ∈ ss, (slv t).ownBlock ≠ some q := fun q hq t ht he => a1.1 (Res.rows enc K e ss xss) (by simp) q hq ⟨t, ht, he⟩
  have dso : (slv s).ownBlock ≠ some g := fun he => a1.1 (Res.row encL 1 eo (.slice (some ⟨g, 0, none⟩) n c) ss) (by simp) g he rfl
  have dro : ∀ t ∈ ss, (slv t).ownBlock ≠ some g := fun t ht he => a2.1 (Res.rows enc K e ss xss) (by simp) g rfl ⟨t, ht, he⟩
  have hg : w0.heap.size ≤ g ∨ row = some g := h.ok 1 rfl g rfl
  have stay : ∀ q, q ≠ g → (w.setCell ⟨g, k, none⟩ (slv s)).heap[q]? = w.heap[q]? := fun q hq => Below.heap_setCell w ⟨g, k, none⟩ (slv s) q hq
  have hs' : OwF enc K e 0 w.heap.size (w.setCell ⟨g, k, none⟩ (slv s)) (slv s) xs := OwF.stay ⟨hs, fun q hq => World.ownsRow.lt hs q hq⟩ fun q hq => stay q (by rintro rfl; exact dso hq)
  have hi' : InO enc K e 0 w.heap.size (w.setCell ⟨g, k, none⟩ (slv s)) ss xss := hi.stay fun t q ht hq => stay q (by rintro rfl; exact dro t ht hq)
  have hw := h.grow
  refine ⟨⟨hw.os, hw.tape, hw.output, by simpa using hw.size, fun q hq hne => (stay q (by rintro rfl; rcases hg with hg | hg; omega; exact hne hg.symm)).trans (hw.block q hq hne)⟩, fun q hq => ?_, ?_⟩
  · rcases List.mem_cons.1 hq with rfl | hq
    · exact ⟨ho.stored1 encL_len k s (slv s) (by omega) rfl, fun q hq => h.ok 1 rfl q hq⟩
    rcases List.mem_cons.1 hq with rfl | hq
    · refine ⟨?_, fun q ⟨t, ht, hq⟩ => ?_⟩
      · show InO enc K e 0 (w.setCell ⟨g, k, none⟩ (slv s)).heap.size _ _ _
        simp only [World.size_setCell]
        refine ⟨by simp [hi.len], fun i t ys ha hb => ?_, fun i j t u ha hb hij q hq => ?_⟩
        · rw [List.getElem?_set] at ha hb
          by_cases hki : k = i
          · subst hki
            rw [if_pos rfl] at ha hb
            split at ha
            · split at hb
              · simp only [Option.some.injEq] at ha hb
                subst ha; subst hb; exact hs'
              · cases hb
            · cases ha
          · rw [if_neg hki] at ha hb
            exact hi'.row i t ys ha hb
        · rw [List.getElem?_set] at ha hb
          by_cases hki : k = i <;> by_cases hkj : k = j
          · omega
          · rw [if_pos hki] at ha; rw [if_neg hkj] at hb
            split at ha
            · simp only [Option.some.injEq] at ha
              subst ha
              exact dsr q hq u (List.mem_of_getElem? hb)
            · cases ha
          · rw [if_neg hki] at ha; rw [if_pos hkj] at hb
            split at hb
            · simp only [Option.some.injEq] at hb
              subst hb
              exact fun he => dsr q he t (List.mem_of_getElem? ha) hq
            · cases hb
          · rw [if_neg hki] at ha; rw [if_neg hkj] at hb
            exact hi.apart i j t u ha hb hij q hq
      · rcases List.mem_or_eq_of_mem_set ht with ht | rfl
        · exact h.ok 2 rfl q ⟨t, ht, ‹_›⟩
        · exact h.ok 0 rfl q ‹(slv t).ownBlock = some q›
    · have h2 := h.all q (List.mem_cons_of_mem _ (List.mem_cons_of_mem _ (List.mem_cons_of_mem _ hq)))
      refine ⟨q.keep h2.1 (fun i hi => stay i (by rintro rfl; exact a2.1 q (List.mem_cons_of_mem _ ‹q ∈ rs›) i rfl hi)) (by simp), h2.2⟩
  · have a3 := List.pairwise_cons.1 a2.2
    refine List.pairwise_cons.2 ⟨fun q hq i hi hi2 => ?_, List.pairwise_cons.2 ⟨fun q hq i ⟨t, ht, hi⟩ hi2 => ?_, a3.2⟩⟩
    · rcases List.mem_cons.1 hq with rfl | hq
      · obtain ⟨t, ht, hi2⟩ := hi2
        rcases List.mem_or_eq_of_mem_set ht with ht | rfl
        · exact a2.1 (Res.rows enc K e ss xss) (by simp) i hi ⟨t, ht, hi2⟩
        · exact a1.1 (Res.row encL 1 eo (.slice (some ⟨g, 0, none⟩) n c) ss) (by simp) i hi2 hi
      · exact a2.1 q (List.mem_cons_of_mem _ hq) i hi hi2
    · rcases List.mem_or_eq_of_mem_set ht with ht | rfl
      · exact a3.1 q hq i ⟨t, ht, hi⟩ hi2
      · exact a1.1 q (List.mem_cons_of_mem _ (List.mem_cons_of_mem _ hq)) i hi hi2

/-- One row more. -/
theorem Bun.snoc {s : Sl} {ss : List Sl} (h : Bun w0 row w (Res.row enc K e (slv s) xs :: Res.rows enc K e ss xss :: rs)) : Bun w0 row w (Res.rows enc K e (ss ++ [s]) (xss ++ [xs]) :: rs) := by
  have a1 := List.pairwise_cons.1 h.apart
  have hs : OwT enc K e 0 w (slv s) xs := h.get 0 rfl
  have hi : InO enc K e 0 w.heap.size w ss xss := h.get 1 rfl
  have dsr : ∀ q, (slv s).ownBlock = some q → ∀ t ∈ ss, (slv t).ownBlock ≠ some q := fun q hq t ht he => a1.1 (Res.rows enc K e ss xss) (by simp) q hq ⟨t, ht, he⟩
  have hl := hi.len
  refine h.join (Res.rows enc K e (ss ++ [s]) (xss ++ [xs])) ?_ ?_ ?_
  · refine ⟨by simp [hl], fun i t ys ha hb => ?_, fun i j t u ha hb hij q hq => ?_⟩
    · rw [List.getElem?_append] at ha hb
      by_cases hk : i < ss.length
      · rw [if_pos hk] at ha
        rw [if_pos (by omega)] at hb
        exact hi.row i t ys ha hb
      · rw [if_neg hk] at ha
        rw [if_neg (by omega)] at hb
        have e1 : i - ss.length = 0 := by have := (List.getElem?_eq_some_iff.1 ha).1; simp at this; omega
        rw [e1] at ha
        rw [show i - xss.length = 0 by omega] at hb
        simp at ha hb
        subst ha; subst hb
        exact ⟨hs, fun q hq => World.ownsRow.lt hs q hq⟩
    · rw [List.getElem?_append] at ha hb
      have last : ∀ (k : Nat) (r : Sl), ¬ k < ss.length → [s][k - ss.length]? = some r → r = s ∧ k = ss.length := by
        intro k r hk hr
        have hz : k - ss.length = 0 := by
          have := (List.getElem?_eq_some_iff.1 hr).1
          simp at this; omega
        rw [hz] at hr
        simp at hr
        exact ⟨hr.symm, by omega⟩
      by_cases hi1 : i < ss.length <;> by_cases hj1 : j < ss.length
      · rw [if_pos hi1] at ha; rw [if_pos hj1] at hb
        exact hi.apart i j t u ha hb hij q hq
      · rw [if_pos hi1] at ha; rw [if_neg hj1] at hb
        obtain ⟨rfl, -⟩ := last j u hj1 hb
        exact fun he => dsr q he t (List.mem_of_getElem? ha) hq
      · rw [if_neg hi1] at ha; rw [if_pos hj1] at hb
        obtain ⟨rfl, -⟩ := last i t hi1 ha
        exact dsr q hq u (List.mem_of_getElem? hb)
      · rw [if_neg hi1] at ha; rw [if_neg hj1] at hb
        obtain ⟨-, e1⟩ := last i t hi1 ha
        obtain ⟨-, e2⟩ := last j u hj1 hb
        omega
  · rintro k ⟨t, ht, hk⟩
    rcases List.mem_append.1 ht with ht | ht
    · exact .inr ⟨t, ht, hk⟩
    · simp at ht; subst ht; exact .inl hk
  · rintro k ⟨t, ht, hk⟩
    rcases List.mem_append.1 ht with ht | ht
    · exact .inr ⟨t, ht, hk⟩
    · simp at ht; subst ht; exact .inl hk

/-- A fact on no block. -/
theorem Bun.free (h : Bun w0 row w rs) (r : Res) (hr : r.holds w) (hf : ∀ k, ¬ r.foot k) : Bun w0 row w (r :: rs) :=
  h.add (bref w) r hr fun k hk => absurd hk (hf k)
theorem Bun.norows (h : Bun w0 row w rs) : Bun w0 row w (Res.rows enc K e [] ([] : List (List α)) :: rs) :=
  h.free (Res.rows enc K e [] []) (InO.empty _ _ _) (by rintro k ⟨s, hs, -⟩; simp at hs)
/-- Another value of the same block. -/
theorem Bun.recast {β : Type} {encb : β → List Value} {Kb eb : Nat} {v' : Value} {ys : List β} (h : Bun w0 row w (Res.row enc K e v xs :: rs)) (hr : OwT encb Kb eb 0 w v' ys) (hv : ∀ k, v'.ownBlock = some k → v.ownBlock = some k) : Bun w0 row w (Res.row encb Kb eb v' ys :: rs) :=
  h.mod (Chs.of_below (bref w)) (Res.row encb Kb eb v' ys) hr (fun k hk => .inl (hv k hk)) (fun k hk => .inl (hv k hk))
end

section
variable {w0 : World} {row : Option Nat} {rs : List Res} {α : Type} {enc : α → List Value} {K : Nat} {e t : TypeId} {z : α} {xs : List α}
/-- append onto an owned row. -/
theorem append_b {P : Program} (E : Elt P enc K e t z) {w : World} {ops : Array Oper} {rest : List Oper} {o : Oper} {a : Act} {Q : Exit → Act → World → Prop} (hgd : o.guard = none) (s x : Operand)
    (ho : o.op = .call { callee := .builtin .append, args := #[s, x], argTypes := #[t, t] }) (v u : Value) (ys : List α) (hs : a.eval s = v) (hx : a.eval x = u)
    (H : Bun w0 row w (Res.row enc K e v xs :: rs)) (hr : RdT enc K w u ys) (hb : xs.length + ys.length ≤ 1000000000)
    (h : ∀ v' w', Bun w0 row w' (Res.row enc K e v' (xs ++ ys) :: rs) → (ys ≠ [] → v' ≠ .slice none 0 0) → wpList P ops Q rest (a.put o.dst v') w') : wpList P ops Q (o :: rest) a w := by
  refine append_T E hgd s x ho 0 v u xs ys hs hx (H.get 0 rfl) hr hb (Nat.zero_le _) ?_
  intro v' w' h2 h3 h4 h5
  refine h v' w' (H.mod (Chs.of_grown h3 (fun q hq => hq)) (Res.row enc K e v' (xs ++ ys)) h2 (fun q hq => ?_) (fun q hq => ?_)) h5
  all_goals
    rcases h4 with h4 | h4
    · exact .inl (show v.ownBlock = some q from h4 ▸ hq)
    · exact .inr (by have hq' : v'.ownBlock = some q := hq; rw [h4] at hq'; simp at hq'; omega)

/-- append onto an owned row, at a step of a region that draws its order. -/
theorem step_b {P : Program} (E : Elt P enc K e t z) {w : World} {ops : Array Oper} {o : Oper} {a : Act} {k : Act → World → Prop} {Q : Exit → Act → World → Prop} {F : Prop} (hw : Region.wanted o (yielded ops a.tmps) = true) (s x : Operand)
    (ho : o.op = .call { callee := .builtin .append, args := #[s, x], argTypes := #[t, t] }) (v u : Value) (ys : List α) (hs : a.eval s = v) (hx : a.eval x = u)
    (H : Bun w0 row w (Res.row enc K e v xs :: rs)) (hr : RdT enc K w u ys) (hb : xs.length + ys.length ≤ 1000000000)
    (h : ∀ v' w', Bun w0 row w' (Res.row enc K e v' (xs ++ ys) :: rs) → (ys ≠ [] → v' ≠ .slice none 0 0) → k (a.put o.dst v') w') : if Region.wanted o (yielded ops a.tmps) = true then Oper.wp P o a w k Q else F := by
  refine step_append_G E hw s x ho 0 v u xs ys hs hx (H.get 0 rfl) hr hb (Nat.zero_le _) ?_
  intro v' w' h2 h3 h4 h5
  refine h v' w' (H.mod (Chs.of_grown h3 (fun q hq => hq)) (Res.row enc K e v' (xs ++ ys)) h2 (fun q hq => ?_) (fun q hq => ?_)) h5
  all_goals
    rcases h4 with h4 | h4
    · exact .inl (show v.ownBlock = some q from h4 ▸ hq)
    · exact .inr (by have hq' : v'.ownBlock = some q := hq; rw [h4] at hq'; simp at hq'; omega)

/-- append onto an owned row, at a step of a region that draws its order, without a guard. -/
theorem step_t {P : Program} (E : Elt P enc K e t z) {w : World} {ops : Array Oper} {o : Oper} {a : Act} {k : Act → World → Prop} {Q : Exit → Act → World → Prop} {F : Prop} (hgd : o.guard = none) (s x : Operand)
    (ho : o.op = .call { callee := .builtin .append, args := #[s, x], argTypes := #[t, t] }) (v u : Value) (ys : List α) (hs : a.eval s = v) (hx : a.eval x = u)
    (H : Bun w0 row w (Res.row enc K e v xs :: rs)) (hr : RdT enc K w u ys) (hb : xs.length + ys.length ≤ 1000000000)
    (h : ∀ v' w', Bun w0 row w' (Res.row enc K e v' (xs ++ ys) :: rs) → (ys ≠ [] → v' ≠ .slice none 0 0) → k (a.put o.dst v') w') : if Region.wanted o (yielded ops a.tmps) = true then Oper.wp P o a w k Q else F := by
  refine step_append_T E hgd s x ho 0 v u xs ys hs hx (H.get 0 rfl) hr hb (Nat.zero_le _) ?_
  intro v' w' h2 h3 h4 h5
  refine h v' w' (H.mod (Chs.of_grown h3 (fun q hq => hq)) (Res.row enc K e v' (xs ++ ys)) h2 (fun q hq => ?_) (fun q hq => ?_)) h5
  all_goals
    rcases h4 with h4 | h4
    · exact .inl (show v.ownBlock = some q from h4 ▸ hq)
    · exact .inr (by have hq' : v'.ownBlock = some q := hq; rw [h4] at hq'; simp at hq'; omega)

theorem Bun.lit {P : Program} {w : World} (h : Bun w0 row w rs) (E : Elt P enc K e t z) (cs : Array Value) (xs : List α) (hc : cs.toList = xs.flatMap enc) (hn : xs.length ≤ 1000000000) :
    Bun w0 row (w.alloc (.cells cs e)) (Res.row enc K e (.slice (some ⟨w.heap.size, 0, none⟩) xs.length xs.length) xs :: rs) := h.addT (OwT.lit E w cs xs hc hn) (balloc w _)
theorem Bun.lits {P : Program} {w : World} (h : Bun w0 row w rs) (E : Elt P enc K e t z) (cs : Array Value) (xs : List α) (n : Nat) (hc : cs.toList = xs.flatMap enc) (hn : xs.length = n) (hb : n ≤ 1000000000) :
    Bun w0 row (w.alloc (.cells cs e)) (Res.row enc K e (.slice (some ⟨w.heap.size, 0, none⟩) n n) xs :: rs) := by subst hn; exact h.lit E cs xs hc hb

theorem flatMap_setF {β : Type} (f : α → List β) (hK : ∀ x, (f x).length = K) : ∀ (xs : List α) (k : Nat) (x x' : α) (j : Nat) (a : β), xs[k]? = some x → j < K → f x' = (f x).set j a → (xs.flatMap f).set (k * K + j) a = (xs.set k x').flatMap f := by
  intro xs
  induction xs with
  | nil => intro k x x' j a h; simp at h
  | cons y r ih =>
    intro k x x' j a hx hj he
    cases k with
    | zero =>
      simp at hx; subst hx
      simp only [Nat.zero_mul, Nat.zero_add, List.flatMap_cons, List.set_cons_zero]
      rw [List.set_append, if_pos (by rw [hK]; exact hj), he]
    | succ k =>
      simp at hx
      have := ih k x x' j a hx hj he
      simp only [List.flatMap_cons, List.set_cons_succ]
      rw [List.set_append, if_neg (by rw [hK, Nat.succ_mul]; omega), hK, show (k + 1) * K + j - K = k * K + j from by rw [Nat.succ_mul]; omega, this]

/-- A store into one cell of an element of an owned row. -/
theorem Bun.store {w : World} {g n c k j : Nat} {x x' : α} {u : Value} (h : Bun w0 row w (Res.row enc K e (.slice (some ⟨g, 0, none⟩) n c) xs :: rs)) (hK : ∀ x, (enc x).length = K) (hx : xs[k]? = some x) (hj : j < K) (he : enc x' = (enc x).set j u) :
    Bun w0 row (w.setCell ⟨g, k * K + j, none⟩ u) (Res.row enc K e (.slice (some ⟨g, 0, none⟩) n c) (xs.set k x') :: rs) := by
  have ho : OwT enc K e 0 w (.slice (some ⟨g, 0, none⟩) n c) xs := h.get 0 rfl
  have hn := (OwT.open hK ho).1
  subst hn
  refine h.mod (Chs.set w ⟨g, k * K + j, none⟩ u (by exact (rfl : (some g : Option Nat) = some g))) (Res.row enc K e (.slice (some ⟨g, 0, none⟩) xs.length c) (xs.set k x')) ?_ (fun _ h => .inl h) (fun _ h => .inl h)
  have s1 := (World.ownsRow.stored ho (k * K + j) u).1
  rw [flatMap_setF enc hK xs k x x' j u hx hj he] at s1
  show OwT enc K e 0 _ _ _
  unfold OwT; rw [List.length_set]; exact s1
/-- What a walk asks of an owned row of which an element is read or written. -/
theorem Bun.at {w : World} {v : Value} {k : Nat} {x : α} (h : Bun w0 row w rs) (i : Nat) (hi : rs[i]? = some (Res.row enc K e v xs)) (hK : ∀ x, (enc x).length = K) (hx : xs[k]? = some x) :
    ∃ g c, v = .slice (some ⟨g, 0, none⟩) xs.length c ∧ k < xs.length ∧ xs.length ≤ c ∧ c ≤ maxLen ∧ g < w.heap.size ∧ (∀ j, w.frozen? ⟨g, j, none⟩ = false) ∧ ∀ j y, (enc x)[j]? = some y → w.cell? ⟨g, k * K + j, none⟩ = some y := by
  have ho : OwT enc K e 0 w v xs := h.get i hi
  have hk : k < xs.length := (List.getElem?_eq_some_iff.1 hx).1
  rcases ho.2 with ⟨-, hz⟩ | ⟨g, c, cur, hv, -⟩
  · omega
  · subst hv
    obtain ⟨-, -, h3, h4, h5, h6, h7⟩ := OwT.open hK ho
    exact ⟨g, c, rfl, hk, h4, h5, h3, h6, fun j y hy => h7 k x j y hx hy⟩

/-- An owned row that was written in its place. -/
theorem Bun.marked {w w' : World} {v : Value} {ys : List α} (h : Bun w0 row w (Res.row enc K e v xs :: rs)) (ho : OwT enc K e 0 w' v ys) (hg : ∀ g, v.ownBlock = some g → w.grownBy w' (some g)) (hn : v.ownBlock = none → w = w') : Bun w0 row w' (Res.row enc K e v ys :: rs) := by
  refine h.mod ?_ (Res.row enc K e v ys) ho (fun _ h => .inl h) (fun _ h => .inl h)
  cases hv : v.ownBlock with
  | none => rw [← hn hv]; exact Chs.of_below (bref w)
  | some g => exact Chs.of_grown (hg g hv) (fun q hq => (by simp at hq; subst hq; exact hv : v.ownBlock = some q))
/-- A fact less. -/
theorem Bun.rm {w : World} (h : Bun w0 row w rs) (i : Nat) : Bun w0 row w (rs.eraseIdx i) := by
  cases hr : rs[i]? with
  | none => rw [List.eraseIdx_of_length_le (List.getElem?_eq_none_iff.1 hr)]; exact h
  | some r => exact (h.front i hr).drop
end
end Go.Proofs.YtojknkpjnchchaaDoor
