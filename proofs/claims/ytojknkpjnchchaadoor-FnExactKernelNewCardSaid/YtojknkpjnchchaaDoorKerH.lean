/- Contracts of the helpers on kernels. No conditions but the readings of the arguments. -/
import Derived.Test.YtojknkpjnchchaaDoorKerG
namespace Go.Proofs.YtojknkpjnchchaaDoor
open Go.ChangeShapes Go.WideShapes Go.RowKit
set_option linter.all false
set_option maxRecDepth 100000
attribute [local go_sem ↓] Go.wp_at_zero Go.wp_at_succ

structure Kern where
  me : List (List Int)
  inf : List Info
  env : List Env
  ca : List Cac
deriving DecidableEq

/-- A kernel that can be read. -/
def RdK (w : World) (v : Value) (k : Kern) : Prop :=
  ∃ a b c d, v = .agg #[a, b, c, d] ∧ RdII w a k.me ∧ RdF w b k.inf ∧ RdE w c k.env ∧ RdC w d k.ca
theorem RdK.below {w w' : World} {v : Value} {k : Kern} (h : RdK w v k) (hb : Below w.heap.size w w') : RdK w' v k := by
  obtain ⟨a, b, c, d, rfl, h1, h2, h3, h4⟩ := h
  exact ⟨a, b, c, d, rfl, h1.below hb, h2.below hb, h3.below hb, h4.below hb⟩
/-- What a kernel's slices are, as facts on blocks. -/
abbrev KR (a b c d : Value) (ss sls : List Sl) (k : Kern) (rs : List Res) : List Res :=
  Res.row encL 1 45 a ss :: Res.rows encI 1 3 ss k.me :: Res.row Info.enc 3 60 b k.inf :: rowE c sls k.env :: rowR sls k.env :: Res.row Cac.enc 4 64 d k.ca :: rs

theorem blk4 {w : World} {g : Nat} {x y z u : Value} {e : TypeId} (h : w.heap[g]? = some (.cells #[x, y, z, u] e (0, 0))) :
    w.cell? ⟨g, 0, none⟩ = some x ∧ w.cell? ⟨g, 1, none⟩ = some y ∧ w.cell? ⟨g, 2, none⟩ = some z ∧ w.cell? ⟨g, 3, none⟩ = some u ∧ w.frozen? ⟨g, 0, none⟩ = false ∧ w.frozen? ⟨g, 1, none⟩ = false ∧ w.frozen? ⟨g, 2, none⟩ = false ∧ w.frozen? ⟨g, 3, none⟩ = false ∧ g < w.heap.size :=
  ⟨by rw [cell_of_row w g 0 _ e (0, 0) h]; rfl, by rw [cell_of_row w g 1 _ e (0, 0) h]; rfl, by rw [cell_of_row w g 2 _ e (0, 0) h]; rfl, by rw [cell_of_row w g 3 _ e (0, 0) h]; rfl, frozen_of_row w g 0 _ e h, frozen_of_row w g 1 _ e h, frozen_of_row w g 2 _ e h, frozen_of_row w g 3 _ e h, (Array.getElem?_eq_some_iff.1 h).1⟩

theorem eqKernel_c (k : Kern) (v u : Value) (w : World) (hx : RdK w v k) (hy : RdK w u k) : Calls Tryd.prog 8 #[v, u] w fun e w' => e = .returned (.bool true) ∧ Below w.heap.size w w' := by
  obtain ⟨a, b, c, d, rfl, x1, x2, x3, x4⟩ := hx
  obtain ⟨a', b', c', d', rfl, y1, y2, y3, y4⟩ := hy
  have hB := (((Bun.refl w none).alloc (.cells #[a, b, c, d] 29)).blkAt (.cells #[a', b', c', d'] 29) (w.heap.size + 1) (by simp))
  have HB := Lib.hid hB
  have X1 := Lib.hid (x1.below hB.below)
  have X2 := Lib.hid (x2.below hB.below)
  have X3 := Lib.hid (x3.below hB.below)
  have X4 := Lib.hid (x4.below hB.below)
  have Y1 := Lib.hid (y1.below hB.below)
  have Y2 := Lib.hid (y2.below hB.below)
  have Y3 := Lib.hid (y3.below hB.below)
  have Y4 := Lib.hid (y4.below hB.below)
  clear hB x1 x2 x3 x4 y1 y2 y3 y4
  go_enter Tryd.func8, Tryd.ntmps8
  go_wp2_with fail
  refine (eqIntSS_c k.me k.me a a' _ X1.out Y1.out).mono ?_
  rintro e w1 ⟨rfl, hb1⟩
  rw [decide_eq_true (rfl : k.me = k.me)]
  have hB1 := HB.out.call hb1
  obtain ⟨-, c1, -, -, -⟩ := blk4 (hB1.get 1 rfl)
  obtain ⟨-, d1, -, -, -⟩ := blk4 (hB1.get 0 rfl)
  have HB1 := Lib.hid hB1
  have HB1' := Lib.hid hb1
  clear hb1 hB1 HB X1 Y1
  go_wp2_with fail
  refine (eqInfoS_c k.inf k.inf b b' _ (X2.out.below HB1'.out) (Y2.out.below HB1'.out)).mono ?_
  rintro e w2 ⟨rfl, hb2⟩
  rw [decide_eq_true (rfl : k.inf = k.inf)]
  have hB2 := HB1.out.call hb2
  obtain ⟨-, -, c2, -, -⟩ := blk4 (hB2.get 1 rfl)
  obtain ⟨-, -, d2, -, -⟩ := blk4 (hB2.get 0 rfl)
  have HB2 := Lib.hid hB2
  have HB2' := Lib.hid (bnext HB1'.out hb2)
  clear hb2 hB2 HB1 HB1' X2 Y2 c1 d1
  go_wp2_with fail
  refine (eqEnvS_c k.env k.env c c' _ (X3.out.below HB2'.out) (Y3.out.below HB2'.out)).mono ?_
  rintro e w3 ⟨rfl, hb3⟩
  rw [decide_eq_true (rfl : k.env = k.env)]
  have hB3 := HB2.out.call hb3
  obtain ⟨-, -, -, c3, -⟩ := blk4 (hB3.get 1 rfl)
  obtain ⟨-, -, -, d3, -⟩ := blk4 (hB3.get 0 rfl)
  have HB3 := Lib.hid hB3
  have HB3' := Lib.hid (bnext HB2'.out hb3)
  clear hb3 hB3 HB2 HB2' X3 Y3 c2 d2
  go_wp2_with fail
  refine (eqCachedS_c k.ca k.ca d d' _ (X4.out.below HB3'.out) (Y4.out.below HB3'.out)).mono ?_
  rintro e w4 ⟨rfl, hb4⟩
  rw [decide_eq_true (rfl : k.ca = k.ca)]
  have HB4 := Lib.hid (HB3.out.call hb4)
  clear hb4 HB3 HB3' X4 Y4 c3 d3
  go_wp2
  go_ret
  exact ⟨rfl, HB4.out.below⟩

/-- The marks of a kernel, and how many there are. -/
def marksK (q : Int) (k : Kern) : Kern :=
  ⟨marksII q k.me, marksF (q + sumLen k.me) k.inf.length, marksE (q + sumLen k.me + 3 * k.inf.length) k.env, marksC (q + sumLen k.me + 3 * k.inf.length + sumBy envW k.env) k.ca.length⟩
/-- A kernel is not too large. -/
def fitK (k : Kern) : Prop := (k.me.length : Int) + sumLen k.me ≤ 2000000 ∧ k.inf.length ≤ 2000000 ∧ (k.env.length : Int) + sumBy envW k.env ≤ 2000000 ∧ k.ca.length ≤ 2000000

section
variable {w0 w : World} {row : Option Nat} {rs : List Res}
theorem Bun.rdK {a b c d : Value} {ss sls : List Sl} {k : Kern} (h : Bun w0 row w (KR a b c d ss sls k rs)) : RdK w (.agg #[a, b, c, d]) k :=
  ⟨a, b, c, d, rfl, h.rdN 0 1 rfl rfl encI_len, h.rd 2 rfl Info.enc_len, h.rdE 3 4 rfl rfl, h.rd 5 rfl Cac.enc_len⟩

theorem markKernel_b (k : Kern) (a b c d : Value) (ss sls : List Sl) (q : Int) (H : Bun w0 row w (KR a b c d ss sls k rs)) (hq : 1 ≤ q ∧ q ≤ 10000000) (hl : fitK k) :
    Calls Tryd.prog 11 #[.agg #[a, b, c, d], .int .i64 q] w fun e w' => e = .returned (.int .i64 (q + sumLen k.me + 3 * k.inf.length + sumBy envW k.env + 4 * k.ca.length)) ∧ Bun w0 row w' (KR a b c d ss sls (marksK q k) rs) := by
  obtain ⟨l1, l2, l3, l4⟩ := hl
  have HB := Lib.hid (((H.alloc (.cells #[a, b, c, d] 29)).front 2 rfl).front 2 rfl)
  have L1 := Lib.hid l1
  have L2 := Lib.hid l2
  have L3 := Lib.hid l3
  have L4 := Lib.hid l4
  have B1 := Lib.hid (show 0 ≤ (sumLen k.me : Int) ∧ (sumLen k.me : Int) ≤ 2000000 by omega)
  have B2 := Lib.hid (show 0 ≤ (sumBy envW k.env : Int) ∧ (sumBy envW k.env : Int) ≤ 2000000 by omega)
  clear H l1 l2 l3 l4
  go_enter Tryd.func11, Tryd.ntmps11
  go_wp2_with fail
  refine (markIntSS_b k.me a ss q HB.out (by omega) L1.out).mono ?_
  rintro e w1 ⟨rfl, hb⟩
  obtain ⟨-, c1, -, -, -⟩ := blk4 (hb.get 2 rfl)
  have HB1 := Lib.hid (hb.front 3 rfl)
  clear hb HB
  go_wp2_with fail
  refine (markInfoS_c k.inf b (q + sumLen k.me) 0 _ (HB1.out.get 0 rfl) (by have := B1.out; omega) L2.out).mono ?_
  rintro e w2 ⟨rfl, ho, hg, hn⟩
  have hb := HB1.out.marked ho hg hn
  obtain ⟨-, -, c2, -, -⟩ := blk4 (hb.get 3 rfl)
  have HB2 := Lib.hid ((hb.front 5 rfl).front 5 rfl)
  clear hb HB1 ho hg hn c1
  go_wp2_with fail
  refine (markEnvS_b k.env c sls (q + sumLen k.me + 3 * k.inf.length) HB2.out (by have := B1.out; have := L2.out; omega) L3.out).mono ?_
  rintro e w3 ⟨rfl, hb⟩
  obtain ⟨-, -, -, c3, -⟩ := blk4 (hb.get 5 rfl)
  have HB3 := Lib.hid (hb.front 6 rfl)
  clear hb HB2 c2
  go_wp2_with fail
  refine (markCachedS_c k.ca d (q + sumLen k.me + 3 * k.inf.length + sumBy envW k.env) 0 _ (HB3.out.get 0 rfl) (by have := B1.out; have := B2.out; have := L2.out; omega) L4.out).mono ?_
  rintro e w4 ⟨rfl, ho, hg, hn⟩
  have HB4 := Lib.hid ((((((HB3.out.marked ho hg hn).rm 6).front 2 rfl).front 2 rfl).front 3 rfl).front 5 rfl)
  clear ho hg hn HB3 c3
  go_wp2
  go_ret
  exact ⟨rfl, HB4.out.front 5 rfl⟩
end

theorem heldKernel_c (k : Kern) (v : Value) (q : Int) (w : World) (hx : RdK w v (marksK q k)) (hq : 1 ≤ q ∧ q ≤ 10000000) (hl : fitK k) : Calls Tryd.prog 12 #[v, .int .i64 q] w fun e w' =>
    e = .returned (.int .i64 (q + sumLen k.me + 3 * k.inf.length + sumBy envW k.env + 4 * k.ca.length)) ∧ Below w.heap.size w w' := by
  obtain ⟨a, b, c, d, rfl, x1, x2, x3, x4⟩ := hx
  obtain ⟨l1, l2, l3, l4⟩ := hl
  have hB := ((Bun.refl w none).alloc (.cells #[a, b, c, d] 29))
  have HB := Lib.hid hB
  have X1 := Lib.hid (x1.below hB.below)
  have X2 := Lib.hid (x2.below hB.below)
  have X3 := Lib.hid (x3.below hB.below)
  have X4 := Lib.hid (x4.below hB.below)
  have L1 := Lib.hid l1
  have L2 := Lib.hid l2
  have L3 := Lib.hid l3
  have L4 := Lib.hid l4
  have b1 : 0 ≤ (sumLen k.me : Int) ∧ (sumLen k.me : Int) ≤ 2000000 := by omega
  have b2 : 0 ≤ (sumBy envW k.env : Int) ∧ (sumBy envW k.env : Int) ≤ 2000000 := by omega
  have b3 : 0 ≤ (k.inf.length : Int) ∧ (k.inf.length : Int) ≤ 2000000 := by omega
  have b4 : 0 ≤ (k.ca.length : Int) ∧ (k.ca.length : Int) ≤ 2000000 := by omega
  obtain ⟨b10, b11⟩ := b1
  obtain ⟨b20, b21⟩ := b2
  obtain ⟨b30, b31⟩ := b3
  obtain ⟨b40, b41⟩ := b4
  have p1 : 0 ≤ q + (sumLen k.me : Int) := by omega
  have p2 : 0 ≤ q + (sumLen k.me : Int) + 3 * (k.inf.length : Int) := by omega
  have p3 : 0 ≤ q + (sumLen k.me : Int) + 3 * (k.inf.length : Int) + (sumBy envW k.env : Int) := by omega
  have p4 : 0 ≤ q + (sumLen k.me : Int) + 3 * (k.inf.length : Int) + (sumBy envW k.env : Int) + 4 * (k.ca.length : Int) := by omega
  clear hB x1 x2 x3 x4 l1 l2 l3 l4
  go_enter Tryd.func12, Tryd.ntmps12
  go_wp2_with fail
  refine (heldIntSS_c k.me a q _ X1.out (by omega) L1.out).mono ?_
  rintro e w1 ⟨rfl, rfl⟩
  go_wp2_with fail
  refine (heldInfoS_c k.inf.length b (q + sumLen k.me) _ X2.out (by omega) L2.out).mono ?_
  rintro e w2 ⟨rfl, hb1⟩
  have hB1 := HB.out.call hb1
  obtain ⟨-, -, c2, c3, -⟩ := blk4 (hB1.get 0 rfl)
  have HB1 := Lib.hid hB1
  have HB1' := Lib.hid hb1
  clear hb1 hB1 HB
  go_wp2_with fail
  refine (heldEnvS_c k.env c (q + sumLen k.me + 3 * k.inf.length) _ (X3.out.below HB1'.out) (by omega) L3.out).mono ?_
  rintro e w3 ⟨rfl, hb2⟩
  have hB2 := HB1.out.call hb2
  obtain ⟨-, -, -, c4, -⟩ := blk4 (hB2.get 0 rfl)
  have HB2 := Lib.hid hB2
  have HB2' := Lib.hid (bnext HB1'.out hb2)
  clear hb2 hB2 HB1 HB1' c2 c3
  go_wp2_with fail
  refine (heldCachedS_c k.ca.length d (q + sumLen k.me + 3 * k.inf.length + sumBy envW k.env) _ (X4.out.below HB2'.out) (by omega) L4.out).mono ?_
  rintro e w4 ⟨rfl, rfl⟩
  go_wp2
  go_ret
  exact ⟨rfl, HB2.out.below⟩
end Go.Proofs.YtojknkpjnchchaaDoor
