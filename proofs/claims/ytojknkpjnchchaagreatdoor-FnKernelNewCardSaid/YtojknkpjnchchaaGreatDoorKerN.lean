/- Contracts of the functions on translations that are remembered. No conditions but the readings of the arguments. -/
import Derived.Test.YtojknkpjnchchaaGreatDoorKerC
import Derived.Test.YtojknkpjnchchaaGreatDoorInfoG
import Derived.Test.YtojknkpjnchchaaGreatDoorGLib
namespace Go.Proofs.YtojknkpjnchchaaGreatDoor
open Go.BigFrame Go.ChangeShapes Go.WideShapes Go.ChangeAt Go.RowKit
set_option linter.all false
set_option maxRecDepth 100000
attribute [local go_sem ↓] Go.wp_at_zero Go.wp_at_succ

/-- A world that grew out of w. -/
structure Bel (w : World) where
  wd : World
  below : Below w.heap.size w wd
instance (w : World) : Inhabited (Bel w) := ⟨⟨w, bref w⟩⟩
theorem cell_bel {w : World} {a : Addr} {v : Value} (h : w.cell? a = some v) (p : Bel w) : p.wd.cell? a = some v := (p.below.cell (World.block_lt_of_cell? w _ h)).trans h
theorem wp_region_bel {P : Program} {id : Nat} {Q : Exit → Act → World → Prop} {a : Act} {w : World} {l : List Oper} (hm : P.follows .mixedOrders = true) (hB : Region.lexB .any l.toArray = true)
    (h : wpQuiet P l.toArray (fun w' => ∃ p : Bel w, w' = p.wd) (fun a' => ∀ w', (∃ p : Bel w, w' = p.wd) → Q .normal a' w') l a) : (Code.region id l.toArray true).wp P Q a w :=
  wp_region_quiet (C := fun w' => ∃ p : Bel w, w' = p.wd) hm hB ⟨⟨w.drew, (bref w).drew⟩, rfl⟩ (by simpa using h)
theorem Calls.bel_of {P : Program} {f : FuncId} {args : Array Value} {w : World} {p : Bel w} {v : Value}
    (h : Calls P f args p.wd fun e w' => e = .returned v ∧ Below p.wd.heap.size p.wd w') : Calls P f args p.wd fun e w'' => e = .returned v ∧ ∃ p' : Bel w, w'' = p'.wd :=
  h.mono fun _ w' ⟨he, hb⟩ => ⟨he, ⟨w', bnext p.below hb⟩, rfl⟩
theorem Calls.bel_same {P : Program} {f : FuncId} {args : Array Value} {w : World} {p : Bel w} {v : Value}
    (h : Calls P f args p.wd fun e w' => e = .returned v ∧ p.wd = w') : Calls P f args p.wd fun e w'' => e = .returned v ∧ ∃ p' : Bel w, w'' = p'.wd :=
  h.mono fun _ w' ⟨he, hb⟩ => ⟨he, p, hb.symm⟩

set_option maxHeartbeats 1000000 in
theorem idxCac_c (g : Nat) (lb : Array Value) (ps : List Bool) (xs : List Cac) (v : Value) (w : World) (hl : ps.length = xs.length) (hx : RdT Cac.enc 4 w v xs)
    (hg : ∀ (args : Array Value) (w : World), (callFunc g args).run Tryz.prog w = .ok (.enter g args) w)
    (hp : ∀ (k : Nat) (m : Cac) (p : Bool) W, xs[k]? = some m → ps[k]? = some p → Below w.heap.size w W → Calls Tryz.prog g (#[m.val] ++ lb) W fun e W' => e = .returned (.bool p) ∧ Below W.heap.size W W') :
    Calls Tryz.prog 140 #[v, .func (.func g) #[] lb] w fun e w' =>
    e = .returned (.int .i64 (idxOf id ps)) ∧ Below w.heap.size w w' := by
  obtain ⟨a, c, rfl, h1, h2, -, h3⟩ := hx
  have H3 := Lib.hid h3
  have HP := Lib.hid hp
  have HL := Lib.hid hl
  clear h3 hp hl
  unfold maxLen at h2
  go_enter Tryz.func140, Tryz.ntmps140
  go_wp2
  go_loopw [8] (fun i wr => ∃ k : Nat, k ≤ xs.length ∧ i = .int .i64 k ∧ Below w.heap.size w wr ∧ Hid ((ps.take k).any id = false)) (fun i _ => xs.length - (intOf i).toNat)
  case atStart => exact ⟨0, Nat.zero_le _, rfl, Below.refl _ _, by simp [Hid]⟩
  case round =>
    obtain ⟨k, hk, rfl, hb, heq⟩ := hrel
    by_cases hlt : k < xs.length
    · obtain ⟨m, hm⟩ : ∃ m, xs[k]? = some m := ⟨_, List.getElem?_eq_getElem hlt⟩
      obtain ⟨p, hpk⟩ : ∃ p, ps[k]? = some p := ⟨_, List.getElem?_eq_getElem (by rw [HL.out]; exact hlt)⟩
      obtain ⟨b, o, rfl, hbl, hc⟩ := H3.out k m hm
      have c0 := (hb.cell (p := ⟨b, o + k * 4 + 0, none⟩) hbl).trans (hc 0 _ rfl)
      have c1 := (hb.cell (p := ⟨b, o + k * 4 + 1, none⟩) hbl).trans (hc 1 _ rfl)
      have c2 := (hb.cell (p := ⟨b, o + k * 4 + 2, none⟩) hbl).trans (hc 2 _ rfl)
      have c3 := (hb.cell (p := ⟨b, o + k * 4 + 3, none⟩) hbl).trans (hc 3 _ rfl)
      simp only [Nat.add_zero] at c0
      have HM := Lib.hid hm
      have HQ := Lib.hid hpk
      clear hc hm hpk
      cases p
      all_goals
        go_wp2_with fail
        refine (HP.out k m _ _ HM.out HQ.out hb).mono ?_
        rintro e w' ⟨rfl, hb2⟩
        have hb3 := hb.trans (hb2.mono hb.size)
        go_wp2
      · go_roundw
        case rel => exact ⟨k + 1, by omega, by go_num, hb3, any_take_succ HQ.out heq rfl⟩
        case measure => simp [intOf]; omega
      · go_ret
        exact ⟨ret_int (idxOf_at HQ.out heq rfl).symm, hb3⟩
    · go_wp2
      go_ret
      exact ⟨ret_int (idxOf_none (k := k) (by rw [HL.out]; omega) heq.out).symm, hb⟩


/-- A translation of a page of an environment. -/
def sameK (en pg : Int) (y : Cac) : Bool := (y.en == en) && (y.pg == pg)
def cacOk (x : Cac) : Bool := btw 0 x.en 2 && (btw 0 x.pg 15 && btw 0 x.fr 11)
def findK (xs : List Cac) (en pg : Int) : Int := idxOf id (xs.map (sameK en pg))
def okAt (xs : List Cac) (i : Nat) : Bool := match xs[i]? with | some x => cacOk x && !((xs.take i).any (sameK x.en x.pg)) | none => true
def cachB (xs : List Cac) : Bool := decide (xs.length ≤ 4) && (List.range xs.length).all (okAt xs)

theorem isEnv_c (n : Int) (w : World) : Calls Tryz.prog 59 #[.int .i64 n] w fun e w' => e = .returned (.bool (btw 0 n 2)) ∧ w = w' := by
  go_enter Tryz.func59, Tryz.ntmps59
  go_wp2_with (go_at_call 105; refine (within_c _ _ _ _).mono ?_; rintro e w' ⟨rfl, rfl⟩)
  go_ret
  exact ⟨rfl, rfl⟩
theorem isPage_c (n : Int) (w : World) : Calls Tryz.prog 139 #[.int .i64 n] w fun e w' => e = .returned (.bool (btw 0 n 15)) ∧ w = w' := by
  go_enter Tryz.func139, Tryz.ntmps139
  go_wp2_with (go_at_call 105; refine (within_c _ _ _ _).mono ?_; rintro e w' ⟨rfl, rfl⟩)
  go_ret
  exact ⟨rfl, rfl⟩
theorem l4Env_c (n : Int) (w : World) : Calls Tryz.prog 56 #[.int .i64 n] w fun e w' => e = .returned (.bool (btw 0 n 2)) ∧ w = w' := by
  go_enter Tryz.func56, Tryz.ntmps56
  go_wp2_with (go_at_call 86; refine (l6In_c _ _ _ _).mono ?_; rintro e w' ⟨rfl, rfl⟩)
  go_ret
  exact ⟨rfl, rfl⟩

theorem isCached_c (x : Cac) (w : World) : Calls Tryz.prog 101 #[x.val] w fun e w' => e = .returned (.bool (cacOk x)) ∧ Below w.heap.size w w' := by
  have HC := Lib.hid (show cacOk x = (btw 0 x.en 2 && (btw 0 x.pg 15 && btw 0 x.fr 11)) from rfl)
  obtain ⟨a, b, c, d⟩ := x
  unfold Cac.val
  dsimp only at HC ⊢
  cases h1 : btw 0 a 2
  · have H1 := Lib.hid h1
    clear h1
    go_enter Tryz.func101, Tryz.ntmps101
    go_wp2_with fail
    refine (isEnv_c a _).mono ?_
    rintro e w1 ⟨rfl, rfl⟩
    rw [H1.out]
    go_wp2
    go_ret
    exact ⟨ret_bool (by rw [HC.out, H1.out]; rfl), by go_grown⟩
  cases h2 : btw 0 b 15
  · have H1 := Lib.hid h1
    have H2 := Lib.hid h2
    clear h1 h2
    go_enter Tryz.func101, Tryz.ntmps101
    go_wp2_with fail
    refine (isEnv_c a _).mono ?_
    rintro e w1 ⟨rfl, rfl⟩
    rw [H1.out]
    go_wp2_with fail
    refine (isPage_c b _).mono ?_
    rintro e w2 ⟨rfl, rfl⟩
    rw [H2.out]
    go_wp2
    go_ret
    exact ⟨ret_bool (by rw [HC.out, H1.out, H2.out]; rfl), by go_grown⟩
  · have H1 := Lib.hid h1
    have H2 := Lib.hid h2
    clear h1 h2
    go_enter Tryz.func101, Tryz.ntmps101
    go_wp2_with fail
    refine (isEnv_c a _).mono ?_
    rintro e w1 ⟨rfl, rfl⟩
    rw [H1.out]
    go_wp2_with fail
    refine (isPage_c b _).mono ?_
    rintro e w2 ⟨rfl, rfl⟩
    rw [H2.out]
    go_wp2_with fail
    refine (isFrame_c c _).mono ?_
    rintro e w3 ⟨rfl, rfl⟩
    go_wp2
    go_ret
    exact ⟨ret_bool (by rw [HC.out, H1.out, H2.out]; simp), by go_grown⟩

theorem l4Cached_c (x : Cac) (w : World) : Calls Tryz.prog 84 #[x.val] w fun e w' => e = .returned (.bool (cacOk x)) ∧ Below w.heap.size w w' := by
  have HC := Lib.hid (show cacOk x = (btw 0 x.en 2 && (btw 0 x.pg 15 && btw 0 x.fr 11)) from rfl)
  obtain ⟨a, b, c, d⟩ := x
  unfold Cac.val
  dsimp only at HC ⊢
  cases h1 : btw 0 a 2
  · have H1 := Lib.hid h1
    clear h1
    go_enter Tryz.func84, Tryz.ntmps84
    go_wp2_with fail
    refine (l4Env_c a _).mono ?_
    rintro e w1 ⟨rfl, rfl⟩
    rw [H1.out]
    go_wp2
    go_ret
    exact ⟨ret_bool (by rw [HC.out, H1.out]; rfl), by go_grown⟩
  cases h2 : btw 0 b 15
  · have H1 := Lib.hid h1
    have H2 := Lib.hid h2
    clear h1 h2
    go_enter Tryz.func84, Tryz.ntmps84
    go_wp2_with fail
    refine (l4Env_c a _).mono ?_
    rintro e w1 ⟨rfl, rfl⟩
    rw [H1.out]
    go_wp2_with fail
    refine (l6In_c b 0 15 _).mono ?_
    rintro e w2 ⟨rfl, rfl⟩
    rw [H2.out]
    go_wp2
    go_ret
    exact ⟨ret_bool (by rw [HC.out, H1.out, H2.out]; rfl), by go_grown⟩
  · have H1 := Lib.hid h1
    have H2 := Lib.hid h2
    clear h1 h2
    go_enter Tryz.func84, Tryz.ntmps84
    go_wp2_with fail
    refine (l4Env_c a _).mono ?_
    rintro e w1 ⟨rfl, rfl⟩
    rw [H1.out]
    go_wp2_with fail
    refine (l6In_c b 0 15 _).mono ?_
    rintro e w2 ⟨rfl, rfl⟩
    rw [H2.out]
    go_wp2_with fail
    refine (l1Frame_c c _).mono ?_
    rintro e w3 ⟨rfl, rfl⟩
    go_wp2
    go_ret
    exact ⟨ret_bool (by rw [HC.out, H1.out, H2.out]; simp), by go_grown⟩

theorem cachedFn_c (y : Cac) (en pg : Int) (B1 B2 : Nat) (w : World) (h1 : w.cell? ⟨B1, 0, none⟩ = some (.int .i64 en)) (h2 : w.cell? ⟨B2, 0, none⟩ = some (.int .i64 pg)) :
    Calls Tryz.prog 141 #[y.val, .pointer (some ⟨B1, 0, none⟩), .pointer (some ⟨B2, 0, none⟩)] w fun e w' => e = .returned (.bool (sameK en pg y)) ∧ Below w.heap.size w w' := by
  have HS := Lib.hid (show sameK en pg y = ((y.en == en) && (y.pg == pg)) from rfl)
  obtain ⟨a, b, c, d⟩ := y
  unfold Cac.val
  dsimp only at HS ⊢
  have l1 := World.block_lt_of_cell? w _ h1
  have l2 := World.block_lt_of_cell? w _ h2
  cases ha : a == en
  all_goals
    have HA := Lib.hid ha
    go_enter Tryz.func141, Tryz.ntmps141
    go_wp2
    go_ret
    exact ⟨ret_bool (by rw [HS.out, HA.out]; simp), by go_grown⟩

set_option maxHeartbeats 2000000 in
theorem cached_c (xs : List Cac) (v : Value) (en pg : Int) (w : World) (h : RdC w v xs) : Calls Tryz.prog 102 #[v, .int .i64 en, .int .i64 pg] w fun e w' => e = .returned (.int .i64 (findK xs en pg)) ∧ Below w.heap.size w w' := by
  have hB := ((Bun.refl w none).alloc (.cells #[.int .i64 en] 3)).alloc (.cells #[.int .i64 pg] 3)
  have e1 := (blk1 (hB.get 1 rfl)).1
  have e2 := (blk1 (hB.get 0 rfl)).1
  have l1 := World.block_lt_of_cell? _ _ e1
  have l2 := World.block_lt_of_cell? _ _ e2
  have hp : ∀ (k : Nat) (m : Cac) (p : Bool) W, xs[k]? = some m → (xs.map (sameK en pg))[k]? = some p → Below ((w.alloc (.cells #[.int .i64 en] 3)).alloc (.cells #[.int .i64 pg] 3)).heap.size ((w.alloc (.cells #[.int .i64 en] 3)).alloc (.cells #[.int .i64 pg] 3)) W →
      Calls Tryz.prog 141 (#[m.val] ++ #[.pointer (some ⟨w.heap.size, 0, none⟩), .pointer (some ⟨w.heap.size + 1, 0, none⟩)]) W fun e W' => e = .returned (.bool p) ∧ Below W.heap.size W W' := by
    intro k m p W hm hp hb
    rw [List.getElem?_map, hm] at hp
    simp only [Option.map_some, Option.some.injEq] at hp
    subst hp
    refine cachedFn_c m en pg _ _ W ((hb.cell l1).trans e1) ?_
    have h3 := (hb.cell l2).trans e2
    simpa using h3
  have HE := enters_of (P := Tryz.prog) (f := 141) Tryz.func141 (by kernel_rfl) rfl
  have HC := Lib.hid (idxCac_c 141 #[.pointer (some ⟨w.heap.size, 0, none⟩), .pointer (some ⟨w.heap.size + 1, 0, none⟩)] (xs.map (sameK en pg)) xs v _ (by simp) (h.below hB.below) HE hp)
  have HB := Lib.hid hB
  clear hB e1 e2 l1 l2 hp HE
  go_enter Tryz.func102, Tryz.ntmps102
  go_wp2_with fail
  refine HC.out.mono ?_
  rintro e w1 ⟨rfl, hb⟩
  go_wp2
  go_ret
  exact ⟨rfl, (HB.out.call hb).below⟩
end Go.Proofs.YtojknkpjnchchaaGreatDoor
