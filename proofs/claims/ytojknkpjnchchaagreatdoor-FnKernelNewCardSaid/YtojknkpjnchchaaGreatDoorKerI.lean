/- A new kernel: the plain function, and the program's. No conditions but the readings of the arguments and the sizes of the texts. -/
import Derived.Test.YtojknkpjnchchaaGreatDoorGKer
import Derived.Test.YtojknkpjnchchaaGreatDoorRightC
import Derived.Deep.OwnRows
namespace Go.Proofs.YtojknkpjnchchaaGreatDoor
open Go.ChangeShapes Go.WideShapes Go.ChangeAt Go.RowKit
set_option linter.all false
set_option maxRecDepth 100000
attribute [local go_sem ↓] Go.wp_at_zero Go.wp_at_succ

set_option maxHeartbeats 1000000 in
theorem idxRowT_c (g : Nat) (lb : Array Value) (ps : List Bool) (xs : List Sl) (v : Value) (w : World) (hl : ps.length = xs.length) (hx : RdT encL 1 w v xs)
    (hg : ∀ (args : Array Value) (w : World), (callFunc g args).run Tryz.prog w = .ok (.enter g args) w)
    (hp : ∀ (k : Nat) (m : Sl) (p : Bool) W, xs[k]? = some m → ps[k]? = some p → Below w.heap.size w W → Calls Tryz.prog g (#[slv m] ++ lb) W fun e W' => e = .returned (.bool p) ∧ Below W.heap.size W W') :
    Calls Tryz.prog 126 #[v, .func (.func g) #[] lb] w fun e w' =>
    e = .returned (.int .i64 (idxOf id ps)) ∧ Below w.heap.size w w' := by
  obtain ⟨a, c, rfl, h1, h2, -, h3⟩ := hx
  have H3 := Lib.hid h3
  have HP := Lib.hid hp
  have HL := Lib.hid hl
  clear h3 hp hl
  unfold maxLen at h2
  go_enter Tryz.func126, Tryz.ntmps126
  go_wp2
  go_loopw [8] (fun i wr => ∃ k : Nat, k ≤ xs.length ∧ i = .int .i64 k ∧ Below w.heap.size w wr ∧ Hid ((ps.take k).any id = false)) (fun i _ => xs.length - (intOf i).toNat)
  case atStart => exact ⟨0, Nat.zero_le _, rfl, Below.refl _ _, by simp [Hid]⟩
  case round =>
    obtain ⟨k, hk, rfl, hb, heq⟩ := hrel
    by_cases hlt : k < xs.length
    · obtain ⟨m, hm⟩ : ∃ m, xs[k]? = some m := ⟨_, List.getElem?_eq_getElem hlt⟩
      obtain ⟨p, hpk⟩ : ∃ p, ps[k]? = some p := ⟨_, List.getElem?_eq_getElem (by rw [HL.out]; exact hlt)⟩
      obtain ⟨b, o, rfl, hbl, hc⟩ := H3.out k m hm
      have c0 := (hb.cell (p := ⟨b, o + k * 1 + 0, none⟩) hbl).trans (hc 0 _ rfl)
      simp only [Nat.add_zero, Nat.mul_one] at c0
      have HM := Lib.hid hm
      have HQ := Lib.hid hpk
      clear hc hm hpk
      cases p
      all_goals
        go_wp2_with fail
        refine (HP.out k m _ _ HM.out HQ.out hb).mono ?_
        rintro e w' ⟨rfl, hb2⟩
        have hb3 := hb.trans (hb2.mono hb.size)
        go_wp2
      · go_roundw
        case rel => exact ⟨k + 1, by omega, by go_num, hb3, any_take_succ HQ.out heq rfl⟩
        case measure => simp [intOf]; omega
      · go_ret
        exact ⟨ret_int (idxOf_at HQ.out heq rfl).symm, hb3⟩
    · go_wp2
      go_ret
      exact ⟨ret_int (idxOf_none (k := k) (by rw [HL.out]; omega) heq.out).symm, hb⟩

theorem hasRowT_c (g : Nat) (lb : Array Value) (ps : List Bool) (xs : List Sl) (v : Value) (w : World) (hl : ps.length = xs.length) (hx : RdT encL 1 w v xs)
    (hg : ∀ (args : Array Value) (w : World), (callFunc g args).run Tryz.prog w = .ok (.enter g args) w)
    (hp : ∀ (k : Nat) (m : Sl) (p : Bool) W, xs[k]? = some m → ps[k]? = some p → Below w.heap.size w W → Calls Tryz.prog g (#[slv m] ++ lb) W fun e W' => e = .returned (.bool p) ∧ Below W.heap.size W W') :
    Calls Tryz.prog 69 #[v, .func (.func g) #[] lb] w fun e w' =>
    e = .returned (.bool (ps.any id)) ∧ Below w.heap.size w w' := by
  have HL := Lib.hid hl
  have HG := Lib.hid hg
  have HP := Lib.hid hp
  clear hg hp hl
  have hid : decide (0 ≤ idxOf id ps) = ps.any id := by unfold idxOf; cases ps.any id <;> simp
  have HD := Lib.hid hid
  clear hid
  go_enter Tryz.func69, Tryz.ntmps69
  go_wp2_with (go_at_call 126; refine (idxRowT_c g lb ps xs v _ HL.out hx HG.out HP.out).mono ?_; rintro e w' ⟨rfl, hb⟩)
  go_ret
  exact ⟨ret_bool HD.out, hb⟩


def newB (xss : List (List Txt)) : Bool := decide (xss.length = 3) && !(xss.any fun xs => !rightsOk xs)
def envsOf (xss : List (List Txt)) : List Env := xss.map fun xs => ⟨xs, -1⟩
def nilK : Kern := ⟨[], [], [], []⟩
def newK (xss : List (List Txt)) : Kern := if newB xss then ⟨List.replicate 12 [0, 0, 0, 0], List.replicate 12 Info.zero, envsOf xss, []⟩ else nilK

theorem badList_c (xs : List Txt) (v : Value) (w : World) (hx : RdS w v xs) (hf : fitS xs) :
    Calls Tryz.prog 70 #[v] w fun e w' => e = .returned (.bool (!rightsOk xs)) ∧ Below w.heap.size w w' := by
  have HX := Lib.hid hx
  obtain ⟨a, c, rfl, h1, h2, -, h3⟩ := hx
  clear h1 h2 h3
  go_enter Tryz.func70, Tryz.ntmps70
  go_wp2_with fail
  refine (implRightsValid_c xs _ _ HX.out hf).mono ?_
  rintro e w' ⟨rfl, hb⟩
  go_wp2
  go_ret
  exact ⟨rfl, hb⟩

theorem Bun.litsN {α : Type} {enc : α → List Value} {K : Nat} {e t : TypeId} {z : α} {P : Program} {w0 w : World} {row : Option Nat} {rs : List Res} (h : Bun w0 row w rs) (a : Nat) (E : Elt P enc K e t z) (cs : Array Value) (xs : List α) (n : Nat) (hc : cs.toList = xs.flatMap enc) (hn : xs.length = n) (hb : n ≤ 1000000000) (ha : a = w.heap.size) :
    Bun w0 row (w.alloc (.cells cs e)) (Res.row enc K e (.slice (some ⟨a, 0, none⟩) n n) xs :: rs) := by subst ha; exact h.lits E cs xs n hc hn hb
theorem nil_foot {α : Type} (enc : α → List Value) (K : Nat) (e : TypeId) (xs : List α) : ∀ k, ¬ (Res.row enc K e (.slice none 0 0) xs).foot k := by
  intro k h
  have h2 : (Value.slice none 0 0).ownBlock = some k := h
  simp [Value.ownBlock] at h2

theorem mkFour (W : World) : (Instr.makeSlice 41 (.int .i64 4) (.int .i64 4)).run Tryz.prog W = .ok (.slice (some ⟨W.heap.size, 0, none⟩) 4 4) (W.alloc (.cells #[.int .i64 0, .int .i64 0, .int .i64 0, .int .i64 0] 3)) := by
  have h := run_make_row' (P := Tryz.prog) 41 3 (.int .i64 0) 8 Tryz.underlying41 (by kernel_rfl) rfl .i64 .i64 4 (by decide) (by decide) W
  rw [show madeCells #[Value.int .i64 0] 4 = #[.int .i64 0, .int .i64 0, .int .i64 0, .int .i64 0] by kernel_rfl] at h
  exact h

theorem Bun.nilK {w0 w : World} {row : Option Nat} {rs : List Res} (h : Bun w0 row w rs) : Bun w0 row w (KR (.slice none 0 0) (.slice none 0 0) (.slice none 0 0) (.slice none 0 0) [] [] nilK rs) := by
  have hn : ∀ k, ¬ (Value.slice none 0 0).ownBlock = some k := by intro k h; simp [Value.ownBlock] at h
  have h1 := h.free (Res.row Cac.enc 4 78 (.slice none 0 0) []) (World.ownsRow_nil _ _ _ _) hn
  have h2 : Bun w0 row w (rowR [] [] :: _) := h1.norows
  have h3 := h2.free (rowE (.slice none 0 0) [] []) (World.ownsRow_nil _ _ _ _) hn
  have h4 := h3.free (Res.row Info.enc 3 73 (.slice none 0 0) []) (World.ownsRow_nil _ _ _ _) hn
  have h5 := h4.norows (enc := encI) (K := 1) (e := 3)
  exact h5.free (Res.row encL 1 41 (.slice none 0 0) []) (World.ownsRow_nil _ _ _ _) hn

theorem mkEs_snoc {sls : List Sl} {envs : List Env} (h : sls.length = envs.length) (s : Sl) (x : Env) : mkEs (sls ++ [s]) (envs ++ [x]) = mkEs sls envs ++ [(s, x.rt)] := by
  unfold mkEs
  rw [List.zipWith_append h]; rfl
theorem envsOf_snoc (xss : List (List Txt)) (k : Nat) (xs : List Txt) (h : xss[k]? = some xs) : envsOf (xss.take (k + 1)) = envsOf (xss.take k) ++ [⟨xs, -1⟩] := by
  unfold envsOf
  rw [List.take_add_one, h]; simp

set_option maxHeartbeats 8000000 in
theorem implKernelNew_c (xss : List (List Txt)) (v : Value) (w : World) (hx : RdSS w v xss) (hf : ∀ xs ∈ xss, fitS xs) : Calls Tryz.prog 21 #[v] w fun e w' =>
    ∃ a b c d ss sls, e = .returned (.tuple #[.agg #[a, b, c, d], .bool (newB xss)]) ∧ Bun w none w' (KR a b c d ss sls (newK xss) []) := by
  have HX0 := Lib.hid hx
  obtain ⟨rows, hr, hin⟩ := hx
  have hr' := hr
  obtain ⟨a, c, rfl, h1, h2, -, h3⟩ := hr
  unfold maxLen at h2
  have H3 := Lib.hid h3
  have HIN := Lib.hid hin
  have HF := Lib.hid hf
  have hl := hin.1
  have HB0 := Lib.hid ((Bun.refl w none).alloc (.cells #[.slice none 0 0, .slice none 0 0, .slice none 0 0, .slice none 0 0] 34))
  by_cases h8 : rows.length = 3
  rotate_left
  · have h8g : ((rows.length : Int) != 3) = true := by rw [bne_iff_ne]; omega
    have H8 := Lib.hid (show newB xss = false by
      have : ¬ xss.length = 3 := by omega
      simp [newB, this])
    have H9 := Lib.hid (show newK xss = nilK by simp [newK, H8.out])
    obtain ⟨c0, c1, c2, c3, f0, f1, f2, f3, hz⟩ := blk4 (HB0.out.get 0 rfl)
    clear h8 hl hin hr' h3 hf
    go_enter Tryz.func21, Tryz.ntmps21
    go_wp2
    refine bodyPost_ret (v := .tuple #[.agg #[.slice none 0 0, .slice none 0 0, .slice none 0 0, .slice none 0 0], .bool false]) ?_ rfl ?_
    · simp [results, Tryz.results21, go_sem, hz, c0, c1, c2, c3]
    · rw [H8.out, H9.out]
      exact ⟨_, _, _, _, [], [], rfl, HB0.out.drop.nilK⟩
  have h8g : ((rows.length : Int) != 3) = false := by simp [h8]
  have h83 : xss.length = 3 := by omega
  have hp : ∀ (k : Nat) (m : Sl) (p : Bool) W, rows[k]? = some m → (xss.map fun xs => !rightsOk xs)[k]? = some p → Below (w.alloc (.cells #[.slice none 0 0, .slice none 0 0, .slice none 0 0, .slice none 0 0] 34)).heap.size (w.alloc (.cells #[.slice none 0 0, .slice none 0 0, .slice none 0 0, .slice none 0 0] 34)) W → Calls Tryz.prog 70 (#[slv m] ++ #[]) W fun e W' => e = .returned (.bool p) ∧ Below W.heap.size W W' := by
    intro k m p W hm hp hb
    obtain ⟨xs, hxs⟩ : ∃ xs, xss[k]? = some xs := ⟨_, List.getElem?_eq_getElem (by rw [← hl]; exact (List.getElem?_eq_some_iff.1 hm).1)⟩
    have := get_map hxs hp
    subst this
    exact badList_c xs (slv m) W ((hin.2 k m xs hm hxs).below (bnext (balloc w _) hb)) (hf xs (List.mem_of_getElem? hxs))
  have HE := enters_of (P := Tryz.prog) (f := 70) Tryz.func70 (by kernel_rfl) rfl
  have HC := Lib.hid (hasRowT_c 70 #[] (xss.map fun xs => !rightsOk xs) rows (.slice a rows.length c) _ (by rw [List.length_map]; exact hl.symm) (hr'.below (balloc w _)) HE hp)
  have HQ := Lib.hid (show newB xss = !(xss.any fun xs => !rightsOk xs) by simp [newB, h83])
  generalize hq : (xss.any fun xs => !rightsOk xs) = q at HQ
  have HQ2 := Lib.hid hq
  have HRT := Lib.hid (fun (hq0 : q = false) (xs : List Txt) (h : xs ∈ xss) => (show rightsOk xs = true by rw [hq0, List.any_eq_false] at hq; simpa using hq xs h))
  rw [h8] at h1 HC ⊢
  have H83 := Lib.hid h83
  have H8R := Lib.hid h8
  clear HE hp h8 hl hin hr' h3 hf hq h83 h8g
  cases q
  rotate_left
  · have H8 := Lib.hid (show newB xss = false by rw [HQ.out]; rfl)
    have H9 := Lib.hid (show newK xss = nilK by simp [newK, H8.out])
    go_enter Tryz.func21, Tryz.ntmps21
    go_wp2_with fail
    refine HC.out.mono ?_
    rintro e w1 ⟨rfl, hb⟩
    rw [any_map_id, HQ2.out]
    have HB1 := Lib.hid (HB0.out.call hb)
    obtain ⟨c0, c1, c2, c3, f0, f1, f2, f3, hz⟩ := blk4 (HB1.out.get 0 rfl)
    clear hb
    go_wp2
    refine bodyPost_ret (v := .tuple #[.agg #[.slice none 0 0, .slice none 0 0, .slice none 0 0, .slice none 0 0], .bool false]) ?_ rfl ?_
    · simp [results, Tryz.results21, go_sem, hz, c0, c1, c2, c3]
    · rw [H8.out, H9.out]
      exact ⟨_, _, _, _, [], [], rfl, ((((HB1.out.put 0 _).put 1 _).put 2 _).put 3 _).drop.nilK⟩
  have H8 := Lib.hid (show newB xss = true by rw [HQ.out]; rfl)
  have H9 := Lib.hid (show newK xss = ⟨List.replicate 12 [0, 0, 0, 0], List.replicate 12 Info.zero, envsOf xss, []⟩ by simp [newK, H8.out])
  go_enter Tryz.func21, Tryz.ntmps21
  go_wp2_with fail
  refine HC.out.mono ?_
  rintro e w1 ⟨rfl, hb⟩
  rw [any_map_id, HQ2.out]
  have HB1 := Lib.hid (HB0.out.call hb)
  clear hb HC HQ HQ2 HB0
  go_wp2_with (refine make_T eltInfo rfl _ _ rfl 12 rfl rfl (by omega) ?_; intro w2 ho hb2; have H2 := Lib.hid ((HB1.out.addT ho hb2).alloc (.cells #[.slice none 0 0, .slice (some ⟨w1.heap.size, 0, none⟩) 12 12, .slice none 0 0, .slice none 0 0] 34)); clear ho hb2)
  clear HB1
  go_wp2
  obtain ⟨U, hU⟩ : ∃ U, U = Value.slice (some ⟨w1.heap.size, 0, none⟩) 12 12 := ⟨_, rfl⟩
  obtain ⟨B, hB⟩ : ∃ B, B = w2.heap.size := ⟨_, rfl⟩
  obtain ⟨R, hR⟩ : ∃ R, R = w.heap.size := ⟨_, rfl⟩
  rw [← hU, ← hB, ← hR] at H2 ⊢
  have hBR : ¬ B = R := by
    intro he
    have h1 := List.pairwise_cons.1 H2.out.apart
    exact h1.1 _ (List.mem_cons_of_mem _ (List.mem_cons_self ..)) B rfl he
  have HBR := Lib.hid hBR
  clear hU hB hR hBR
  go_loopw [17] (fun i wr => ∃ (j : Nat) (mv : Value) (ss : List Sl), j ≤ 12 ∧ i = .int .i64 j ∧ Bun w none wr [Res.blk B (.cells #[mv, U, .slice none 0 0, .slice none 0 0] 34), Res.row encL 1 41 mv ss, Res.rows encI 1 3 ss (List.replicate j [0, 0, 0, 0]), Res.row Info.enc 3 73 U (List.replicate 12 Info.zero), Res.blk R (.cells #[.slice none 0 0, .slice none 0 0, .slice none 0 0, .slice none 0 0] 34)]) (fun i _ => 12 - (intOf i).toNat)
  case atStart => exact ⟨0, .slice none 0 0, [], Nat.zero_le _, rfl, ((H2.out.norows.free (Res.row encL 1 41 (.slice none 0 0) []) (World.ownsRow_nil _ _ _ _) (nil_foot _ _ _ _)).front 2 rfl)⟩
  case round =>
    obtain ⟨j, mv, ss, hj, rfl, hb⟩ := hrel
    have HB := Lib.hid hb
    clear hb H2
    obtain ⟨k0, k1, k2, k3, g0, g1, g2, g3, kz⟩ := blk4 (HB.out.get 0 rfl)
    by_cases hlt : j < 12
    · have hmk := mkFour
      have HSL := Lib.hid ((show InO encI 1 3 0 wr.heap.size wr ss (List.replicate j [0, 0, 0, 0]) from HB.out.get 2 rfl).len.trans (by simp : _ = j))
      have H5 := Lib.hid ((HB.out.drew.lits eltInt #[.int .i64 0, .int .i64 0, .int .i64 0, .int .i64 0] [0, 0, 0, 0] 4 rfl rfl (by omega)).litsN (wr.heap.size + 1) eltSl #[.slice (some ⟨wr.heap.size, 0, none⟩) 4 4] [(some ⟨wr.heap.size, 0, none⟩, 4, 4)] 1 rfl rfl (by omega) (by simp))
      obtain ⟨p0, -, -, -, -, -, -, -, -⟩ := blk4 (H5.out.get 2 rfl)
      go_wp2
      go_region_law (first | (refine step_t eltSl (by rfl) _ _ (by rfl) mv _ [(some ⟨wr.heap.size, 0, none⟩, 4, 4)] (by rfl) (by rfl) (H5.out.front 3 rfl) (H5.out.rd 0 rfl encL_len) (by have := HSL.out; simp only [List.length_cons, List.length_nil]; omega) ?_; intro v3 w3 h3 hnil3; obtain ⟨⟨sa, sn, sc⟩, rfl⟩ := (h3.rd 0 rfl encL_len).sl; simp only [slv] at h3 ⊢; obtain ⟨q0, q1, q2, q3, r0, r1, r2, r3, rz⟩ := blk4 (h3.get 3 rfl); have H6 := Lib.hid h3; clear h3 hnil3))
      all_goals
        have h7 := (((((((((H6.out.front 3 rfl).put 0 (.slice sa sn sc)).rm 2).front 3 rfl).front 3 rfl).snoc (s := (some ⟨wr.heap.size, 0, none⟩, 4, 4)))).front 2 rfl).front 2 rfl)
        rw [show List.replicate j [(0 : Int), 0, 0, 0] ++ [[0, 0, 0, 0]] = List.replicate (j + 1) [0, 0, 0, 0] from (List.replicate_succ' (n := j) (a := [(0 : Int), 0, 0, 0])).symm] at h7
        have H7 := Lib.hid h7
        clear H6 H5 HB h7 q0 q1 q2 q3 r0 r1 r2 r3 k0 k1 k2 k3 g0 g1 g2 g3 p0 hmk
        go_wp2
        go_roundw
        case rel => exact ⟨j + 1, _, _, by omega, by go_num, H7.out⟩
        case measure => simp [intOf]; omega
    · obtain rfl : j = 12 := by omega
      clear k0 k1 k2 k3 g0 g1 g2 g3 kz
      go_wp2
      go_loopw [28] (fun i wr => ∃ (k : Nat) (cv : Value) (sls : List Sl), k ≤ 3 ∧ i = .int .i64 k ∧ Bun w none wr [Res.blk B (.cells #[mv, U, cv, .slice none 0 0] 34), rowE cv sls (envsOf (xss.take k)), rowR sls (envsOf (xss.take k)), Res.row encL 1 41 mv ss, Res.rows encI 1 3 ss (List.replicate 12 [0, 0, 0, 0]), Res.row Info.enc 3 73 U (List.replicate 12 Info.zero), Res.blk R (.cells #[.slice none 0 0, .slice none 0 0, .slice none 0 0, .slice none 0 0] 34)]) (fun i _ => 3 - (intOf i).toNat)
      case atStart => exact ⟨0, .slice none 0 0, [], Nat.zero_le _, rfl, ((HB.out.norows (enc := encS) (K := 1) (e := 9)).free (rowE (.slice none 0 0) [] []) (World.ownsRow_nil _ _ _ _) (nil_foot _ _ _ _)).front 2 rfl⟩
      case round =>
        obtain ⟨k, cv, sls, hk, rfl, hb⟩ := hrel
        have HB2 := Lib.hid hb
        clear hb HB
        obtain ⟨k0, k1, k2, k3, g0, g1, g2, g3, kz⟩ := blk4 (HB2.out.get 0 rfl)
        by_cases hlt2 : k < 3
        · obtain ⟨xs, hxs⟩ : ∃ xs, xss[k]? = some xs := ⟨_, List.getElem?_eq_getElem (by have := H83.out; omega)⟩
          obtain ⟨s0, hrow, hrd⟩ := HIN.out.get hxs
          obtain ⟨b, o, rfl, hbl, hc⟩ := H3.out k s0 hrow
          have c0 := (HB2.out.below.cell (p := ⟨b, o + k * 1 + 0, none⟩) hbl).trans (hc 0 _ rfl)
          simp only [Nat.add_zero, Nat.mul_one] at c0
          have hk0 : (0 : Int) ≤ (k : Int) := by omega
          have hk1 : (k : Int) < 3 := by omega
          have HRD := Lib.hid (hrd.below HB2.out.below)
          have HXS := Lib.hid hxs
          have HSN := Lib.hid (envsOf_snoc xss k xs hxs)
          have hel : (envsOf (xss.take k)).length = k := by unfold envsOf; rw [List.length_map, List.length_take]; have := H83.out; omega
          have hsl : sls.length = k := by have h9 := (show InO encS 1 9 0 _ _ sls ((envsOf (xss.take k)).map (·.rg)) from HB2.out.get 2 rfl).len; rw [List.length_map, hel] at h9; exact h9
          have HEL := Lib.hid hel
          have HSL2 := Lib.hid hsl
          clear hc hrow hrd hxs hel hsl
          have HXL := Lib.hid (show xs.length ≤ 2000000 by have := rightsOk_len (HRT.out (by trivial) xs (List.mem_of_getElem? HXS.out)); omega)
          go_wp2
          go_region_law (first
            | (go_simp; go_at_call 71; refine (cloneStr_c xs (slv s0) _ (HRD.out.below (bref _).drew) HXL.out).mono ?_; rintro e wc ⟨u, rfl, ho, hb⟩; obtain ⟨⟨ua, un, uc⟩, rfl⟩ := (ho.rd encS_len).sl; have HC := Lib.hid (HB2.out.drew.addT ho hb); obtain ⟨-, -, l2, -, -, -, -, -, -⟩ := blk4 (HC.out.get 1 rfl); have H5 := Lib.hid (HC.out.lits eltEnv #[.slice ua un uc, .int .i64 (-1)] [((ua, un, uc), -1)] 1 rfl rfl (by omega)); obtain ⟨-, -, m2, -, -, -, -, -, -⟩ := blk4 (H5.out.get 2 rfl); clear ho hb; simp only [slv] at HC H5 ⊢)
            | (refine step_t eltEnv (by rfl) _ _ (by rfl) cv _ [((ua, un, uc), -1)] (by rfl) (by rfl) (H5.out.front 3 rfl) (H5.out.rd 0 rfl encE_len) (by rw [mkEs_len (by rw [HSL2.out, HEL.out]), HEL.out]; simp only [List.length_cons, List.length_nil]; omega) ?_; intro v3 w3 h3 hnil3; obtain ⟨⟨sa, sn, sc⟩, rfl⟩ := (h3.rd 0 rfl encE_len).sl; simp only [slv] at h3 ⊢; obtain ⟨q0, q1, q2, q3, r0, r1, r2, r3, rz⟩ := blk4 (h3.get 3 rfl); have H6 := Lib.hid h3; clear h3 hnil3))
          all_goals
            have e1 : mkEs (sls ++ [(ua, un, uc)]) (envsOf (xss.take (k + 1))) = mkEs sls (envsOf (xss.take k)) ++ [((ua, un, uc), -1)] := by rw [HSN.out]; exact mkEs_snoc (by rw [HSL2.out, HEL.out]) _ _
            have e2 : (envsOf (xss.take (k + 1))).map (·.rg) = (envsOf (xss.take k)).map (·.rg) ++ [xs] := by rw [HSN.out]; simp
            have E1 := Lib.hid e1
            have E2 := Lib.hid e2
            have a1 := (H6.out.front 3 rfl).put 2 (.slice sa sn sc)
            have a2 := ((a1.rm 2).front 3 rfl).front 3 rfl
            have a3 := ((a2.snoc (s := (ua, un, uc))).front 2 rfl).front 2 rfl
            have H7 := Lib.hid a3
            clear a1 a2 a3
            clear H6 H5 HC HB2 e1 e2 q0 q1 q2 q3 r0 r1 r2 r3 k0 k1 k2 k3 g0 g1 g2 g3 l2 m2
            go_wp2
            go_roundw
            case rel => exact ⟨k + 1, by omega, by go_num, .slice sa sn sc, sls ++ [(ua, un, uc)], by unfold rowE rowR; rw [E1.out, E2.out]; exact H7.out⟩
            case measure => simp [intOf]; omega
        · obtain rfl : k = 3 := by omega
          have HT3 := Lib.hid (show xss.take 3 = xss from List.take_of_length_le (by have := H83.out; omega))
          obtain ⟨⟨ma, mn, mc⟩, rfl⟩ := (HB2.out.rd 3 rfl encL_len).sl
          obtain ⟨⟨ca, cn, cc⟩, rfl⟩ := (HB2.out.rd 1 rfl encE_len).sl
          obtain ⟨⟨ia, iN, ic⟩, rfl⟩ := (HB2.out.rd 5 rfl Info.enc_len).sl
          simp only [slv] at HB2 k0 k1 k2 ⊢
          obtain ⟨p0, p1, p2, p3, f0, f1, f2, f3, pz⟩ := blk4 (HB2.out.get 6 rfl)
          have a1 := (HB2.out.front 6 rfl).put 0 (.slice ma mn mc)
          have a2 := (a1.put 1 (.slice ia iN ic)).put 2 (.slice ca cn cc)
          have h8 := a2.put 3 (.slice none 0 0)
          obtain ⟨z0, z1, z2, z3, -, -, -, -, zz⟩ := blk4 (h8.get 0 rfl)
          have a3 := h8.drop.drop.free (Res.row Cac.enc 4 78 (.slice none 0 0) []) (World.ownsRow_nil _ _ _ _) (nil_foot _ _ _ _)
          have a4 := (a3.front 2 rfl).front 2 rfl
          have h9 := ((a4.front 5 rfl).front 5 rfl).front 5 rfl
          have H8' := Lib.hid h9
          have Z := Lib.hid (And.intro z0 (And.intro z1 (And.intro z2 (And.intro z3 zz))))
          clear a1 a2 a3 a4 h8 h9 z0 z1 z2 z3 zz
          go_wp2
          obtain ⟨z0, z1, z2, z3, zz⟩ := Z.out
          refine bodyPost_ret (v := .tuple #[.agg #[.slice ma mn mc, .slice ia iN ic, .slice ca cn cc, .slice none 0 0], .bool true]) ?_ rfl ?_
          · simp [results, Tryz.results21, go_sem, z0, z1, z2, z3, zz]
          · rw [H8.out, H9.out, ← HT3.out]
            first | exact ⟨_, _, _, _, rfl, ss, sls, H8'.out⟩ | exact ⟨_, _, _, _, ss, sls, rfl, H8'.out⟩
end Go.Proofs.YtojknkpjnchchaaGreatDoor
