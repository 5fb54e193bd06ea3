/- Contracts of the small functions on what is known of a frame. No conditions but the readings of the arguments. Contracts of the helpers on what is known of one frame. No conditions but the sizes of the texts. Contracts of the helpers' loops over what is known of frames. No conditions but the readings of the arguments. Contracts of the marks over what is known of frames, of its sizes, and of the library's loops over it. No conditions but the readings of the arguments. What the statements on frames ask of the plain functions. No conditions. -/
import Derived.Test.YtojknkpjnchchaaGreatDoorGStr
import Derived.Test.YtojknkpjnchchaaGreatDoorGRight
import Derived.Test.YtojknkpjnchchaaGreatDoorGLib
namespace Go.Proofs.YtojknkpjnchchaaGreatDoor
open Go.ChangeShapes Go.WideShapes Go.RowKit
set_option linter.all false
set_option maxRecDepth 100000
attribute [local go_sem ↓] Go.wp_at_zero Go.wp_at_succ

structure Info where
  kd : Int
  gd : Txt
  rf : Int
deriving DecidableEq
def Info.enc (m : Info) : List Value := [.int .i64 m.kd, tv m.gd, .int .i64 m.rf]
def Info.val (m : Info) : Value := .agg #[.int .i64 m.kd, tv m.gd, .int .i64 m.rf]
theorem Info.enc_len (m : Info) : m.enc.length = 3 := rfl
abbrev RdF := RdT Info.enc 3
abbrev OwFr := OwT Info.enc 3 73
theorem infoInfo : (Tryz.prog.info? 73).map (fun i => (i.zero, i.size, i.bytes)) = some (some (.agg #[.int .i64 0, .string ⟨#[]⟩, .int .i64 0]), 3, 32) := by kernel_rfl
def Info.zero : Info := ⟨0, [], 0⟩
theorem eltInfo : Elt Tryz.prog Info.enc 3 73 30 Info.zero := by
  obtain ⟨i0, hi, hz0, hz1, hz2⟩ := info_parts infoInfo
  refine ⟨Info.enc_len, by decide, ?_, Tryz.underlying30, i0, _, hi, hz0, hz1, by omega, rfl⟩
  intro x u hu
  simp [Info.enc] at hu
  rcases hu with rfl | rfl | rfl <;> rfl

def infoOk (x : Info) : Bool := decide (x = Info.zero) || (btw 1 x.kd 3 && rightOk x.gd && btw 0 x.rf 50)
def infosOk (xs : List Info) : Bool := decide (xs.length = 12) && xs.all infoOk

theorem eqlInfo (m p : Info) (w : World) : (binOp .eql 73 (.agg #[.int .i64 m.kd, tv m.gd, .int .i64 m.rf]) (.agg #[.int .i64 p.kd, tv p.gd, .int .i64 p.rf])).run Tryz.prog w = .ok (.bool (decide (m = p))) w := by
  have u3 := Tryz.underlying3
  have a3 := Tryz.isAgg3
  have z3 := Tryz.sizeOf3
  have u9 := Tryz.underlying9
  have a9 := Tryz.isAgg9
  have z9 := Tryz.sizeOf9
  have hS : Tryz.prog.underlying 73 = some (.struct (Tryz.prog.fieldsOf 73)) := by kernel_rfl
  have hp : Tryz.prog.stoodInHeld 73 = false := by kernel_rfl
  rw [run_eql_struct, show (10000 : Nat) = 9999 + 1 from rfl, run_equalIn_agg w 9999 73 _ _ hS hp]
  simp only [Program.fieldsOf, Tryz.underlying73]
  obtain ⟨a, b, c⟩ := m
  obtain ⟨a', b', c'⟩ := p
  simp only [Info.mk.injEq]
  go_simp
  by_cases h1 : a = a' <;> by_cases h2 : b = b' <;> by_cases h3 : c = c' <;> simp [h1, h2, h3]
theorem neqInfo (m p : Info) (w : World) : (binOp .neq 73 (.agg #[.int .i64 m.kd, tv m.gd, .int .i64 m.rf]) (.agg #[.int .i64 p.kd, tv p.gd, .int .i64 p.rf])).run Tryz.prog w = .ok (.bool (!decide (m = p))) w := by
  have u3 := Tryz.underlying3
  have a3 := Tryz.isAgg3
  have z3 := Tryz.sizeOf3
  have u9 := Tryz.underlying9
  have a9 := Tryz.isAgg9
  have z9 := Tryz.sizeOf9
  have hS : Tryz.prog.underlying 73 = some (.struct (Tryz.prog.fieldsOf 73)) := by kernel_rfl
  have hp : Tryz.prog.stoodInHeld 73 = false := by kernel_rfl
  rw [run_neq_struct, show (10000 : Nat) = 9999 + 1 from rfl, run_equalIn_agg w 9999 73 _ _ hS hp]
  simp only [Program.fieldsOf, Tryz.underlying73]
  obtain ⟨a, b, c⟩ := m
  obtain ⟨a', b', c'⟩ := p
  simp only [Info.mk.injEq]
  go_simp
  by_cases h1 : a = a' <;> by_cases h2 : b = b' <;> by_cases h3 : c = c' <;> simp [h1, h2, h3]
theorem guardInfo : Tryz.prog.eqGuardType Tryz.prog.depth 73 = false := by kernel_rfl
end Go.Proofs.YtojknkpjnchchaaGreatDoor
namespace Go.Proofs.YtojknkpjnchchaaGreatDoor
open Go.ChangeShapes Go.WideShapes Go.RowKit
set_option linter.all false
set_option maxRecDepth 100000
attribute [local go_sem ↓] Go.wp_at_zero Go.wp_at_succ

theorem eqInfo_c (m n : Info) (w : World) : Calls Tryz.prog 115 #[m.val, n.val] w fun e w' => e = .returned (.bool (decide (m = n))) ∧ Below w.heap.size w w' := by
  obtain ⟨a, b, c⟩ := m
  obtain ⟨a', b', c'⟩ := n
  unfold Info.val
  dsimp only
  simp only [Info.mk.injEq]
  by_cases h1 : a = a' <;> by_cases h2 : b = b' <;> by_cases h3 : c = c'
  all_goals
    have H1 := Lib.hid h1
    have H2 := Lib.hid h2
    have H3 := Lib.hid h3
    first
    | have g1 : (a == a') = true := beq_iff_eq.2 h1
    | have g1 : (a == a') = false := beq_eq_false_iff_ne.2 h1
    first
    | have g2 : (b == b') = true := beq_iff_eq.2 h2
    | have g2 : (b == b') = false := beq_eq_false_iff_ne.2 h2
    first
    | have g3 : (c == c') = true := beq_iff_eq.2 h3
    | have g3 : (c == c') = false := beq_eq_false_iff_ne.2 h3
    clear h1 h2 h3
    go_enter Tryz.func115, Tryz.ntmps115
    go_wp2
    go_ret
    exact ⟨ret_bool (by have h1 := H1.out; have h2 := H2.out; have h3 := H3.out; simp [h1, h2, h3]), by go_grown⟩

theorem toInfo_c (m : Info) (w : World) : Calls Tryz.prog 92 #[m.val] w fun e w' => e = .returned m.val ∧ Below w.heap.size w w' := by
  obtain ⟨a, b, c⟩ := m
  unfold Info.val
  dsimp only
  go_enter Tryz.func92, Tryz.ntmps92
  go_wp2
  go_returns
  exact ⟨rfl, by go_grown⟩

theorem szInfo_c (m : Info) (left : Int) (w : World) (hm : m.gd.length ≤ 9223372036854775807) (hl : 0 ≤ left ∧ left ≤ 1048576) : Calls Tryz.prog 80 #[m.val, .int .i64 left] w fun e w' => e = .returned (.int .i64 (szv left m.gd.length)) ∧ Below w.heap.size w w' := by
  obtain ⟨a, b, c⟩ := m
  unfold Info.val
  dsimp only at hm ⊢
  have hsz := tv_size b
  by_cases hlt : left < (b.length : Int)
  · have HS := Lib.hid (szv_neg hlt)
    go_enter Tryz.func80, Tryz.ntmps80
    go_wp2
    go_ret
    exact ⟨ret_int HS.out.symm, by go_grown⟩
  · have HS := Lib.hid (szv_pos (left := left) (n := (b.length : Int)) (by omega))
    go_enter Tryz.func80, Tryz.ntmps80
    go_wp2
    go_ret
    exact ⟨ret_int HS.out.symm, by go_grown⟩
end Go.Proofs.YtojknkpjnchchaaGreatDoor
namespace Go.Proofs.YtojknkpjnchchaaGreatDoor
open Go.ChangeShapes Go.WideShapes Go.RowKit
set_option linter.all false
set_option maxRecDepth 100000
attribute [local go_sem ↓] Go.wp_at_zero Go.wp_at_succ

set_option maxHeartbeats 1000000 in
theorem eqInfoS_c (xs ys : List Info) (v u : Value) (w : World) (hx : RdF w v xs) (hy : RdF w u ys) : Calls Tryz.prog 53 #[v, u] w fun e w' =>
    e = .returned (.bool (decide (xs = ys))) ∧ Below w.heap.size w w' := by
  obtain ⟨a, c, rfl, h1, h2, -, h3⟩ := hx
  obtain ⟨a', c', rfl, h1', h2', -, h3'⟩ := hy
  unfold maxLen at h2 h2'
  by_cases hn : xs.length = ys.length
  · have HN := Lib.hid hn
    obtain ⟨n, hn1⟩ : ∃ n, n = xs.length := ⟨_, rfl⟩
    have hn2 : ys.length = n := by omega
    rw [← hn1, hn2]
    have HN1 := Lib.hid hn1
    have HN2 := Lib.hid hn2
    have hnc : n ≤ c := by omega
    clear hn hn1 hn2 h1 h1'
    have H3 := Lib.hid h3
    have H3' := Lib.hid h3'
    clear h3 h3'
    go_enter Tryz.func53, Tryz.ntmps53
    go_wp2
    go_loopw [5] (fun i wr => ∃ k : Nat, k ≤ n ∧ i = .int .i64 k ∧ Below w.heap.size w wr ∧ Hid (xs.take k = ys.take k)) (fun i _ => n - (intOf i).toNat)
    case atStart => exact ⟨0, Nat.zero_le _, rfl, Below.refl _ _, rfl⟩
    case round =>
      obtain ⟨k, hk, rfl, hb, heq⟩ := hrel
      by_cases hlt : k < n
      · obtain ⟨m, hm⟩ : ∃ m, xs[k]? = some m := ⟨_, List.getElem?_eq_getElem (by have := HN1.out; omega)⟩
        obtain ⟨p, hp⟩ : ∃ m, ys[k]? = some m := ⟨_, List.getElem?_eq_getElem (by have := HN2.out; omega)⟩
        obtain ⟨b, o, rfl, hbl, hc⟩ := H3.out k m hm
        obtain ⟨b', o', rfl, hbl', hc'⟩ := H3'.out k p hp
        have c0 := (hb.cell (p := ⟨b, o + k * 3 + 0, none⟩) hbl).trans (hc 0 _ rfl)
        have c1 := (hb.cell (p := ⟨b, o + k * 3 + 1, none⟩) hbl).trans (hc 1 _ rfl)
        have c2 := (hb.cell (p := ⟨b, o + k * 3 + 2, none⟩) hbl).trans (hc 2 _ rfl)
        have c3 := (hb.cell (p := ⟨b', o' + k * 3 + 0, none⟩) hbl').trans (hc' 0 _ rfl)
        have c4 := (hb.cell (p := ⟨b', o' + k * 3 + 1, none⟩) hbl').trans (hc' 1 _ rfl)
        have c5 := (hb.cell (p := ⟨b', o' + k * 3 + 2, none⟩) hbl').trans (hc' 2 _ rfl)
        simp only [Nat.add_zero] at c0 c3
        have HM := Lib.hid hm
        have HP := Lib.hid hp
        clear hc hc' hm hp
        by_cases hmp : m = p
        all_goals
          have HE := Lib.hid hmp
          first | have he := Lib.hid (decide_eq_false hmp) | have he := Lib.hid (decide_eq_true hmp)
          clear hmp
          go_wp2
          go_still_tail 8, (by kernel_rfl)
          change wpList _ _ _ _ _ wr.drew
          go_wp2_with (go_at_call 115; refine (eqInfo_c m p _).mono ?_; rintro e w' ⟨rfl, hb2⟩; rw [he.out]; have hb3 := hb.drew.trans (hb2.mono hb.size))
        · go_roundw
          case rel => exact ⟨k + 1, by omega, by go_num, hb3, take_eq_succ HM.out HP.out heq HE.out⟩
          case measure => simp [intOf]; omega
        · go_ret
          exact ⟨ret_bool (by rw [eq_comm, decide_eq_false_iff_not]; exact ne_of_get HM.out HP.out HE.out), hb3⟩
      · go_wp2
        go_ret
        refine ⟨ret_bool ?_, hb⟩
        have h1 := HN1.out
        have h2 := HN2.out
        have h3 : k = n := by omega
        have h4 := heq.out
        rw [List.take_of_length_le (by omega), List.take_of_length_le (by omega)] at h4
        simp [h4]
  · go_enter Tryz.func53, Tryz.ntmps53
    go_wp2
    go_ret
    exact ⟨ret_bool (by rw [eq_comm, decide_eq_false_iff_not]; rintro rfl; exact hn rfl), Below.refl _ _⟩

theorem toInfoS_c (xs : List Info) (v : Value) (w : World) (hx : RdF w v xs) (hl : xs.length ≤ 1048576) : Calls Tryz.prog 38 #[v] w fun e w' =>
    ∃ u, e = .returned u ∧ OwFr w.heap.size w' u xs ∧ Below w.heap.size w w' := by
  obtain ⟨a, c, rfl, h1, h2, -, h3⟩ := hx
  unfold maxLen at h2
  obtain ⟨n, hn1⟩ : ∃ n, n = xs.length := ⟨_, rfl⟩
  rw [← hn1] at h1 hl ⊢
  have HN := Lib.hid hn1
  have H3 := Lib.hid h3
  clear h3 hn1
  obtain ⟨i0, hi, hz0, hz1, hz2⟩ := info_parts infoInfo
  go_enter Tryz.func38, Tryz.ntmps38
  go_wp2_with (refine wpList_make_full _ rfl _ _ 30 rfl w.heap.size 73 i0 (.agg #[.int .i64 0, .string ⟨#[]⟩, .int .i64 0]) 3 Tryz.underlying30 hi hz0 hz1 .i64 .i64 _ _ n rfl rfl rfl rfl ?c1 ?c2 ?c3 ?_)
  case c1 => rw [hz2]; omega
  case c2 => unfold maxLen; omega
  case c3 => exact Nat.le_refl _
  · intro w1 hown hg
    have hb1 := grown_below hg
    have hs1 := hg.size
    rw [made_flat Info.enc 3 Info.enc_len (by decide) Info.zero #[.int .i64 0, .string ⟨#[]⟩, .int .i64 0] rfl n] at hown
    have ho : OwFr w.heap.size w1 (.slice (some ⟨w.heap.size, 0, none⟩) n n) (filled Info.zero xs 0) := by
      unfold OwFr OwT; rw [filled_zero, ← HN.out]; simpa using hown
    clear hown hg
    go_wp2
    go_loopw [4] (fun i wr => ∃ k : Nat, k ≤ n ∧ i = .int .i64 k ∧ Below w.heap.size w wr ∧ OwFr w.heap.size wr (.slice (some ⟨w.heap.size, 0, none⟩) n n) (filled Info.zero xs k)) (fun i _ => n - (intOf i).toNat)
    case atStart => exact ⟨0, Nat.zero_le _, rfl, hb1, ho⟩
    case round =>
      obtain ⟨k, hk, rfl, hb, hok⟩ := hrel
      obtain ⟨e0, e1, e2, e3, e4, hfz, hcs⟩ := hok.open Info.enc_len
      by_cases hlt : k < n
      · obtain ⟨m, hm⟩ : ∃ m, xs[k]? = some m := ⟨_, List.getElem?_eq_getElem (by have := HN.out; omega)⟩
        obtain ⟨z, hz⟩ : ∃ z, (filled Info.zero xs k)[k]? = some z := ⟨_, List.getElem?_eq_getElem (by omega)⟩
        obtain ⟨b, o, rfl, hbl, hc⟩ := H3.out k m hm
        have c0 := (hb.cell (p := ⟨b, o + k * 3 + 0, none⟩) hbl).trans (hc 0 _ rfl)
        have c1 := (hb.cell (p := ⟨b, o + k * 3 + 1, none⟩) hbl).trans (hc 1 _ rfl)
        have c2 := (hb.cell (p := ⟨b, o + k * 3 + 2, none⟩) hbl).trans (hc 2 _ rfl)
        have d0 := hcs k z 0 _ hz rfl
        have d1 := hcs k z 1 _ hz rfl
        have d2 := hcs k z 2 _ hz rfl
        have f0 := hfz (k * 3)
        have f1 := hfz (k * 3 + 1)
        have f2 := hfz (k * 3 + 2)
        simp only [Nat.add_zero] at c0 d0
        have HM := Lib.hid hm
        have HOK := Lib.hid hok
        have HE0 := Lib.hid e0
        clear hc hm hz hcs hfz hok e0
        go_wp2_with (go_at_call 92; refine (toInfo_c m _).mono ?_; rintro e w' ⟨rfl, hb2⟩; have c0' := (hb2.cell (p := ⟨w.heap.size, k * 3, none⟩) e2).trans d0; have c1' := (hb2.cell (p := ⟨w.heap.size, k * 3 + 1, none⟩) e2).trans d1; have c2' := (hb2.cell (p := ⟨w.heap.size, k * 3 + 2, none⟩) e2).trans d2; have f0' := (hb2.frozen (p := ⟨w.heap.size, k * 3, none⟩) e2).trans f0; have f1' := (hb2.frozen (p := ⟨w.heap.size, k * 3 + 1, none⟩) e2).trans f1; have f2' := (hb2.frozen (p := ⟨w.heap.size, k * 3 + 2, none⟩) e2).trans f2; unfold Info.val)
        have hok2 := (HOK.out.below hb2).stored3 Info.enc_len k m _ _ _ (by have := HE0.out; omega) rfl
        rw [filled_step _ _ _ _ HM.out] at hok2
        have hb4 : Below w.heap.size w w' := hb.trans (hb2.mono hb.size)
        go_roundw
        case rel => exact ⟨k + 1, by omega, by go_num, ((hb4.setCell (Nat.le_refl _) _).setCell (Nat.le_refl _) _).setCell (Nat.le_refl _) _, hok2⟩
        case measure => simp [intOf]; omega
      · go_wp2
        go_ret
        refine ⟨_, rfl, ?_, hb⟩
        have h1 := HN.out
        have h3 : k = xs.length := by omega
        rw [h3, filled_all] at hok
        exact hok


/-- The marks that a loop lays: three an element, from q on. -/
def markF (q : Int) (k : Nat) : Info := ⟨q + 3 * k, mtext (q + 3 * k + 1), q + 3 * k + 1 + 1⟩
def marksF (q : Int) (n : Nat) : List Info := (List.range n).map (markF q)
theorem marksF_len (q : Int) (n : Nat) : (marksF q n).length = n := by simp [marksF]
theorem marksF_get (q : Int) (n k : Nat) (h : k < n) : (marksF q n)[k]? = some (markF q k) := by simp [marksF, h]

theorem OwT.storeF {α : Type} {enc : α → List Value} {K e base g n c k j : Nat} {w : World} {xs : List α} {x x' : α} {u : Value} (h : OwT enc K e base w (.slice (some ⟨g, 0, none⟩) n c) xs) (hK : ∀ x, (enc x).length = K) (hx : xs[k]? = some x) (hj : j < K) (he : enc x' = (enc x).set j u) :
    OwT enc K e base (w.setCell ⟨g, k * K + j, none⟩ u) (.slice (some ⟨g, 0, none⟩) n c) (xs.set k x') := by
  have hn := (OwT.open hK h).1
  subst hn
  have s1 := (World.ownsRow.stored h (k * K + j) u).1
  rw [flatMap_setF enc hK xs k x x' j u hx hj he] at s1
  unfold OwT; rw [List.length_set]; exact s1
end Go.Proofs.YtojknkpjnchchaaGreatDoor
namespace Go.Proofs.YtojknkpjnchchaaGreatDoor
open Go.ChangeShapes Go.WideShapes Go.RowKit
set_option linter.all false
set_option maxRecDepth 100000
attribute [local go_sem ↓] Go.wp_at_zero Go.wp_at_succ

def infSum (xs : List Info) : Nat := strSum (xs.map Info.gd)
theorem infSum_take {xs : List Info} {k : Nat} {x : Info} (h : xs[k]? = some x) : infSum (xs.take (k + 1)) = infSum (xs.take k) + x.gd.length := by
  unfold infSum
  rw [List.map_take, List.map_take]
  exact strSum_take (by rw [List.getElem?_map, h]; rfl)
theorem infSum_take_le (xs : List Info) (k : Nat) : infSum (xs.take k) ≤ infSum xs := by
  unfold infSum
  rw [List.map_take]
  exact strSum_take_le _ _
theorem infSum_all {xs : List Info} {k : Nat} (h : xs.length ≤ k) : infSum (xs.take k) = infSum xs := by rw [List.take_of_length_le h]
/-- Texts of a size that a machine can bear. -/
def fitF (xs : List Info) : Prop := ∀ x ∈ xs, x.gd.length ≤ 9223372036854775807
def RdFF (w : World) (v : Value) (xs : List Info) : Prop := RdF w v xs ∧ fitF xs
theorem RdFF.below {w w' : World} {v : Value} {xs : List Info} (h : RdFF w v xs) (hb : Below w.heap.size w w') : RdFF w' v xs := ⟨h.1.below hb, h.2⟩

set_option maxHeartbeats 1000000 in
theorem szInfoS_c (xs : List Info) (v : Value) (left : Int) (w : World) (h : RdF w v xs) (hf : fitF xs) (hl : 0 ≤ left ∧ left ≤ 1048576) : Calls Tryz.prog 27 #[v, .int .i64 left] w fun e w' =>
    e = .returned (.int .i64 (szv left ((xs.length : Int) + infSum xs))) ∧ Below w.heap.size w w' := by
  obtain ⟨a, c, rfl, h1, h2, -, h3⟩ := h
  have H3 := Lib.hid h3
  have HF := Lib.hid hf
  obtain ⟨n, hn⟩ : ∃ n, n = xs.length := ⟨_, rfl⟩
  rw [← hn] at h1 ⊢
  have HN := Lib.hid hn
  unfold maxLen at h2
  clear h3 hn hf
  by_cases hlt : left < n
  · go_enter Tryz.func27, Tryz.ntmps27
    go_wp2
    go_ret
    exact ⟨ret_int (szv_neg (by omega)).symm, bref _⟩
  · go_enter Tryz.func27, Tryz.ntmps27
    go_wp2
    go_loopw [1, 5] (fun t i wr => ∃ k : Nat, k ≤ n ∧ i = .int .i64 k ∧ t = .int .i64 (left - n - infSum (xs.take k)) ∧ (infSum (xs.take k) : Int) ≤ left - n ∧ Below w.heap.size w wr) (fun _ i _ => n - (intOf i).toNat)
    case atStart => exact ⟨0, Nat.zero_le _, rfl, by simp [infSum, strSum], by simp [infSum, strSum]; omega, bref _⟩
    case round =>
      obtain ⟨k, hk, rfl, rfl, hs, hb⟩ := hrel
      by_cases hlt2 : k < n
      · obtain ⟨x, hx⟩ : ∃ x, xs[k]? = some x := ⟨_, List.getElem?_eq_getElem (by have := HN.out; omega)⟩
        obtain ⟨b, o, rfl, hbl, hc⟩ := H3.out k x hx
        have c0 := (hb.cell (p := ⟨b, o + k * 3 + 0, none⟩) hbl).trans (hc 0 _ rfl)
        have c1 := (hb.cell (p := ⟨b, o + k * 3 + 1, none⟩) hbl).trans (hc 1 _ rfl)
        have c2 := (hb.cell (p := ⟨b, o + k * 3 + 2, none⟩) hbl).trans (hc 2 _ rfl)
        simp only [Nat.add_zero] at c0
        have HS1 := Lib.hid (infSum_take hx)
        have hxl := HF.out x (List.mem_of_getElem? hx)
        clear hc hx
        by_cases hfit : (x.gd.length : Int) ≤ left - n - infSum (xs.take k)
        · have HZ := Lib.hid (szv_pos hfit)
          go_wp2_with fail
          refine (szInfo_c x _ _ hxl (by omega)).mono ?_
          rintro e w' ⟨rfl, hb1⟩
          rw [HZ.out]
          have hb2 := bnext hb hb1
          go_wp2
          go_roundw
          case rel => exact ⟨k + 1, by omega, by go_num, by have := HS1.out; first | (congr 1; omega) | (simp; omega), by have := HS1.out; omega, hb2⟩
          case measure => simp [intOf]; omega
        · have HZ := Lib.hid (show szv (left - n - infSum (xs.take k)) x.gd.length = -1 from szv_neg (by omega))
          go_wp2_with fail
          refine (szInfo_c x _ _ hxl (by omega)).mono ?_
          rintro e w' ⟨rfl, hb1⟩
          rw [HZ.out]
          have hb2 := bnext hb hb1
          go_wp2
          go_ret
          exact ⟨ret_int (szv_neg (by have := HS1.out; have := HN.out; have := infSum_take_le xs (k + 1); omega)).symm, hb2⟩
      · go_wp2
        go_ret
        have hall : infSum (xs.take k) = infSum xs := infSum_all (by have := HN.out; omega)
        rw [hall] at hs ⊢
        exact ⟨ret_int (by rw [szv_pos (by omega)]; omega), hb⟩

set_option maxHeartbeats 2000000 in
theorem markInfoS_c (xs : List Info) (v : Value) (q : Int) (base : Nat) (w : World) (hx : OwFr base w v xs) (hq : 1 ≤ q ∧ q ≤ 50000000) (hl : xs.length ≤ 2000000) : Calls Tryz.prog 63 #[v, .int .i64 q] w fun e w' =>
    e = .returned (.int .i64 (q + 3 * xs.length)) ∧ OwFr base w' v (marksF q xs.length) ∧ (∀ g, v.ownBlock = some g → w.grownBy w' (some g)) ∧ (v.ownBlock = none → w = w') := by
  rcases hx.2 with ⟨rfl, hn⟩ | ⟨g, c, cur, rfl, -⟩
  · have : xs = [] := List.eq_nil_of_length_eq_zero hn
    subst this
    go_enter Tryz.func63, Tryz.ntmps63
    go_wp2
    refine wp_loop_rounds 1 ?_
    rw [rounds_succ]
    go_wp2
    go_ret
    exact ⟨by simp, World.ownsRow_nil _ _ _ _, by simp [Value.ownBlock], fun _ => rfl⟩
  have hml := marksF_len q xs.length
  have HML := Lib.hid hml
  have hx0 : OwFr base w (.slice (some ⟨g, 0, none⟩) xs.length c) (markedBy (marksF q xs.length) xs 0) := by rw [markedBy_zero]; exact hx
  clear hx hml
  go_enter Tryz.func63, Tryz.ntmps63
  go_wp2
  go_loopw [1, 5] (fun t i wr => ∃ k : Nat, k ≤ xs.length ∧ i = .int .i64 k ∧ t = .int .i64 (q + 3 * k) ∧ w.grownBy wr (some g) ∧ OwFr base wr (.slice (some ⟨g, 0, none⟩) xs.length c) (markedBy (marksF q xs.length) xs k)) (fun _ i _ => xs.length - (intOf i).toNat)
  case atStart => exact ⟨0, Nat.zero_le _, rfl, by simp, World.grownBy.refl _ _, hx0⟩
  case round =>
    obtain ⟨k, hk, rfl, rfl, hg, hok⟩ := hrel
    by_cases hlt : k < xs.length
    · have HG := Lib.hid hg
      obtain ⟨e0, e1, e2, e3, e4, hfz, hcs⟩ := hok.open Info.enc_len
      obtain ⟨z, hz⟩ : ∃ z, (markedBy (marksF q xs.length) xs k)[k]? = some z := ⟨_, List.getElem?_eq_getElem (by omega)⟩
      have d0 := hcs k z 0 _ hz rfl
      have f0 := hfz (k * 3)
      have hok1 := hok.storeF (j := 0) (x' := ⟨q + 3 * k, z.gd, z.rf⟩) (u := .int .i64 (q + 3 * k)) Info.enc_len hz (by omega) rfl
      simp only [Nat.add_zero] at d0 hok1
      have HOK1 := Lib.hid hok1
      have HE0 := Lib.hid e0
      have HE := Lib.hid (show k < (markedBy (marksF q xs.length) xs k).length from (List.getElem?_eq_some_iff.1 hz).1)
      unfold maxLen at e4
      clear hz hcs hfz hok hg hok1 e0
      go_wp2_with fail
      refine (markText_c (q + 3 * k + 1) _ (by omega)).mono ?_
      rintro e w1 ⟨rfl, hb1⟩
      have hok2 := HOK1.out.below hb1
      have HG1 := Lib.hid (grown_then (grown_set HG.out (k * 3) (.int .i64 (q + 3 * k))) hb1)
      obtain ⟨-, -, i2, -, -, hfz, hcs⟩ := hok2.open Info.enc_len
      have hz2 : ((markedBy (marksF q xs.length) xs k).set k ⟨q + 3 * k, z.gd, z.rf⟩)[k]? = some ⟨q + 3 * k, z.gd, z.rf⟩ := by simp [HE.out]
      have d1 := hcs k _ 1 _ hz2 rfl
      have d2 := hcs k _ 2 _ hz2 rfl
      have f1 := hfz (k * 3 + 1)
      have f2 := hfz (k * 3 + 2)
      have hok3 := hok2.storeF (j := 1) (x' := ⟨q + 3 * k, mtext (q + 3 * k + 1), z.rf⟩) (u := tv (mtext (q + 3 * k + 1))) Info.enc_len hz2 (by omega) rfl
      have hok4 := hok3.storeF (j := 2) (x' := markF q k) (u := .int .i64 (q + 3 * k + 1 + 1)) Info.enc_len (x := ⟨q + 3 * k, mtext (q + 3 * k + 1), z.rf⟩) (k := k) (by simp [HE.out]) (by omega) rfl
      rw [List.set_set, List.set_set, markedBy_step _ _ _ _ HML.out (marksF_get q _ k hlt)] at hok4
      have HOK4 := Lib.hid hok4
      clear hz2 hcs hfz hok2 hok3 hok4 HOK1 HG hb1 d0 f0
      go_wp2
      go_roundw
      case rel => exact ⟨k + 1, by omega, by go_num, by go_num, grown_set (grown_set HG1.out _ _) _ _, HOK4.out⟩
      case measure => simp [intOf]; omega
    · go_wp2
      go_ret
      have h3 : k = xs.length := by omega
      refine ⟨ret_int (by omega), ?_, ?_, ?_⟩
      · have hl := HML.out
        rw [h3, markedBy_all _ _ hl] at hok
        unfold OwFr OwT at hok ⊢
        rw [hl] at hok ⊢
        exact hok
      · intro g' hg'
        simp [Value.ownBlock] at hg'
        subst hg'
        exact hg
      · simp [Value.ownBlock]

set_option maxHeartbeats 1000000 in
theorem sameInfos_c (xs ys : List Info) (v u : Value) (w : World) (hx : RdT Info.enc 3 w v xs) (hy : RdT Info.enc 3 w u ys) : Calls Tryz.prog 75 #[v, u] w fun e w' =>
    e = .returned (.bool (decide (xs = ys))) ∧ Below w.heap.size w w' := by
  obtain ⟨a, c, rfl, h1, h2, -, h3⟩ := hx
  obtain ⟨a', c', rfl, h1', h2', -, h3'⟩ := hy
  unfold maxLen at h2 h2'
  by_cases hn : xs.length = ys.length
  · have HN := Lib.hid hn
    obtain ⟨n, hn1⟩ : ∃ n, n = xs.length := ⟨_, rfl⟩
    have hn2 : ys.length = n := by omega
    rw [← hn1, hn2]
    have HN1 := Lib.hid hn1
    have HN2 := Lib.hid hn2
    have hnc : n ≤ c := by omega
    have hnc' : n ≤ c' := by omega
    clear hn hn1 hn2 h1 h1'
    have H3 := Lib.hid h3
    have H3' := Lib.hid h3'
    clear h3 h3'
    go_enter Tryz.func75, Tryz.ntmps75
    go_wp2
    go_loopw [5] (fun i wr => ∃ k : Nat, k ≤ n ∧ i = .int .i64 k ∧ Below w.heap.size w wr ∧ Hid (xs.take k = ys.take k)) (fun i _ => n - (intOf i).toNat)
    case atStart => exact ⟨0, Nat.zero_le _, rfl, Below.refl _ _, rfl⟩
    case round =>
      obtain ⟨k, hk, rfl, hb, heq⟩ := hrel
      by_cases hlt : k < n
      · obtain ⟨m, hm⟩ : ∃ m, xs[k]? = some m := ⟨_, List.getElem?_eq_getElem (by have := HN1.out; omega)⟩
        obtain ⟨p, hp⟩ : ∃ m, ys[k]? = some m := ⟨_, List.getElem?_eq_getElem (by have := HN2.out; omega)⟩
        obtain ⟨b, o, rfl, hbl, hc⟩ := H3.out k m hm
        obtain ⟨b', o', rfl, hbl', hc'⟩ := H3'.out k p hp
        have hk0 : (0 : Int) ≤ (k : Int) := by omega
        have hkn : (k : Int) < (n : Int) := by omega
        have c0 := (hb.cell (p := ⟨b, o + k * 3 + 0, none⟩) hbl).trans (hc 0 _ rfl)
        have d0 := (hb.cell (p := ⟨b', o' + k * 3 + 0, none⟩) hbl').trans (hc' 0 _ rfl)
        have c1 := (hb.cell (p := ⟨b, o + k * 3 + 1, none⟩) hbl).trans (hc 1 _ rfl)
        have d1 := (hb.cell (p := ⟨b', o' + k * 3 + 1, none⟩) hbl').trans (hc' 1 _ rfl)
        have c2 := (hb.cell (p := ⟨b, o + k * 3 + 2, none⟩) hbl).trans (hc 2 _ rfl)
        have d2 := (hb.cell (p := ⟨b', o' + k * 3 + 2, none⟩) hbl').trans (hc' 2 _ rfl)
        simp only [Nat.add_zero, Nat.mul_one] at c0 d0 c1 d1 c2 d2
        have HM := Lib.hid hm
        have HP := Lib.hid hp
        clear hc hc' hm hp
        by_cases hmp : m = p
        all_goals
          have HE := Lib.hid hmp
          first | have he := Lib.hid (decide_eq_false hmp) | have he := Lib.hid (decide_eq_true hmp)
          have hne := neqInfo m p; have hgd := guardInfo; first | rw [decide_eq_false hmp] at hne | rw [decide_eq_true hmp] at hne
          clear hmp
          go_wp2
          go_still_tail 8, (by kernel_rfl)
          change wpList _ _ _ _ _ wr.drew
          have hb3 := hb.drew
          go_wp2
        · go_roundw
          case rel => exact ⟨k + 1, by omega, by go_num, hb3, take_eq_succ HM.out HP.out heq HE.out⟩
          case measure => simp [intOf]; omega
        · go_ret
          exact ⟨ret_bool (by rw [eq_comm, decide_eq_false_iff_not]; exact ne_of_get HM.out HP.out HE.out), hb3⟩
      · go_wp2
        go_ret
        refine ⟨ret_bool ?_, hb⟩
        have h1 := HN1.out
        have h2 := HN2.out
        have h3 : k = n := by omega
        have h4 := heq.out
        rw [List.take_of_length_le (by omega), List.take_of_length_le (by omega)] at h4
        simp [h4]
  · go_enter Tryz.func75, Tryz.ntmps75
    go_wp2
    go_ret
    exact ⟨ret_bool (by rw [eq_comm, decide_eq_false_iff_not]; rintro rfl; exact hn rfl), Below.refl _ _⟩

set_option maxHeartbeats 1000000 in
theorem idxInfo_c (g : Nat) (lb : Array Value) (ps : List Bool) (xs : List Info) (v : Value) (w : World) (hl : ps.length = xs.length) (hx : RdT Info.enc 3 w v xs)
    (hg : ∀ (args : Array Value) (w : World), (callFunc g args).run Tryz.prog w = .ok (.enter g args) w)
    (hp : ∀ (k : Nat) (m : Info) (p : Bool) W, xs[k]? = some m → ps[k]? = some p → Below w.heap.size w W → Calls Tryz.prog g (#[m.val] ++ lb) W fun e W' => e = .returned (.bool p) ∧ Below W.heap.size W W') :
    Calls Tryz.prog 138 #[v, .func (.func g) #[] lb] w fun e w' =>
    e = .returned (.int .i64 (idxOf id ps)) ∧ Below w.heap.size w w' := by
  obtain ⟨a, c, rfl, h1, h2, -, h3⟩ := hx
  have H3 := Lib.hid h3
  have HP := Lib.hid hp
  have HL := Lib.hid hl
  clear h3 hp hl
  unfold maxLen at h2
  go_enter Tryz.func138, Tryz.ntmps138
  go_wp2
  go_loopw [8] (fun i wr => ∃ k : Nat, k ≤ xs.length ∧ i = .int .i64 k ∧ Below w.heap.size w wr ∧ Hid ((ps.take k).any id = false)) (fun i _ => xs.length - (intOf i).toNat)
  case atStart => exact ⟨0, Nat.zero_le _, rfl, Below.refl _ _, by simp [Hid]⟩
  case round =>
    obtain ⟨k, hk, rfl, hb, heq⟩ := hrel
    by_cases hlt : k < xs.length
    · obtain ⟨m, hm⟩ : ∃ m, xs[k]? = some m := ⟨_, List.getElem?_eq_getElem hlt⟩
      obtain ⟨p, hpk⟩ : ∃ p, ps[k]? = some p := ⟨_, List.getElem?_eq_getElem (by rw [HL.out]; exact hlt)⟩
      obtain ⟨b, o, rfl, hbl, hc⟩ := H3.out k m hm
      have c0 := (hb.cell (p := ⟨b, o + k * 3 + 0, none⟩) hbl).trans (hc 0 _ rfl)
      have c1 := (hb.cell (p := ⟨b, o + k * 3 + 1, none⟩) hbl).trans (hc 1 _ rfl)
      have c2 := (hb.cell (p := ⟨b, o + k * 3 + 2, none⟩) hbl).trans (hc 2 _ rfl)
      simp only [Nat.add_zero] at c0
      have HM := Lib.hid hm
      have HQ := Lib.hid hpk
      clear hc hm hpk
      cases p
      all_goals
        go_wp2_with fail
        refine (HP.out k m _ _ HM.out HQ.out hb).mono ?_
        rintro e w' ⟨rfl, hb2⟩
        have hb3 := hb.trans (hb2.mono hb.size)
        go_wp2
      · go_roundw
        case rel => exact ⟨k + 1, by omega, by go_num, hb3, any_take_succ HQ.out heq rfl⟩
        case measure => simp [intOf]; omega
      · go_ret
        exact ⟨ret_int (idxOf_at HQ.out heq rfl).symm, hb3⟩
    · go_wp2
      go_ret
      exact ⟨ret_int (idxOf_none (k := k) (by rw [HL.out]; omega) heq.out).symm, hb⟩

theorem hasInfo_c (g : Nat) (lb : Array Value) (ps : List Bool) (xs : List Info) (v : Value) (w : World) (hl : ps.length = xs.length) (hx : RdT Info.enc 3 w v xs)
    (hg : ∀ (args : Array Value) (w : World), (callFunc g args).run Tryz.prog w = .ok (.enter g args) w)
    (hp : ∀ (k : Nat) (m : Info) (p : Bool) W, xs[k]? = some m → ps[k]? = some p → Below w.heap.size w W → Calls Tryz.prog g (#[m.val] ++ lb) W fun e W' => e = .returned (.bool p) ∧ Below W.heap.size W W') :
    Calls Tryz.prog 98 #[v, .func (.func g) #[] lb] w fun e w' =>
    e = .returned (.bool (ps.any id)) ∧ Below w.heap.size w w' := by
  have HL := Lib.hid hl
  have HG := Lib.hid hg
  have HP := Lib.hid hp
  clear hg hp hl
  have hid : decide (0 ≤ idxOf id ps) = ps.any id := by unfold idxOf; cases ps.any id <;> simp
  have HD := Lib.hid hid
  clear hid
  go_enter Tryz.func98, Tryz.ntmps98
  go_wp2_with (go_at_call 138; refine (idxInfo_c g lb ps xs v _ HL.out hx HG.out HP.out).mono ?_; rintro e w' ⟨rfl, hb⟩)
  go_ret
  exact ⟨ret_bool HD.out, hb⟩

end Go.Proofs.YtojknkpjnchchaaGreatDoor
namespace Go.Proofs.YtojknkpjnchchaaGreatDoor
set_option linter.all false
set_option maxRecDepth 100000

def isFree0 (x : Info) : Bool := decide (x.kd = 0)
def freeI (xs : List Info) : Int := idxOf isFree0 xs
def countF (xs : List Info) : Nat := (xs.filter isFree0).length
def freeN (xs : List Info) : Int := if infosOk xs then (countF xs : Int) else -1
def takB (xs : List Info) (g : Txt) : Bool := infosOk xs && rightOk g && xs.any isFree0
def takI (xs : List Info) (g : Txt) : Int := if takB xs g then freeI xs else 0
def takL (xs : List Info) (g : Txt) : List Info := if takB xs g then xs.set (freeI xs).toNat ⟨1, g, 0⟩ else []
def infAt (xs : List Info) (f : Int) : Info := (xs[f.toNat]?).getD Info.zero
def givB (xs : List Info) (f : Int) : Bool := infosOk xs && btw 0 f 11 && (decide ((infAt xs f).kd = 1) && decide ((infAt xs f).rf = 0))
def givL (xs : List Info) (f : Int) : List Info := if givB xs f then xs.set f.toNat Info.zero else []

theorem infosOk_len {xs : List Info} (h : infosOk xs = true) : xs.length = 12 := by simp [infosOk] at h; exact h.1
theorem infosOk_all {xs : List Info} (h : infosOk xs = true) {x : Info} (hx : x ∈ xs) : infoOk x = true := by simp [infosOk] at h; exact h.2 x hx
theorem infoOk_refs {x : Info} (h : infoOk x = true) : 0 ≤ x.rf ∧ x.rf ≤ 50 := by
  simp only [infoOk, Bool.or_eq_true, decide_eq_true_eq, Bool.and_eq_true, btw] at h
  rcases h with rfl | h
  · decide
  · exact h.2
theorem infoOk_free {x : Info} (h : infoOk x = true) (hk : x.kd = 0) : x = Info.zero := by
  simp only [infoOk, Bool.or_eq_true, decide_eq_true_eq, Bool.and_eq_true, btw] at h
  rcases h with h | h
  · exact h
  · omega
theorem infosOk_set {xs : List Info} {k : Nat} {x : Info} (h : infosOk xs = true) (hx : infoOk x = true) : infosOk (xs.set k x) = true := by
  simp only [infosOk, Bool.and_eq_true, decide_eq_true_eq, List.all_eq_true, List.length_set] at h ⊢
  refine ⟨h.1, fun y hy => ?_⟩
  rcases List.mem_or_eq_of_mem_set hy with hy | rfl
  · exact h.2 y hy
  · exact hx
theorem infoZero_ok : infoOk Info.zero = true := by simp [infoOk]
theorem infoData_ok {g : Txt} (h : rightOk g = true) : infoOk ⟨1, g, 0⟩ = true := by simp [infoOk, h, btw]
theorem count_set {xs : List Info} {k : Nat} {x y : Info} (hx : xs[k]? = some x) : (countF (xs.set k y) : Int) = countF xs - (if isFree0 x then 1 else 0) + (if isFree0 y then 1 else 0) := by
  induction xs generalizing k with
  | nil => simp at hx
  | cons a t ih =>
    cases k with
    | zero =>
      simp at hx; subst hx
      simp only [List.set_cons_zero, countF, List.filter_cons]
      by_cases h1 : isFree0 a = true <;> by_cases h2 : isFree0 y = true <;> simp [h1, h2] <;> omega
    | succ k =>
      simp at hx
      have := ih hx
      simp only [List.set_cons_succ, countF, List.filter_cons] at this ⊢
      by_cases h1 : isFree0 a = true <;> simp [h1] <;> omega
theorem count_le (xs : List Info) : countF xs ≤ xs.length := List.length_filter_le _ _
theorem count_pos {xs : List Info} : 0 < countF xs ↔ xs.any isFree0 = true := by
  unfold countF
  rw [List.length_pos_iff, List.any_eq_true, ne_eq, List.filter_eq_nil_iff]
  constructor
  · intro h
    apply Classical.byContradiction
    intro hn
    exact h fun x hx hp => hn ⟨x, hx, hp⟩
  · rintro ⟨x, hx, hp⟩ h
    exact h x hx hp
end Go.Proofs.YtojknkpjnchchaaGreatDoor
