/- Contracts of the reader that draws inputs out of a code. No conditions but the readings of the arguments. -/
import Derived.Test.YtojknkpjnchchaaGreatDoorGLib
namespace Go.Proofs.YtojknkpjnchchaaGreatDoor
open Go.ChangeShapes Go.WideShapes Go.RowKit
set_option linter.all false
set_option maxRecDepth 100000
attribute [local go_sem ↓] Go.wp_at_zero Go.wp_at_succ

def encB (x : Int) : List Value := [.int .u8 x]
abbrev RdB := RdT encB 1

/-- Block B is a reader over bytes, at a place up to k. -/
def RdrV (w : World) (B : Nat) (v : Value) (bs : List Int) (k : Int) : Prop :=
  ∃ p : Int, w.heap[B]? = some (.cells #[v, .int .i64 p] 130 (0, 0)) ∧ RdB w v bs ∧ (∀ b ∈ bs, 0 ≤ b ∧ b ≤ 255) ∧ (bs ≠ [] → ∀ g, v.ownBlock = some g → g < B) ∧ 0 ≤ p ∧ p ≤ k ∧ bs.length ≤ 2000

theorem rdr_step {w : World} {B : Nat} {v : Value} {bs : List Int} {p k : Int} (hB : w.heap[B]? = some (.cells #[v, .int .i64 p] 130 (0, 0))) (hr : RdB w v bs) (hbs : ∀ b ∈ bs, 0 ≤ b ∧ b ≤ 255) (hv : bs ≠ [] → ∀ g, v.ownBlock = some g → g < B) (hp0 : 0 ≤ p) (hpk : p ≤ k) (hl : bs.length ≤ 2000) (u : Value) (hu : u = .int .i64 (p + 1)) :
    RdrV (w.setCell ⟨B, 1, none⟩ u) B v bs (k + 1) ∧ w.grownBy (w.setCell ⟨B, 1, none⟩ u) (some B) := by
  subst hu
  have hg : w.grownBy (w.setCell ⟨B, 1, none⟩ (.int .i64 (p + 1))) (some B) := grown_set (World.grownBy.refl _ _) _ _
  refine ⟨⟨p + 1, ?_, hr.grown hg (fun h g hg => Nat.ne_of_lt (hv h g hg)), hbs, hv, by omega, by omega, hl⟩, hg⟩
  have := heap_setCell_same w B 1 _ _ (.int .i64 (p + 1)) hB
  simpa using this

theorem bt_mod (a : Int) (n : Int) (ha : 0 ≤ a) (hn : 1 ≤ n) : 0 ≤ a.tmod n ∧ a.tmod n < n := by
  rw [Int.tmod_eq_emod_of_nonneg ha]
  exact ⟨Int.emod_nonneg _ (by omega), Int.emod_lt_of_pos _ (by omega)⟩

theorem xor_i64_nat (a b : Nat) (ha : a < 9223372036854775808) (hb : b < 9223372036854775808) : bits .xor .i64 (a : Int) (b : Int) = ((a ^^^ b : Nat) : Int) := by
  have hx : a ^^^ b < 2 ^ 63 := Nat.xor_lt_two_pow (by omega) (by omega)
  have h1 : (BitVec.ofInt 64 (a : Int)).toNat = a := by
    rw [BitVec.ofInt_natCast, BitVec.toNat_ofNat]; exact Nat.mod_eq_of_lt (by omega)
  have h2 : (BitVec.ofInt 64 (b : Int)).toNat = b := by
    rw [BitVec.ofInt_natCast, BitVec.toNat_ofNat]; exact Nat.mod_eq_of_lt (by omega)
  show IntKind.i64.wrap ((BitVec.ofInt 64 (a : Int) ^^^ BitVec.ofInt 64 (b : Int)).toNat : Int) = _
  rw [BitVec.toNat_xor, h1, h2, IntKind.wrap_i64]
  omega

theorem mixed (x y : Int) (q L : Nat) (n : Int) (hx : 0 ≤ x ∧ x ≤ 255) (hy : 0 ≤ y ∧ y ≤ 255) (hq : q ≤ 1000000) (hL : 0 < L) (hn : 1 ≤ n) :
    0 ≤ (bits BinOp.xor IntKind.i64 (wrap64 (x * 131 + y * 1117 + q * 29 + wrap64 (wrap64 (q / L) * 53))) (wrap64 ((wrap64 (x * 131 + y * 1117 + q * 29 + wrap64 (wrap64 (q / L) * 53))).tdiv 64))).tmod n ∧
    (bits BinOp.xor IntKind.i64 (wrap64 (x * 131 + y * 1117 + q * 29 + wrap64 (wrap64 (q / L) * 53))) (wrap64 ((wrap64 (x * 131 + y * 1117 + q * 29 + wrap64 (wrap64 (q / L) * 53))).tdiv 64))).tmod n < n := by
  have h0 : (0 : Int) ≤ (q : Int) / (L : Int) := Int.ediv_nonneg (by omega) (by omega)
  have h1 : (q : Int) / (L : Int) ≤ q := Int.ediv_le_self _ (by omega)
  generalize (q : Int) / (L : Int) = d at *
  rw [Go.IntWalk.wrap64_in d (by omega), Go.IntWalk.wrap64_in (d * 53) (by omega)]
  have hz : 0 ≤ x * 131 + y * 1117 + q * 29 + d * 53 ∧ x * 131 + y * 1117 + q * 29 + d * 53 ≤ 1000000000 := by omega
  generalize x * 131 + y * 1117 + q * 29 + d * 53 = z at *
  rw [Go.IntWalk.wrap64_in z (by omega), Int.tdiv_eq_ediv_of_nonneg hz.1, Go.IntWalk.wrap64_in (z / 64) (by omega)]
  obtain ⟨a, rfl⟩ := Int.eq_ofNat_of_zero_le hz.1
  have e : ((a : Int) / 64) = ((a / 64 : Nat) : Int) := by simp
  rw [e, xor_i64_nat _ _ (by omega) (by omega)]
  exact bt_mod _ n (by omega) hn

set_option maxHeartbeats 2000000 in
theorem pick_c (B : Nat) (v : Value) (bs : List Int) (k n : Int) (w : World) (h : RdrV w B v bs k) (hk : k ≤ 1000000) (hn : 0 ≤ n ∧ n ≤ 1000000) : Calls Tryz.prog 67 #[.pointer (some ⟨B, 0, none⟩), .int .i64 n] w fun e w' =>
    ∃ x : Int, e = .returned (.int .i64 x) ∧ 0 ≤ x ∧ (1 ≤ n → x < n) ∧ RdrV w' B v bs (k + 1) ∧ w.grownBy w' (some B) := by
  obtain ⟨p, hB, hr, hbs, hv, hp0, hpk, hl⟩ := h
  obtain ⟨R1, R2⟩ := rdr_step hB hr hbs hv hp0 hpk hl _ rfl
  have c0 : w.cell? ⟨B, 0, none⟩ = some v := by simp [World.cell?, hB]
  have c1 : w.cell? ⟨B, 1, none⟩ = some (.int .i64 p) := by simp [World.cell?, hB]
  have f1 : w.frozen? ⟨B, 1, none⟩ = false := by simp [World.frozen?, hB]
  obtain ⟨q, rfl⟩ := Int.eq_ofNat_of_zero_le hp0
  have hr' := hr.grown R2 (fun h g hg => Nat.ne_of_lt (hv h g hg))
  have e0 : (w.setCell ⟨B, 1, none⟩ (.int .i64 ((q : Int) + 1))).cell? ⟨B, 0, none⟩ = some v := by
    have := heap_setCell_same w B 1 _ _ (.int .i64 ((q : Int) + 1)) hB
    simp [World.cell?, this]
  obtain ⟨a, c, rfl, h1, h2, h0, h3⟩ := hr'
  have H3 := Lib.hid h3
  have HBS := Lib.hid hbs
  have HR1 := Lib.hid R1
  have HR2 := Lib.hid R2
  clear h3 h0 hB hbs hv hr R1 R2
  unfold maxLen at h2
  by_cases hn1 : n < 1
  · go_enter Tryz.func67, Tryz.ntmps67
    go_wp2
    go_ret
    exact ⟨0, rfl, by omega, by omega, HR1.out, HR2.out⟩
  by_cases hb0 : bs.length = 0
  · have hb1 : ((bs.length : Int) == 0) = true := by simp [hb0]
    clear hb0
    go_enter Tryz.func67, Tryz.ntmps67
    go_wp2
    go_ret
    exact ⟨0, rfl, by omega, by omega, HR1.out, HR2.out⟩
  have hb1 : ((bs.length : Int) == 0) = false := by rw [beq_eq_false_iff_ne]; omega
  have hpos : 0 < bs.length := Nat.pos_of_ne_zero hb0
  by_cases hq : q < bs.length
  · obtain ⟨x, hx⟩ : ∃ x, bs[q]? = some x := ⟨_, List.getElem?_eq_getElem hq⟩
    obtain ⟨b, o, rfl, hbl, hc⟩ := H3.out q x hx
    have d0 := hc 0 _ rfl
    have hxb := HBS.out x (List.mem_of_getElem? hx)
    simp only [Nat.mul_one, Nat.add_zero] at d0
    have HX := bt_mod x n hxb.1 (by omega)
    have hx1 := Lib.hid HX
    clear hx hc HX
    go_enter Tryz.func67, Tryz.ntmps67
    go_wp2
    go_ret
    refine ⟨_, rfl, Int.emod_nonneg _ (by omega), ?_⟩
    first | exact ⟨fun _ => Int.emod_lt_of_pos _ (by omega), HR1.out, HR2.out⟩ | exact ⟨Int.emod_lt_of_pos _ (by omega), HR1.out, HR2.out⟩
  · obtain ⟨L, hL⟩ : ∃ L, L = bs.length := ⟨_, rfl⟩
    obtain ⟨x, hx⟩ : ∃ x, bs[q % bs.length]? = some x := ⟨_, List.getElem?_eq_getElem (Nat.mod_lt _ hpos)⟩
    obtain ⟨y, hy⟩ : ∃ x, bs[(q * 7 + 3) % bs.length]? = some x := ⟨_, List.getElem?_eq_getElem (Nat.mod_lt _ hpos)⟩
    obtain ⟨b, o, rfl, hbl, hc⟩ := H3.out _ x hx
    obtain ⟨b', o', hbb, hbl', hc'⟩ := H3.out _ y hy
    simp only [Option.some.injEq, Addr.mk.injEq, and_true] at hbb
    obtain ⟨rfl, rfl⟩ := hbb
    have d0 := hc 0 _ rfl
    have d1 := hc' 0 _ rfl
    have hxb := HBS.out x (List.mem_of_getElem? hx)
    have hyb := HBS.out y (List.mem_of_getElem? hy)
    simp only [Nat.mul_one, Nat.add_zero] at d0 d1
    clear hx hc hy hc'
    have g1 : (0 : Int) ≤ (q : Int) % (bs.length : Int) := Int.emod_nonneg _ (by omega)
    have g2 : (q : Int) % (bs.length : Int) < (bs.length : Int) := Int.emod_lt_of_pos _ (by omega)
    have g3 : ((q : Int) % (bs.length : Int)).toNat = q % bs.length := by omega
    have g4 : (0 : Int) ≤ ((q : Int) * 7 + 3) % (bs.length : Int) := Int.emod_nonneg _ (by omega)
    have g5 : ((q : Int) * 7 + 3) % (bs.length : Int) < (bs.length : Int) := Int.emod_lt_of_pos _ (by omega)
    have g6 : (((q : Int) * 7 + 3) % (bs.length : Int)).toNat = (q * 7 + 3) % bs.length := by
      have : ((q : Int) * 7 + 3) % (bs.length : Int) = (((q * 7 + 3) % bs.length : Nat) : Int) := by push_cast; rfl
      rw [this]; rfl
    have s1 : IntKind.i64.wrap ((q : Int) * 7) = (q : Int) * 7 := Go.IntWalk.i64_in _ (by omega)
    have s2 : IntKind.i64.wrap ((q : Int) * 7 + 3) = (q : Int) * 7 + 3 := Go.IntWalk.i64_in _ (by omega)
    have t1 : ((q : Int)).tmod (bs.length : Int) = (q : Int) % (bs.length : Int) := Int.tmod_eq_emod_of_nonneg (by omega)
    have t2 : ((q : Int) * 7 + 3).tmod (bs.length : Int) = ((q : Int) * 7 + 3) % (bs.length : Int) := Int.tmod_eq_emod_of_nonneg (by omega)
    go_enter Tryz.func67, Tryz.ntmps67
    go_wp2
    generalize w.setCell ⟨B, 1, none⟩ (.int .i64 ((q : Int) + 1)) = W1 at *
    go_region_held3 (fun w' => w'.cell? ⟨B, 0, none⟩ = some (.slice (some ⟨b, o, none⟩) bs.length c) ∧ w'.cell? ⟨b, o + q % bs.length, none⟩ = some (.int .u8 x) ∧ w'.cell? ⟨b, o + (q * 7 + 3) % bs.length, none⟩ = some (.int .u8 y)) (go_keep) (fail)
    go_wp2
    go_ret
    obtain ⟨m0, m1⟩ := mixed x y q bs.length n hxb hyb (by omega) hpos (by omega)
    exact ⟨_, rfl, m0, fun _ => m1, HR1.out, grown_drew HR2.out⟩

def Res.rdr (B : Nat) (v : Value) (bs : List Int) (k : Int) : Res where
  foot q := q = B ∨ (bs ≠ [] ∧ v.ownBlock = some q)
  own q := q = B
  sub q h := .inl h
  holds w := RdrV w B v bs k
  keep {w w'} h hk hs := by
    obtain ⟨p, hB, hr, hbs, hv, r⟩ := h
    refine ⟨p, (hk B (.inl rfl)).trans hB, ?_, hbs, hv, r⟩
    obtain ⟨a, c, rfl, h1, h2, h0, h3⟩ := hr
    refine ⟨a, c, rfl, h1, h2, h0, fun k x hx => ?_⟩
    obtain ⟨b, o, rfl, hlt, hc⟩ := h3 k x hx
    exact ⟨b, o, rfl, Nat.lt_of_lt_of_le hlt hs, fun j y hy => (World.cell?_of_block (hk b (.inr ⟨by rintro rfl; simp at hx, rfl⟩))).trans (hc j y hy)⟩
  lt {w} h q hq := by
    obtain ⟨p, hB, hr, hbs, hv, r⟩ := h
    have hlt := (Array.getElem?_eq_some_iff.1 hB).1
    rcases hq with rfl | ⟨h1, h2⟩
    · exact hlt
    · exact Nat.lt_trans (hv h1 q h2) hlt

theorem RdrV.mono {w : World} {B : Nat} {v : Value} {bs : List Int} {k k' : Int} (h : RdrV w B v bs k) (hk : k ≤ k') : RdrV w B v bs k' := by
  obtain ⟨p, h1, h2, h3, h4, h5, h6, h7⟩ := h
  exact ⟨p, h1, h2, h3, h4, h5, by omega, h7⟩

section
variable {w0 w w' : World} {row : Option Nat} {rs : List Res} {B : Nat} {v : Value} {bs : List Int} {k : Int}
theorem Bun.more (h : Bun w0 row w (Res.rdr B v bs k :: rs)) {k' : Int} (hk : k ≤ k') : Bun w0 row w (Res.rdr B v bs k' :: rs) :=
  h.mod (Chs.of_below (bref w)) (Res.rdr B v bs k') (RdrV.mono (h.get 0 rfl) hk) (fun _ h => .inl h) (fun _ h => .inl h)

theorem pick_b (n : Int) (h : Bun w0 row w (Res.rdr B v bs k :: rs)) (hk : k ≤ 1000000) (hn : 0 ≤ n ∧ n ≤ 1000000) : Calls Tryz.prog 67 #[.pointer (some ⟨B, 0, none⟩), .int .i64 n] w fun e w' =>
    ∃ x : Int, e = .returned (.int .i64 x) ∧ 0 ≤ x ∧ (1 ≤ n → x < n) ∧ Bun w0 row w' (Res.rdr B v bs (k + 1) :: rs) := by
  refine (pick_c B v bs k n w (h.get 0 rfl) hk hn).mono ?_
  rintro e w' ⟨x, he, h0, h1, hr, hg⟩
  exact ⟨x, he, h0, h1, h.mod (Chs.of_grown hg (fun q hq => by simp at hq; exact hq.symm)) (Res.rdr B v bs (k + 1)) hr (fun _ h => .inl h) (fun _ h => .inl h)⟩

theorem Bun.reader (h : Bun w0 none w rs) (hf : ∀ r ∈ rs, ∀ q, r.foot q → w0.heap.size ≤ q) (hb : Below w.heap.size w w') (hr : RdrV w' B v bs k) (hB : w.heap.size ≤ B) (hv : bs ≠ [] → ∀ g, v.ownBlock = some g → g < w0.heap.size) : Bun w0 none w' (Res.rdr B v bs k :: rs) := by
  have h2 := h.call hb
  have hs := h.grow.size
  refine ⟨h2.grow, fun q hq => ?_, List.pairwise_cons.2 ⟨fun q hq i hi hi2 => ?_, h2.apart⟩⟩
  · rcases List.mem_cons.1 hq with rfl | hq
    · exact ⟨hr, fun i hi => .inl (Nat.le_trans hs (by rw [show i = B from hi]; exact hB))⟩
    · exact h2.all q hq
  · have h3 := q.lt (h.all q hq).1 i hi2
    have h4 := hf q hq i hi2
    rcases hi with rfl | ⟨h5, h6⟩
    · omega
    · have := hv h5 i h6; omega
end

theorem open_b {w0 w : World} {rs : List Res} (bs : List Int) (v : Value) (h : RdB w0 v bs) (hbs : ∀ b ∈ bs, 0 ≤ b ∧ b ≤ 255) (H : Bun w0 none w rs) (hf : ∀ r ∈ rs, ∀ q, r.foot q → w0.heap.size ≤ q) : Calls Tryz.prog 66 #[v] w fun e w' =>
    ∃ B v' bs', e = .returned (.pointer (some ⟨B, 0, none⟩)) ∧ Bun w0 none w' (Res.rdr B v' bs' 0 :: rs) := by
  have hw := H.below
  have hs := hw.size
  obtain ⟨a, c, rfl, h1, h2, h0, h3'⟩ := h
  have h3 : ∀ k x, bs[k]? = some x → ∃ b o, a = some ⟨b, o, none⟩ ∧ b < w.heap.size ∧ ∀ j y, (encB x)[j]? = some y → w.cell? ⟨b, o + k * 1 + j, none⟩ = some y := by
    intro k x hx
    obtain ⟨b, o, e, hlt, hc⟩ := h3' k x hx
    exact ⟨b, o, e, by omega, fun j y hy => (hw.cell (p := ⟨b, o + k * 1 + j, none⟩) hlt).trans (hc j y hy)⟩
  have hown : ∀ (n' c' : Nat), n' ≤ bs.length → n' ≤ 2000 → n' ≤ c' → c' ≤ maxLen → (a = none → c' = 0) →
      ∃ v' bs', Bun w0 none (w.alloc (.cells #[.slice a n' c', .int .i64 0] 130)) (Res.rdr w.heap.size v' bs' 0 :: rs) := by
    intro n' c' hn hn2 hc hc2 ha
    have hblk : ∀ x t, bs = x :: t → ∃ b o, a = some ⟨b, o, none⟩ ∧ b < w0.heap.size := by
      intro x t hbs2
      obtain ⟨b, o, e, hlt, -⟩ := h3' 0 x (by rw [hbs2]; rfl)
      exact ⟨b, o, e, hlt⟩
    refine ⟨.slice a n' c', bs.take n', H.reader hf (balloc w _) ⟨0, heap_alloc_new w _, ?_, fun b hb => hbs b (List.mem_of_mem_take hb), ?_, by omega, by omega, by simp; omega⟩ (Nat.le_refl _) ?_⟩
    · have hl : (bs.take n').length = n' := by simp; omega
      refine ⟨a, c', by rw [hl], by rw [hl]; exact hc, hc2, ha, fun k x hx => ?_⟩
      have hx' : bs[k]? = some x := by
        rw [List.getElem?_take] at hx; split at hx
        · exact hx
        · cases hx
      obtain ⟨b, o, e, hlt, hcc⟩ := h3 k x hx'
      exact ⟨b, o, e, by simp; omega, fun j y hy => (World.cell?_of_block (heap_alloc_old w _ hlt)).trans (hcc j y hy)⟩
    · intro hne g hg
      cases hbs2 : bs with
      | nil => rw [hbs2] at hne; simp at hne
      | cons x t =>
        obtain ⟨b, o, rfl, hlt⟩ := hblk x t hbs2
        simp [Value.ownBlock] at hg
        omega
    · intro hne g hg
      cases hbs2 : bs with
      | nil => rw [hbs2] at hne; simp at hne
      | cons x t =>
        obtain ⟨b, o, rfl, hlt⟩ := hblk x t hbs2
        simp [Value.ownBlock] at hg
        omega
  have HO := Lib.hid hown
  have H0 := Lib.hid h0
  clear h3 h3' hown hbs h0 hf H
  have h2' := h2
  unfold maxLen at h2'
  by_cases hbig : bs.length ≤ 2000
  · obtain ⟨v', bs', HR⟩ := HO.out _ _ (Nat.le_refl _) hbig h1 h2 H0.out
    have HR' := Lib.hid HR
    clear HR
    go_enter Tryz.func66, Tryz.ntmps66
    go_wp2
    go_ret
    exact ⟨_, v', bs', rfl, HR'.out⟩
  · obtain ⟨v', bs', HR⟩ := HO.out 2000 c (by omega) (by omega) (by omega) h2 H0.out
    have HR' := Lib.hid HR
    clear HR
    go_enter Tryz.func66, Tryz.ntmps66
    go_wp2
    go_ret
    exact ⟨_, v', bs', rfl, HR'.out⟩
end Go.Proofs.YtojknkpjnchchaaGreatDoor
