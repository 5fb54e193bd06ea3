/- What rights allow: all guards of a list of frames. No conditions but the readings of the arguments. -/
import Derived.Test.YtojknkpjnchchaaGreatDoorKerM
import Derived.Test.YtojknkpjnchchaaGreatDoorKerQ
import Derived.Test.YtojknkpjnchchaaGreatDoorRightD
namespace Go.Proofs.YtojknkpjnchchaaGreatDoor
open Go.BigFrame Go.ChangeShapes Go.WideShapes Go.ChangeAt Go.RowKit
set_option linter.all false
set_option maxRecDepth 100000
attribute [local go_sem ↓] Go.wp_at_zero Go.wp_at_succ

def gdAt (xs : List Info) (f : Int) : Txt := (xs.getD f.toNat Info.zero).gd
def kdAt (xs : List Info) (f : Int) : Int := (xs.getD f.toNat Info.zero).kd
theorem gd_at {xs : List Info} {k : Nat} {x : Info} (h : xs[k]? = some x) : gdAt xs k = x.gd := by simp [gdAt, List.getD, h]
theorem kd_at {xs : List Info} {k : Nat} {x : Info} (h : xs[k]? = some x) : kdAt xs k = x.kd := by simp [kdAt, List.getD, h]
def allowB (xs : List Info) (rs : List Txt) (fs : List Int) : Bool := fs.all fun f => mayB rs (gdAt xs f)

set_option maxHeartbeats 2000000 in
theorem allowedFn_c (xs : List Info) (rs : List Txt) (v v2 : Value) (f : Int) (B1 B2 BK : Nat) (w : World) (hx : RdF w v2 xs) (hr : RdS w v rs) (hl : xs.length = 12) (hf : 0 ≤ f ∧ f ≤ 11)
    (h1 : w.cell? ⟨B1, 0, none⟩ = some v) (h2 : w.cell? ⟨B2, 0, none⟩ = some (.pointer (some ⟨BK, 0, none⟩))) (h3 : w.cell? ⟨BK, 1, none⟩ = some v2) :
    Calls Tryz.prog 107 #[.int .i64 f, .pointer (some ⟨B1, 0, none⟩), .pointer (some ⟨B2, 0, none⟩)] w fun e w' => e = .returned (.bool (!mayB rs (gdAt xs f))) ∧ Below w.heap.size w w' := by
  obtain ⟨k, rfl⟩ := Int.eq_ofNat_of_zero_le hf.1
  have hk : k < 12 := by omega
  obtain ⟨x, hxk⟩ : ∃ x, xs[k]? = some x := ⟨_, List.getElem?_eq_getElem (by omega)⟩
  have HG := Lib.hid (gd_at hxk)
  have HR := Lib.hid hr
  obtain ⟨a, c, rfl, t1, t2, -, t3⟩ := hx
  obtain ⟨b, o, rfl, hbl, hc⟩ := t3 k x hxk
  have c1 := hc 1 _ rfl
  unfold maxLen at t2
  rw [hl] at t1 h3
  have hk0 : (0 : Int) ≤ (k : Int) := by omega
  have hk1 : (k : Int) < 12 := by omega
  have y1 := cell_bel h1
  have y2 := cell_bel h2
  have y3 := cell_bel h3
  have y4 := cell_bel c1
  have HCON := Lib.hid (fun p : Bel w => may_c rs v x.gd p.wd (HR.out.below p.below))
  clear hr hc t3 hxk hl h1 h2 h3 c1 hf hbl
  go_enter Tryz.func107, Tryz.ntmps107
  go_wp2
  refine wp_region_bel (by kernel_rfl) (by kernel_rfl) ?_
  repeat (go_big_quiet_step (first
    | (go_at_call 108; exact Calls.bel_of (HCON.out _))))
  refine wpQuiet_nil ?_
  rintro _ ⟨⟨wz, hbz⟩, rfl⟩
  (try dsimp only)
  go_wp2
  go_ret
  exact ⟨ret_bool (by rw [HG.out]), hbz⟩

set_option maxHeartbeats 2000000 in
theorem allowed_c (xs : List Info) (rs : List Txt) (fs : List Int) (v v2 v3 : Value) (BK : Nat) (w : World) (hx : RdF w v2 xs) (hr : RdS w v rs) (hfs : RdI w v3 fs) (hl : xs.length = 12) (hf : ∀ f ∈ fs, 0 ≤ f ∧ f ≤ 11)
    (h3 : w.cell? ⟨BK, 1, none⟩ = some v2) :
    Calls Tryz.prog 47 #[.pointer (some ⟨BK, 0, none⟩), v, v3] w fun e w' => e = .returned (.bool (allowB xs rs fs)) ∧ Below w.heap.size w w' := by
  have hr' := hr
  obtain ⟨ax, cx, rfl, -, -, -, -⟩ := hr'
  have hB := ((Bun.refl w none).alloc (.cells #[.pointer (some ⟨BK, 0, none⟩)] 117)).alloc (.cells #[.slice ax rs.length cx] 53)
  have e1 := (blk1 (hB.get 1 rfl)).1
  have e2 := (blk1 (hB.get 0 rfl)).1
  have l1 := World.block_lt_of_cell? _ _ e1
  have l2 := World.block_lt_of_cell? _ _ e2
  have e3 := (hB.below.cell (World.block_lt_of_cell? _ _ h3)).trans h3
  have l3 := World.block_lt_of_cell? _ _ e3
  have HX := Lib.hid (hx.below hB.below)
  have HR := Lib.hid (hr.below hB.below)
  have HS := Lib.hid (hfs.below hB.below)
  have hp : ∀ (k : Nat) (m : Int) (p : Bool) W, fs[k]? = some m → (fs.map fun f => !mayB rs (gdAt xs f))[k]? = some p → Below ((w.alloc (.cells #[.pointer (some ⟨BK, 0, none⟩)] 117)).alloc (.cells #[.slice ax rs.length cx] 53)).heap.size ((w.alloc (.cells #[.pointer (some ⟨BK, 0, none⟩)] 117)).alloc (.cells #[.slice ax rs.length cx] 53)) W →
      Calls Tryz.prog 107 (#[.int .i64 m] ++ #[.pointer (some ⟨w.heap.size + 1, 0, none⟩), .pointer (some ⟨w.heap.size, 0, none⟩)]) W fun e W' => e = .returned (.bool p) ∧ Below W.heap.size W W' := by
    intro k m p W hm hp hb
    rw [List.getElem?_map, hm] at hp
    simp only [Option.map_some, Option.some.injEq] at hp
    subst hp
    refine allowedFn_c xs rs _ v2 m _ _ BK W (HX.out.below hb) (HR.out.below hb) hl (hf m (List.mem_of_getElem? hm)) ?_ ?_ ((hb.cell l3).trans e3)
    · have h3 := (hb.cell l2).trans e2
      simpa using h3
    · exact (hb.cell l1).trans e1
  have HE := enters_of (P := Tryz.prog) (f := 107) Tryz.func107 (by kernel_rfl) rfl
  have HC := Lib.hid (hasInt_c 107 #[.pointer (some ⟨w.heap.size + 1, 0, none⟩), .pointer (some ⟨w.heap.size, 0, none⟩)] (fs.map fun f => !mayB rs (gdAt xs f)) fs v3 _ (by simp) HS.out HE hp)
  have HB := Lib.hid hB
  clear hB e1 e2 l1 l2 e3 l3 hp HE hx hr hfs h3
  go_enter Tryz.func47, Tryz.ntmps47
  go_wp2_with fail
  refine HC.out.mono ?_
  rintro e w1 ⟨rfl, hb⟩
  go_wp2
  go_ret
  exact ⟨ret_bool (by unfold allowB; rw [List.not_any_eq_all_not]; simp), (HB.out.call hb).below⟩

set_option maxHeartbeats 2000000 in
theorem l21Allowed_c (xs : List Info) (rs : List Txt) (fs : List Int) (v v2 v3 : Value) (w : World) (hx : RdF w v2 xs) (hff : fitF xs) (hr : RdS w v rs) (hfr : fitS rs) (hfs : RdI w v3 fs) (hl : xs.length = 12) (hf : ∀ f ∈ fs, 0 ≤ f ∧ f ≤ 11) :
    Calls Tryz.prog 87 #[v2, v3, v] w fun e w' => e = .returned (.bool (allowB xs rs fs)) ∧ w = w' := by
  have HX := Lib.hid hx
  have HR := Lib.hid hr
  obtain ⟨n, hn⟩ : ∃ n, n = fs.length := ⟨_, rfl⟩
  obtain ⟨a, c, rfl, s1, s2, -, s3⟩ := hfs
  rw [← hn] at s1 ⊢
  have HN := Lib.hid hn
  have S3 := Lib.hid s3
  unfold maxLen at s2
  obtain ⟨a9, c9, rfl, t1, t2, -, t3⟩ := hx
  rw [hl] at t1 HX ⊢
  have T3 := Lib.hid t3
  unfold maxLen at t2
  clear hn s3 hr t3
  go_enter Tryz.func87, Tryz.ntmps87
  go_wp2
  go_loop [7] (fun i => ∃ k : Nat, k ≤ n ∧ i = .int .i64 k ∧ Hid (allowB xs rs (fs.take k) = true)) (fun i => n - (intOf i).toNat)
  case atStart => exact ⟨0, Nat.zero_le _, rfl, by simp [Hid, allowB]⟩
  case round =>
    obtain ⟨k, hk, rfl, hok⟩ := hrel
    by_cases hlt : k < n
    · obtain ⟨x, hx⟩ : ∃ x, fs[k]? = some x := ⟨_, List.getElem?_eq_getElem (by have := HN.out; omega)⟩
      obtain ⟨b, o, rfl, hbl, hc⟩ := S3.out k x hx
      have c0 := hc 0 _ rfl
      simp only [Nat.add_zero, Nat.mul_one] at c0
      have hxm := hf x (List.mem_of_getElem? hx)
      obtain ⟨q, rfl⟩ := Int.eq_ofNat_of_zero_le hxm.1
      have hq : q < 12 := by omega
      have hq0 : (0 : Int) ≤ (q : Int) := by omega
      have hq1 : (q : Int) < 12 := by omega
      obtain ⟨y, hy⟩ : ∃ y, xs[q]? = some y := ⟨_, List.getElem?_eq_getElem (by omega)⟩
      obtain ⟨b9, o9, rfl, hbl9, hc9⟩ := T3.out q y hy
      have d1 := hc9 1 _ rfl
      have HGD := Lib.hid (gd_at hy)
      have HXK := Lib.hid hx
      have HFG := Lib.hid (hff y (List.mem_of_getElem? hy))
      have hk0 : (0 : Int) ≤ (k : Int) := by omega
      have hk1 : (k : Int) < (n : Int) := by omega
      clear hc hc9 hx hy hxm
      go_wp2_with fail
      refine (l11May_c rs v y.gd _ HR.out hfr HFG.out).mono ?_
      rintro e w1 ⟨rfl, rfl⟩
      cases hm : mayB rs y.gd
      · have HM := Lib.hid hm
        clear hm
        go_wp2
        go_ret
        exact ⟨ret_bool (by rw [eq_comm]; unfold allowB; rw [List.all_eq_false]; exact ⟨_, List.mem_of_getElem? HXK.out, by rw [HGD.out, HM.out]; simp⟩), rfl⟩
      · have HM := Lib.hid hm
        clear hm
        go_wp2
        go_round
        case rel => exact ⟨k + 1, by omega, by go_num, by unfold Hid; unfold allowB at hok ⊢; rw [List.take_add_one, HXK.out, List.all_append, hok.out]; simp [HGD.out, HM.out]⟩
        case measure => simp [intOf]; omega
    · go_wp2
      go_ret
      exact ⟨ret_bool (by have h1 := hok.out; rw [List.take_of_length_le (by have := HN.out; omega)] at h1; exact h1.symm), rfl⟩
end Go.Proofs.YtojknkpjnchchaaGreatDoor
