/- Contracts of MailWords. No conditions but the readings of the arguments. -/
import Derived.Test.YtkpdjnfgmgnjdaaMailC
import Derived.Test.YtkpdjnfgmgnjdaaInts
namespace Go.Proofs.Ytkpdjnfgmgnjdaa
open Go.ChangeShapes Go.WideShapes Go.RowKit
set_option linter.all false
attribute [local go_sem ↓] Go.wp_at_zero Go.wp_at_succ

def wordsF (xs : List Mail) (f t : Int) : List Int := (xs.filter fun m => decide (m.fr = f) && decide (m.tu = t)).map (·.wd)
def mailWords (xs : List Mail) (f t : Int) : List Int := if mailsOk xs then wordsF xs f t else []

theorem wordsF_step {xs : List Mail} {k : Nat} {m : Mail} {f t : Int} (hm : xs[k]? = some m) : wordsF (xs.take (k + 1)) f t = wordsF (xs.take k) f t ++ (if m.fr = f ∧ m.tu = t then [m.wd] else []) := by
  unfold wordsF
  rw [List.take_add_one, hm]
  simp only [Option.toList_some, List.filter_append, List.map_append]
  congr 1
  by_cases h1 : m.fr = f <;> by_cases h2 : m.tu = t <;> simp [List.filter_cons, h1, h2]
theorem wordsF_le (xs : List Mail) (f t : Int) : (wordsF xs f t).length ≤ xs.length := by
  unfold wordsF; rw [List.length_map]; exact List.length_filter_le _ _

theorem mailWords_le (xs : List Mail) (f t : Int) : (mailWords xs f t).length ≤ xs.length := by
  unfold mailWords; split
  · exact wordsF_le _ _ _
  · simp

set_option maxHeartbeats 2000000 in
theorem implMailWords_c (xs : List Mail) (f t : Int) (v : Value) (w : World) (hx : RdM w v xs) :
    Calls Try.prog 27 #[v, .int .i64 f, .int .i64 t] w fun e w' => ∃ u, e = .returned u ∧ OwI w.heap.size w' u (mailWords xs f t) ∧ Below w.heap.size w w' := by
  have HX := Lib.hid hx
  obtain ⟨a, c, rfl, h1, h2, h0, h3⟩ := hx
  have H3 := Lib.hid h3
  unfold maxLen at h2
  clear h3 h0
  cases hv : mailsOk xs
  · have HV := Lib.hid hv
    have r1 := Lib.hid (show mailWords xs f t = [] by simp [mailWords, hv])
    clear hv
    go_enter Try.func27, Try.ntmps27
    go_wp2_with (go_at_call 21; refine (implMailsValid_c xs _ _ HX.out).mono ?_; rintro e w1 ⟨rfl, hb1⟩; rw [HV.out])
    go_ret
    rw [r1.out]
    exact ⟨_, rfl, World.ownsRow_nil _ _ _ _, hb1⟩
  · have h8 : xs.length ≤ 8 := by simp [mailsOk] at hv; exact hv.1
    have HV := Lib.hid hv
    have r1 := Lib.hid (show mailWords xs f t = wordsF xs f t by simp [mailWords, hv])
    clear hv
    go_enter Try.func27, Try.ntmps27
    go_wp2_with (go_at_call 21; refine (implMailsValid_c xs _ _ HX.out).mono ?_; rintro e w1 ⟨rfl, hb1⟩; rw [HV.out])
    go_loopw [7, 15] (fun r i wr => ∃ k : Nat, k ≤ xs.length ∧ i = .int .i64 k ∧ Below w.heap.size w wr ∧ OwI w.heap.size wr r (wordsF (xs.take k) f t)) (fun _ i _ => xs.length - (intOf i).toNat)
    case atStart => exact ⟨0, Nat.zero_le _, rfl, hb1, World.ownsRow_nil _ _ _ _⟩
    case round =>
      obtain ⟨k, hk, rfl, hb, ho⟩ := hrel
      by_cases hlt : k < xs.length
      · obtain ⟨m, hm⟩ : ∃ m, xs[k]? = some m := ⟨_, List.getElem?_eq_getElem hlt⟩
        obtain ⟨b, o, rfl, hbl, hc⟩ := H3.out k m hm
        have c0 := (hb.cell (p := ⟨b, o + k * 3 + 0, none⟩) hbl).trans (hc 0 _ rfl)
        have c1 := (hb.cell (p := ⟨b, o + k * 3 + 1, none⟩) hbl).trans (hc 1 _ rfl)
        have c2 := (hb.cell (p := ⟨b, o + k * 3 + 2, none⟩) hbl).trans (hc 2 _ rfl)
        simp only [Nat.add_zero] at c0
        have hs := wordsF_step (f := f) (t := t) hm
        have hl := wordsF_le (xs.take k) f t
        have hl2 : (xs.take k).length ≤ k := List.length_take_le _ _
        have HS := Lib.hid hs
        have HO := Lib.hid ho
        have hsz := hb.size
        clear hc hm hs ho
        by_cases hf : m.fr = f ∧ m.tu = t
        · have e1 : (m.fr == f) = true := beq_iff_eq.2 hf.1
          have e2 : (m.tu == t) = true := beq_iff_eq.2 hf.2
          have HF := Lib.hid hf
          clear hf
          go_wp2_with (at_builtin; refine append_T eltInt rfl _ _ rfl w.heap.size _ (.slice (some ⟨wr.heap.size + 1, 0, none⟩) 1 1) (wordsF (xs.take k) f t) [m.wd] rfl rfl ((HO.out.below (bnext (balloc wr _) (balloc _ _)))) (RdT.of_block encI_len (xs := [m.wd]) (heap_two_new wr _ _) rfl (by simp)) (by simp; omega) (by simp; omega) ?_; intro v' w' ho hg hat hnil)
          have hb2 : Below w.heap.size w w' := bgrown ((hb.alloc hb.size _).alloc (by simp; omega) _) hg (fun q hq => (World.ownsRow.lt HO.out q hq).1)
          go_roundw
          case rel => exact ⟨k + 1, by omega, by go_num, hb2, by rw [HS.out, if_pos HF.out]; exact ho⟩
          case measure => simp [intOf]; omega
        · have hb2 : Below w.heap.size w (wr.alloc (.cells #[.int .i64 m.fr, .int .i64 m.tu, .int .i64 m.wd] 31)) := hb.alloc hb.size _
          have ho2 := HO.out.below (balloc wr (.cells #[.int .i64 m.fr, .int .i64 m.tu, .int .i64 m.wd] 31))
          have HO2 := Lib.hid ho2
          have HB2 := Lib.hid hb2
          have HF := Lib.hid hf
          clear ho2 hb2
          have hc : (m.fr == f) = false ∨ ((m.fr == f) = true ∧ (m.tu == t) = false) := by
            by_cases h1 : m.fr = f
            · exact .inr ⟨beq_iff_eq.2 h1, beq_eq_false_iff_ne.2 fun h2 => hf ⟨h1, h2⟩⟩
            · exact .inl (beq_eq_false_iff_ne.2 h1)
          clear hf
          rcases hc with e1 | ⟨e1, e2⟩
          all_goals
            go_wp2
            go_roundw
            case rel => exact ⟨k + 1, by omega, by go_num, HB2.out, by rw [HS.out, if_neg HF.out, List.append_nil]; exact HO2.out⟩
            case measure => simp [intOf]; omega
      · go_wp2
        go_ret
        rw [r1.out]
        rw [List.take_of_length_le (by omega)] at ho
        exact ⟨_, rfl, ho, hb⟩

set_option maxHeartbeats 2000000 in
theorem specMailWords_c (xs : List Mail) (f t : Int) (v : Value) (w : World) (hx : RdM w v xs) (hl : xs.length ≤ 2000000) :
    Calls Try.prog 28 #[v, .int .i64 f, .int .i64 t] w fun e w' => ∃ u, e = .returned u ∧ OwI w.heap.size w' u (mailWords xs f t) ∧ Below w.heap.size w w' := by
  have HX := Lib.hid hx
  obtain ⟨a, c, rfl, h1, h2, h0, h3⟩ := hx
  have H3 := Lib.hid h3
  unfold maxLen at h2
  clear h3 h0
  cases hv : mailsOk xs
  · have HV := Lib.hid hv
    have r1 := Lib.hid (show mailWords xs f t = [] by simp [mailWords, hv])
    clear hv
    go_enter Try.func28, Try.ntmps28
    go_wp2
    refine wp_loop_rounds 1 ?_
    rw [rounds_succ]
    by_cases hz : 0 < xs.length
    · go_wp2_with (go_at_call 22; refine (specMailsValid_c xs _ _ (HX.out.below (balloc w _))).mono ?_; rintro e w1 ⟨rfl, hb1⟩; rw [HV.out]; have ho1 := (OwT.lit eltInt w #[] [] rfl (by simp)).below hb1; have hb2 := bthen hb1)
      go_ret
      rw [r1.out]
      exact ⟨_, rfl, ho1, hb2⟩
    · go_wp2
      go_ret
      rw [r1.out]
      exact ⟨_, rfl, OwT.lit eltInt w #[] [] rfl (by simp), balloc w _⟩
  · have h8 : xs.length ≤ 8 := by simp [mailsOk] at hv; exact hv.1
    have HV := Lib.hid hv
    have r1 := Lib.hid (show mailWords xs f t = wordsF xs f t by simp [mailWords, hv])
    clear hv
    have hst := OwT.lit eltInt w #[] [] rfl (by simp)
    have HST := Lib.hid hst
    clear hst
    go_enter Try.func28, Try.ntmps28
    go_wp2
    go_loopw [7, 8] (fun r i wr => ∃ k : Nat, k ≤ xs.length ∧ i = .int .i64 k ∧ Below w.heap.size w wr ∧ OwI w.heap.size wr r (wordsF (xs.take k) f t)) (fun _ i _ => xs.length - (intOf i).toNat)
    case atStart => exact ⟨0, Nat.zero_le _, rfl, balloc w _, HST.out⟩
    case round =>
      obtain ⟨k, hk, rfl, hb, ho⟩ := hrel
      by_cases hlt : k < xs.length
      · obtain ⟨m, hm⟩ : ∃ m, xs[k]? = some m := ⟨_, List.getElem?_eq_getElem hlt⟩
        obtain ⟨b, o, rfl, hbl, hc⟩ := H3.out k m hm
        have c0 := (hb.cell (p := ⟨b, o + k * 3 + 0, none⟩) hbl).trans (hc 0 _ rfl)
        have c1 := (hb.cell (p := ⟨b, o + k * 3 + 1, none⟩) hbl).trans (hc 1 _ rfl)
        have c2 := (hb.cell (p := ⟨b, o + k * 3 + 2, none⟩) hbl).trans (hc 2 _ rfl)
        simp only [Nat.add_zero] at c0
        have hs := wordsF_step (f := f) (t := t) hm
        have hl := wordsF_le (xs.take k) f t
        have hl2 : (xs.take k).length ≤ k := List.length_take_le _ _
        have HS := Lib.hid hs
        have HO := Lib.hid ho
        have hsz := hb.size
        have hbr : b < wr.heap.size := by omega
        clear hc hm hs ho
        by_cases hf : m.fr = f ∧ m.tu = t
        · have e1 : (m.fr == f) = true := beq_iff_eq.2 hf.1
          have e2 : (m.tu == t) = true := beq_iff_eq.2 hf.2
          have HF := Lib.hid hf
          clear hf
          go_wp2_with fail
          refine (specMailsValid_c xs _ _ (HX.out.below hb)).mono ?_
          rintro e w1 ⟨rfl, hb1⟩
          rw [HV.out]
          have d0 := (hb1.cell (p := ⟨b, o + k * 3, none⟩) hbr).trans c0
          have d1 := (hb1.cell (p := ⟨b, o + k * 3 + 1, none⟩) hbr).trans c1
          have d2 := (hb1.cell (p := ⟨b, o + k * 3 + 2, none⟩) hbr).trans c2
          have HO1 := Lib.hid (HO.out.below hb1)
          replace hb1 := bnext hb hb1
          have hsz1 := hb1.size
          go_wp2_with (at_builtin; refine append_T eltInt rfl _ _ rfl w.heap.size _ (.slice (some ⟨w1.heap.size, 0, none⟩) 1 1) (wordsF (xs.take k) f t) [m.wd] rfl rfl ((HO1.out.below (balloc w1 _))) (RdT.of_block encI_len (xs := [m.wd]) (heap_alloc_new w1 _) rfl (by simp)) (by simp; omega) (by simp; omega) ?_; intro v' w' ho hg hat hnil)
          have hb2 : Below w.heap.size w w' := bgrown (hb1.alloc hb1.size _) hg (fun q hq => (World.ownsRow.lt HO.out q hq).1)
          go_roundw
          case rel => exact ⟨k + 1, by omega, by go_num, hb2, by rw [HS.out, if_pos HF.out]; exact ho⟩
          case measure => simp [intOf]; omega
        · have HF := Lib.hid hf
          have hc : (m.fr == f) = false ∨ ((m.fr == f) = true ∧ (m.tu == t) = false) := by
            by_cases h1 : m.fr = f
            · exact .inr ⟨beq_iff_eq.2 h1, beq_eq_false_iff_ne.2 fun h2 => hf ⟨h1, h2⟩⟩
            · exact .inl (beq_eq_false_iff_ne.2 h1)
          clear hf
          rcases hc with e1 | ⟨e1, e2⟩
          all_goals
            go_wp2_with fail
            refine (specMailsValid_c xs _ _ (HX.out.below hb)).mono ?_
            rintro e w1 ⟨rfl, hb1⟩
            rw [HV.out]
            have d0 := (hb1.cell (p := ⟨b, o + k * 3, none⟩) hbr).trans c0
            have d1 := (hb1.cell (p := ⟨b, o + k * 3 + 1, none⟩) hbr).trans c1
            have d2 := (hb1.cell (p := ⟨b, o + k * 3 + 2, none⟩) hbr).trans c2
            have HO1 := Lib.hid (HO.out.below hb1)
            replace hb1 := bnext hb hb1
            go_wp2
            go_roundw
            case rel => exact ⟨k + 1, by omega, by go_num, hb1, by rw [HS.out, if_neg HF.out, List.append_nil]; exact HO1.out⟩
            case measure => simp [intOf]; omega
      · go_wp2
        go_ret
        rw [r1.out]
        rw [List.take_of_length_le (by omega)] at ho
        exact ⟨_, rfl, ho, hb⟩
end Go.Proofs.Ytkpdjnfgmgnjdaa
