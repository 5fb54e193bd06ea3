/- Contracts of the copies of slices of integer slices. No conditions but the readings of the arguments. -/
import Derived.Test.YtklphfmjdgnpnaaDoorSwapD
namespace Go.Proofs.YtklphfmjdgnpnaaDoor
open Go.ChangeShapes Go.WideShapes Go.RowKit
set_option linter.all false
set_option maxRecDepth 100000
attribute [local go_sem ↓] Go.wp_at_zero Go.wp_at_succ

set_option maxHeartbeats 1000000 in
theorem ownWords_c (xss : List (List Int)) (v : Value) (w : World) (hx : RdII w v xss) (hl : (xss.length : Int) + sumLen xss ≤ 2000000) : Calls Tryd.prog 71 #[v] w fun e w' =>
    ∃ u, e = .returned u ∧ OwII w.heap.size w'.heap.size w' u xss ∧ Below w.heap.size w w' := by
  obtain ⟨rows, hr, hin⟩ := hx
  have HIN := Lib.hid hin
  have HR := Lib.hid hr
  have HL := Lib.hid hl
  have hlen := hin.1
  have HLEN := Lib.hid hlen
  have HRL := Lib.hid (show rows.length ≤ 2000000 by omega)
  clear hin hr hl hlen
  go_enter Tryd.func71, Tryd.ntmps71
  go_wp2_with fail
  refine (cloneRow_c rows v w HR.out HRL.out).mono ?_
  rintro e w1 ⟨u, rfl, ho1, hb1⟩
  have hs1 := hb1.size
  obtain ⟨a0, c0, hv, h1, h2, -, -⟩ := ho1.rd encL_len
  subst hv
  unfold maxLen at h2
  obtain ⟨n, hn⟩ : ∃ n, n = rows.length := ⟨_, rfl⟩
  have hof := OwF.of ho1 (Nat.le_refl _)
  rw [← hn] at h1 hof ⊢
  have HN := Lib.hid hn
  clear hn ho1
  go_wp2
  go_loopw [10] (fun i wr => ∃ k : Nat, k ≤ n ∧ i = .int .i64 k ∧ Below w.heap.size w wr ∧ ∃ cur : List Sl, OwF encL 1 27 w.heap.size wr.heap.size wr (.slice a0 n c0) cur ∧ Hid (cur.length = n ∧ ∀ i, k ≤ i → cur[i]? = rows[i]?) ∧ InO encI 1 3 w.heap.size wr.heap.size wr (cur.take k) (xss.take k)) (fun i _ => n - (intOf i).toNat)
  case atStart => exact ⟨0, Nat.zero_le _, rfl, hb1, rows, hof, ⟨HN.out.symm, fun i _ => rfl⟩, by simpa using InO.empty _ _ _⟩
  case round =>
    obtain ⟨k, hk, rfl, hb, cur, ho, hcur, hi⟩ := hrel
    by_cases hlt : k < n
    · obtain ⟨xs, hxs⟩ : ∃ xs, xss[k]? = some xs := ⟨_, List.getElem?_eq_getElem (by have := HN.out; have := HLEN.out; omega)⟩
      obtain ⟨s, hrow, hrd⟩ := HIN.out.get hxs
      have hck : cur[k]? = some s := (hcur.out.2 k (Nat.le_refl _)).trans hrow
      obtain ⟨a2, c2, hv2, h12, h22, -, h3⟩ := ho.rd encL_len
      simp only [Value.slice.injEq] at hv2
      obtain ⟨rfl, -, rfl⟩ := hv2
      obtain ⟨b, o, rfl, hbl, hcc⟩ := h3 k s hck
      have d0 := hcc 0 _ rfl
      simp only [Nat.add_zero, Nat.mul_one] at d0
      have hll := len_le_sum hxs
      have HLL := Lib.hid (show xs.length ≤ 2000000 by have := HL.out; omega)
      have HXS := Lib.hid hxs
      have HRD := Lib.hid (hrd.below hb)
      have HO := Lib.hid ho
      have HI := Lib.hid hi
      have HCK := Lib.hid hck
      clear hcc h3 hxs hrow hrd hck ho hi hll
      go_wp2_with fail
      refine (cloneInt_c xs (slv s) _ HRD.out HLL.out).mono ?_
      rintro e w2 ⟨u, rfl, ho2, hb2⟩
      obtain ⟨⟨sa, sn, sc⟩, rfl⟩ := (ho2.rd encI_len).sl
      have hcc2 := Chg.of_below hb2
      have hO2 := HO.out.keep hcc2 (.inr (Nat.zero_le _))
      have hI2 := HI.out.keep hcc2 (.inr (Nat.zero_le _))
      have hof2 := OwF.of ho2 (Nat.le_refl _)
      have hw := hO2
      have hlc := hcur.out.1
      obtain ⟨g, c3, cu3, hg, -⟩ : ∃ g c3 cu3, Value.slice (some ⟨b, o, none⟩) n c0 = .slice (some ⟨g, 0, none⟩) n c3 ∧ w2.heap[g]? = some (.cells cu3 27 (0, 0)) := by
        rcases hO2.1.2 with ⟨h, hz⟩ | ⟨g, cap, cu3, h, hg1, hg2, -⟩
        · simp at h
        · simp only [Value.slice.injEq] at h
          obtain ⟨h, -, rfl⟩ := h
          rw [h]
          exact ⟨g, _, _, rfl, hg2⟩
      simp only [Value.slice.injEq, Option.some.injEq, Addr.mk.injEq, and_true, true_and] at hg
      obtain ⟨⟨rfl, rfl⟩, rfl⟩ := hg
      have e2 := (hO2.lt b rfl).2.2
      have hgl := (hO2.lt b rfl).1
      have f0 := (hO2.1.open encL_len).2.2.2.2.2.1 k
      have d1 := (hb2.cell (p := ⟨b, 0 + k, none⟩) hbl).trans d0
      simp only [Nat.zero_add] at d1
      -- the outer slice, behind the store
      have hst := hO2.1.stored1 encL_len k (sa, sn, sc) (slv (sa, sn, sc)) (by omega) rfl
      have hstay : ∀ g', g' ≠ b → (w2.setCell ⟨b, k, none⟩ (slv (sa, sn, sc))).heap[g']? = w2.heap[g']? := fun g' h => Below.heap_setCell w2 ⟨b, k, none⟩ (slv (sa, sn, sc)) g' h
      have hof3 := hof2.stay (w' := w2.setCell ⟨b, k, none⟩ (slv (sa, sn, sc))) (fun g' hg' => hstay g' (by rintro rfl; exact hof2.other neSl hO2 _ hg' rfl))
      have hI3 := hI2.stay (w' := w2.setCell ⟨b, k, none⟩ (slv (sa, sn, sc))) (fun t g' ht hg' => hstay g' (by
        rintro rfl
        obtain ⟨i, hi⟩ := List.getElem?_of_mem ht
        obtain ⟨ys, -, hoy⟩ := hI2.rget hi
        exact hoy.other neSl hO2 _ hg' rfl))
      have hsn := hI3.snoc hof3 (Nat.le_refl _) hb.size hb2.size
      have htk : (cur.set k (sa, sn, sc)).take (k + 1) = cur.take k ++ [(sa, sn, sc)] := by
        rw [List.take_add_one, List.take_set_of_le (Nat.le_refl _)]
        simp [hlc, hlt]
      have htx : xss.take (k + 1) = xss.take k ++ [xs] := by rw [List.take_add_one, HXS.out]; rfl
      rw [← htk, ← htx] at hsn
      have HSN := Lib.hid hsn
      have HST := Lib.hid (show OwF encL 1 27 w.heap.size w2.heap.size (w2.setCell ⟨b, k, none⟩ (slv (sa, sn, sc))) (.slice (some ⟨b, 0, none⟩) n c0) (cur.set k (sa, sn, sc)) from ⟨hst, fun q hq => ⟨(hO2.lt q hq).1, by have := (hO2.lt q hq).2.2; omega⟩⟩)
      have HCU := Lib.hid (show (cur.set k (sa, sn, sc)).length = n ∧ ∀ i, k + 1 ≤ i → (cur.set k (sa, sn, sc))[i]? = rows[i]? from ⟨by simpa using hlc, fun i hi => by rw [List.getElem?_set_ne (by omega)]; exact hcur.out.2 i (by omega)⟩)
      have hb3 : Below w.heap.size w w2 := bnext hb hb2
      clear hsn hst htk htx hI3 hof3 hstay hO2 hI2 hof2 hcc2 hw ho2 hlc
      simp only [slv] at HSN HST ⊢
      go_wp2
      go_roundw
      case rel => exact ⟨k + 1, by omega, by go_num, hb3.setCell hgl _, _, by have := HST.out; simpa using this, HCU.out, by have := HSN.out; simpa using this⟩
      case measure => simp [intOf]; omega
    · go_wp2
      go_ret
      refine ⟨_, rfl, ⟨cur, ho, ?_⟩, hb⟩
      have h3 := hcur.out.1
      have h4 := HLEN.out
      have h5 := HN.out
      rw [List.take_of_length_le (by omega), List.take_of_length_le (by omega)] at hi
      exact hi

theorem OwF.grow {α : Type} {enc : α → List Value} {K : Nat} {e : TypeId} {lo hi : Nat} {w w' : World} {v : Value} {xs : List α} {row : Option Nat} (h : OwF enc K e lo hi w v xs) (hg : w.grownBy w' row) (hne : ∀ g, v.ownBlock = some g → row ≠ some g) : OwF enc K e lo hi w' v xs :=
  h.stay fun g hgv => hg.block g (h.lt g hgv).2.2 (fun he => hne g hgv he.symm)

end Go.Proofs.YtklphfmjdgnpnaaDoor
