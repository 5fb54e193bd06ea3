/- The contract of the function that drops rights one by one. No conditions but the readings of the arguments and the sizes of the texts. -/
import Derived.Test.YtldkmibmabpfmaaDoorRightD
import Derived.Test.YtldkmibmabpfmaaDoorRd
namespace Go.Proofs.YtldkmibmabpfmaaDoor
open Go.ChangeShapes Go.WideShapes Go.RowKit
set_option linter.all false
attribute [local go_sem ↓] Go.wp_at_zero Go.wp_at_succ

/-- An owned slice of texts. -/
abbrev rowT (u : Value) (xs : List Txt) : Res := Res.row encS 1 9 u xs
theorem keep_succ {xs : List Txt} {k : Nat} {x g : Txt} (hx : xs[k]? = some x) (h : covB g x = false) : (xs.take (k + 1)).filter (fun r => !covB g r) = (xs.take k).filter (fun r => !covB g r) ++ [x] := by
  rw [List.take_add_one, hx]; simp [List.filter_append, h]
theorem skip_succ {xs : List Txt} {k : Nat} {x g : Txt} (hx : xs[k]? = some x) (h : covB g x = true) : (xs.take (k + 1)).filter (fun r => !covB g r) = (xs.take k).filter (fun r => !covB g r) := by
  rw [List.take_add_one, hx]; simp [List.filter_append, h]

set_option maxHeartbeats 2000000 in
theorem l11Drop_c (xs : List Txt) (v : Value) (g : Txt) (w : World) (h : RdS w v xs) (hf : fitS xs) (hg : g.length ≤ 9223372036854775807) (hn6 : xs.length ≤ 1000) : Calls Tryd.prog 44 #[v, tv g] w fun e w' =>
    ∃ u, e = .returned u ∧ Bun w none w' [rowT u (xs.filter (fun r => !covB g r))] := by
  obtain ⟨n, hn⟩ : ∃ n, n = xs.length := ⟨_, rfl⟩
  obtain ⟨a, c, rfl, h1, h2, h0, h3⟩ := h
  rw [← hn] at h1 hn6 ⊢
  have HN := Lib.hid hn
  have H3 := Lib.hid h3
  have HF := Lib.hid hf
  unfold maxLen at h2
  clear hn h3 hf h0
  go_enter Tryd.func44, Tryd.ntmps44
  go_wp2
  go_loopw [5, 6] (fun u i wr => ∃ k : Nat, k ≤ n ∧ i = .int .i64 k ∧ Bun w none wr [rowT u ((xs.take k).filter (fun r => !covB g r))]) (fun _ i _ => n - (intOf i).toNat)
  case atStart => exact ⟨0, Nat.zero_le _, rfl, by simpa using (Bun.refl w none).lit eltStr #[] [] rfl (by simp)⟩
  case round =>
    obtain ⟨k, hk, rfl, hb⟩ := hrel
    have HB := Lib.hid hb
    clear hb
    by_cases hlt : k < n
    · obtain ⟨x, hx⟩ : ∃ x, xs[k]? = some x := ⟨_, List.getElem?_eq_getElem (by have := HN.out; omega)⟩
      obtain ⟨b, o, rfl, hbl, hc⟩ := H3.out k x hx
      have d0 := (HB.out.below.cell (p := ⟨b, o + k * 1 + 0, none⟩) hbl).trans (hc 0 _ rfl)
      simp only [Nat.mul_one, Nat.add_zero] at d0
      have hxs := HF.out x (List.mem_of_getElem? hx)
      have HX := Lib.hid hx
      clear hx hc
      go_wp2_with fail
      refine (l11Covers_c g x _ hg hxs).mono ?_
      rintro e w1 ⟨rfl, rfl⟩
      cases hv : covB g x
      · have HV := Lib.hid hv
        clear hv
        have hlen : ((xs.take k).filter (fun r => !covB g r)).length ≤ k := Nat.le_trans (List.length_filter_le _ _) (by simp; omega)
        have HL := Lib.hid hlen
        clear hlen
        have H1 := Lib.hid ((HB.out.lits eltStr #[tv x] [x] 1 rfl rfl (by omega)).front 1 rfl)
        go_wp2_with (at_builtin; refine append_b eltStr rfl _ _ rfl _ _ [x] rfl rfl H1.out (H1.out.rd 1 rfl encS_len) (by have := HL.out; simp only [List.length_cons, List.length_nil]; omega) ?_; intro v2 w2 H2 hnil2)
        have H4 := Lib.hid ((H2.front 1 rfl).drop)
        clear H2 hnil2
        go_roundw
        case rel => exact ⟨k + 1, by omega, by go_num, by rw [keep_succ HX.out HV.out]; exact H4.out⟩
        case measure => simp [intOf]; omega
      · have HV := Lib.hid hv
        clear hv
        go_wp2
        go_roundw
        case rel => exact ⟨k + 1, by omega, by go_num, by rw [skip_succ HX.out HV.out]; exact HB.out⟩
        case measure => simp [intOf]; omega
    · go_wp2
      go_ret
      exact ⟨_, rfl, by have h := HB.out; rw [List.take_of_length_le (by have := HN.out; omega)] at h; exact h⟩

theorem specRightsDrop_c (xs : List Txt) (v : Value) (g : Txt) (w : World) (h : RdS w v xs) (hf : fitS xs) (hg : g.length ≤ 9223372036854775807) : Calls Tryd.prog 27 #[v, tv g] w fun e w' =>
    ∃ u, e = .returned u ∧ Bun w none w' [rowT u (dropL xs g)] := by
  have HR := Lib.hid (show dropL xs g = (if rightsOk xs && rightOk g then xs.filter (fun r => !covB g r) else []) from rfl)
  have HH := Lib.hid h
  cases h1 : rightsOk xs
  · have H1 := Lib.hid h1
    clear h1
    go_enter Tryd.func27, Tryd.ntmps27
    go_wp2_with fail
    refine (specRightsValid_c xs v _ HH.out hf).mono ?_
    rintro e w1 ⟨rfl, hb1⟩
    rw [H1.out]
    have HB := Lib.hid ((Bun.refl w none).call hb1)
    go_wp2
    go_ret
    exact ⟨_, rfl, by rw [HR.out, H1.out]; exact HB.out.lit eltStr #[] [] rfl (by simp)⟩
  · cases h2 : rightOk g
    all_goals
      have H1 := Lib.hid h1
      have H2 := Lib.hid h2
      clear h1 h2
      go_enter Tryd.func27, Tryd.ntmps27
      go_wp2_with fail
      refine (specRightsValid_c xs v _ HH.out hf).mono ?_
      rintro e w1 ⟨rfl, hb1⟩
      rw [H1.out]
      have HB := Lib.hid ((Bun.refl w none).call hb1)
      go_wp2_with fail
      refine (specRightValid_c g _ hg).mono ?_
      rintro e w2 ⟨rfl, rfl⟩
      rw [H2.out]
    · go_wp2
      go_ret
      exact ⟨_, rfl, by rw [HR.out, H1.out, H2.out]; exact HB.out.lit eltStr #[] [] rfl (by simp)⟩
    · go_wp2_with fail
      refine (l11Drop_c xs v g _ (HH.out.below hb1) hf hg (by have := rightsOk_len H1.out; omega)).mono ?_
      rintro e w3 ⟨u, rfl, H3⟩
      go_wp2
      go_ret
      exact ⟨u, rfl, by rw [HR.out, H1.out, H2.out]; exact HB.out.addT (H3.ow 0 rfl) H3.below⟩
end Go.Proofs.YtldkmibmabpfmaaDoor
