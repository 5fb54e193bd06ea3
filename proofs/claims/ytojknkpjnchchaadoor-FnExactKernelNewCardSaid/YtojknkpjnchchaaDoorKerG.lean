/- Contracts of the marks of environments over bundles. No conditions but the readings of the arguments. -/
import Derived.Test.YtojknkpjnchchaaDoorKerF
namespace Go.Proofs.YtojknkpjnchchaaDoor
open Go.ChangeShapes Go.WideShapes Go.RowKit
set_option linter.all false
set_option maxRecDepth 100000
attribute [local go_sem ↓] Go.wp_at_zero Go.wp_at_succ

/-- The rows of environments: where their rights lie, and their numbers. -/
def mkEs (sls : List Sl) (envs : List Env) : List Es := List.zipWith (fun s x => (s, x.rt)) sls envs
abbrev rowE (v : Value) (sls : List Sl) (envs : List Env) : Res := Res.row encE 2 42 v (mkEs sls envs)
abbrev rowR (sls : List Sl) (envs : List Env) : Res := Res.rows encS 1 9 sls (envs.map (·.rg))
theorem mkEs_len {sls : List Sl} {envs : List Env} (h : sls.length = envs.length) : (mkEs sls envs).length = envs.length := by simp [mkEs, h]
theorem mkEs_get {sls : List Sl} {envs : List Env} {k : Nat} {s : Sl} {x : Env} (h1 : sls[k]? = some s) (h2 : envs[k]? = some x) : (mkEs sls envs)[k]? = some (s, x.rt) := by
  simp [mkEs, List.getElem?_zipWith, h1, h2]
theorem mkEs_set {sls : List Sl} {envs : List Env} {k : Nat} {s : Sl} (h1 : sls[k]? = some s) (x : Env) : (mkEs sls envs).set k (s, x.rt) = mkEs sls (envs.set k x) := by
  apply List.ext_getElem?
  intro i
  unfold mkEs
  rw [List.getElem?_set, List.getElem?_zipWith, List.getElem?_zipWith, List.getElem?_set, List.length_zipWith]
  by_cases hi : k = i
  · subst hi
    rw [if_pos rfl, if_pos rfl, h1]
    have := (List.getElem?_eq_some_iff.1 h1).1
    by_cases hl : k < envs.length
    · rw [if_pos (by omega), if_pos hl]
    · rw [if_neg (by omega), if_neg hl]
  · rw [if_neg hi, if_neg hi]
theorem mkEs_fst {sls : List Sl} {envs : List Env} (h : sls.length = envs.length) : (mkEs sls envs).map (·.1) = sls := by
  apply List.ext_getElem?
  intro i
  unfold mkEs
  rw [List.getElem?_map, List.getElem?_zipWith]
  cases h1 : sls[i]? with
  | none => rfl
  | some s =>
    have := (List.getElem?_eq_some_iff.1 h1).1
    obtain ⟨x, hx⟩ : ∃ x, envs[i]? = some x := ⟨_, List.getElem?_eq_getElem (by omega)⟩
    rw [hx]; rfl
theorem mkEs_snd {sls : List Sl} {envs : List Env} (h : sls.length = envs.length) : (mkEs sls envs).map (·.2) = envs.map (·.rt) := by
  apply List.ext_getElem?
  intro i
  unfold mkEs
  rw [List.getElem?_map, List.getElem?_zipWith, List.getElem?_map]
  cases h1 : envs[i]? with
  | none => cases sls[i]? <;> rfl
  | some s =>
    have := (List.getElem?_eq_some_iff.1 h1).1
    obtain ⟨x, hx⟩ : ∃ x, sls[i]? = some x := ⟨_, List.getElem?_eq_getElem (by omega)⟩
    rw [hx]; rfl

/-- The marks of environments. -/
def envW (x : Env) : Nat := x.rg.length + 1
def marksE : Int → List Env → List Env
  | _, [] => []
  | q, x :: t => ⟨marksS q x.rg.length, q + x.rg.length⟩ :: marksE (q + x.rg.length + 1) t
theorem marksE_len : ∀ (xs : List Env) (q : Int), (marksE q xs).length = xs.length := by
  intro xs
  induction xs with
  | nil => intro q; rfl
  | cons x t ih => intro q; simp [marksE, ih]
theorem marksE_get : ∀ (xs : List Env) (q : Int) (k : Nat) (x : Env), xs[k]? = some x → (marksE q xs)[k]? = some ⟨marksS (q + sumBy envW (xs.take k)) x.rg.length, q + sumBy envW (xs.take k) + x.rg.length⟩ := by
  intro xs
  induction xs with
  | nil => intro q k x h; simp at h
  | cons y t ih =>
    intro q k x h
    cases k with
    | zero => simp at h; subst h; simp [marksE, sumBy]
    | succ k =>
      simp at h
      have := ih (q + y.rg.length + 1) k x h
      have e : q + y.rg.length + 1 + (sumBy envW (t.take k) : Int) = q + (sumBy envW ((y :: t).take (k + 1)) : Int) := by
        simp only [List.take_succ_cons, sumBy, List.map_cons, List.sum_cons, envW]
        push_cast
        omega
      simp only [marksE, List.getElem?_cons_succ, this, e]

section
variable {w0 w w' : World} {row : Option Nat} {rs : List Res}
theorem Bun.rdE {v : Value} {sls : List Sl} {envs : List Env} (h : Bun w0 row w rs) (i j : Nat) (hi : rs[i]? = some (rowE v sls envs)) (hj : rs[j]? = some (rowR sls envs)) : RdE w v envs := by
  have hin : InO encS 1 9 0 w.heap.size w sls (envs.map (·.rg)) := h.get j hj
  have hl : sls.length = envs.length := by simpa using hin.len
  exact ⟨mkEs sls envs, h.rd i hi encE_len, by rw [mkEs_fst hl]; exact hin.rd encS_len, mkEs_snd hl⟩

set_option maxHeartbeats 2000000 in
theorem markEnvS_b (envs : List Env) (v : Value) (sls : List Sl) (q : Int) (H : Bun w0 row w (rowE v sls envs :: rowR sls envs :: rs)) (hq : 1 ≤ q ∧ q ≤ 40000000) (hl : (envs.length : Int) + sumBy envW envs ≤ 2000000) :
    Calls Tryd.prog 29 #[v, .int .i64 q] w fun e w' => e = .returned (.int .i64 (q + sumBy envW envs)) ∧ Bun w0 row w' (rowE v sls (marksE q envs) :: rowR sls (marksE q envs) :: rs) := by
  have hml := marksE_len envs q
  have hrl : sls.length = envs.length := by simpa using (show InO encS 1 9 0 w.heap.size w sls (envs.map (·.rg)) from H.get 1 rfl).len
  have HML := Lib.hid hml
  have HRL := Lib.hid hrl
  obtain ⟨a, c, rfl, h1, h2, -, -⟩ := H.rd 0 rfl encE_len
  unfold maxLen at h2
  have hn2 := mkEs_len hrl
  obtain ⟨n, hn⟩ : ∃ n, n = (mkEs sls envs).length := ⟨_, rfl⟩
  rw [← hn] at h1 H ⊢
  have HN := Lib.hid (hn.trans hn2)
  have HL := Lib.hid hl
  have H0 : Bun w0 row w (rowE (.slice a n c) sls (markedBy (marksE q envs) envs 0) :: rowR sls (markedBy (marksE q envs) envs 0) :: rs) := by rw [markedBy_zero]; exact H
  clear hn hn2 hml hrl hl H
  go_enter Tryd.func29, Tryd.ntmps29
  go_wp2
  go_loopw [1, 5] (fun t i wr => ∃ k : Nat, k ≤ n ∧ i = .int .i64 k ∧ t = .int .i64 (q + sumBy envW (envs.take k)) ∧ Bun w0 row wr (rowE (.slice a n c) sls (markedBy (marksE q envs) envs k) :: rowR sls (markedBy (marksE q envs) envs k) :: rs)) (fun _ i _ => n - (intOf i).toNat)
  case atStart => exact ⟨0, Nat.zero_le _, rfl, by simp [sumBy], H0⟩
  case round =>
    obtain ⟨k, hk, rfl, rfl, hb⟩ := hrel
    have HB := Lib.hid hb
    clear hb
    by_cases hlt : k < n
    · obtain ⟨x, hx⟩ : ∃ x, envs[k]? = some x := ⟨_, List.getElem?_eq_getElem (by have := HN.out; omega)⟩
      have hold : (markedBy (marksE q envs) envs k)[k]? = some x := by
        unfold markedBy
        have hlen : ((marksE q envs).take k).length = k := by
          have h1 := HML.out
          have h2 := HN.out
          simp; omega
        rw [List.getElem?_append_right (by omega), hlen, Nat.sub_self, List.getElem?_drop]
        simpa using hx
      obtain ⟨s, hrow, hos⟩ := (show InO encS 1 9 0 wr.heap.size wr sls ((markedBy (marksE q envs) envs k).map (·.rg)) from HB.out.get 1 rfl).get (show ((markedBy (marksE q envs) envs k).map (·.rg))[k]? = some x.rg by rw [List.getElem?_map, hold]; rfl)
      obtain ⟨a2, c2, hv2, -, -, -, -, -, h3⟩ := HB.out.at 0 rfl encE_len (mkEs_get hrow hold)
      simp only [Value.slice.injEq] at hv2
      obtain ⟨rfl, -, rfl⟩ := hv2
      have c0 := h3 0 _ rfl
      simp only [Nat.add_zero] at c0
      have hsl := sumBy_take_le envW envs k
      have hll := le_sumBy envW hx
      have hwx : envW x = x.rg.length + 1 := rfl
      have HST := Lib.hid (sumBy_take envW hx)
      have HWX := Lib.hid hwx
      have HG := Lib.hid (marksE_get envs q k x hx)
      have HBB := Lib.hid (show (1 ≤ q + (sumBy envW (envs.take k) : Int) ∧ q + (sumBy envW (envs.take k) : Int) ≤ 50000000) ∧ x.rg.length ≤ 2000000 by have := HL.out; omega)
      have HOS := Lib.hid hos
      have HROW := Lib.hid hrow
      have HOLD := Lib.hid hold
      clear h3 hx hold hrow hos hsl hll hwx
      go_wp2_with fail
      refine (markStringS_c x.rg (slv s) _ 0 _ HOS.out.1 (by have := HBB.out.1; omega) HBB.out.2).mono ?_
      rintro e w2 ⟨rfl, ho1, hg1, hn1⟩
      have hm := ((HB.out.front 1 rfl).modRow HROW.out ho1 hg1 hn1).front 1 rfl
      obtain ⟨g, c3, hv3, -, -, -, -, hfz, h4⟩ := hm.at 0 rfl encE_len (mkEs_get HROW.out HOLD.out)
      simp only [Value.slice.injEq, Option.some.injEq, Addr.mk.injEq, and_true] at hv3
      obtain ⟨rfl, -, rfl⟩ := hv3
      have d1 := h4 1 _ rfl
      have f1 := hfz (k * 2 + 1)
      have hm2 := hm.store (j := 1) (x' := (s, q + sumBy envW (envs.take k) + x.rg.length)) (u := .int .i64 (q + sumBy envW (envs.take k) + x.rg.length)) encE_len (mkEs_get HROW.out HOLD.out) (by omega) rfl
      have e1 := mkEs_set (envs := markedBy (marksE q envs) envs k) HROW.out ⟨marksS (q + sumBy envW (envs.take k)) x.rg.length, q + sumBy envW (envs.take k) + x.rg.length⟩
      dsimp only at e1
      have e2 : ((markedBy (marksE q envs) envs k).map (·.rg)).set k (marksS (q + sumBy envW (envs.take k)) x.rg.length) = ((markedBy (marksE q envs) envs k).set k ⟨marksS (q + sumBy envW (envs.take k)) x.rg.length, q + sumBy envW (envs.take k) + x.rg.length⟩).map (·.rg) := by rw [List.map_set]
      rw [e1, e2, markedBy_step _ _ _ _ HML.out HG.out] at hm2
      have HM := Lib.hid hm2
      have hp : (0 : Int) ≤ q + (sumBy envW (envs.take k) : Int) + x.rg.length := by have := HBB.out; omega
      have hp1 : q + (sumBy envW (envs.take k) : Int) + x.rg.length ≤ 60000000 := by have := HBB.out; omega
      clear hm hm2 e1 e2 hfz h4 ho1 hg1 hn1 HB
      go_wp2
      go_roundw
      case rel => exact ⟨k + 1, by omega, by go_num, by have := HST.out; have := HWX.out; first | (congr 1; omega) | (simp; omega), HM.out⟩
      case measure => simp [intOf]; omega
    · go_wp2
      go_ret
      have h3 : k = envs.length := by have := HN.out; omega
      subst h3
      rw [sumBy_all envW (Nat.le_refl _)]
      have hbb := HB.out
      rw [markedBy_all _ _ HML.out] at hbb
      exact ⟨rfl, hbb⟩
end

set_option maxHeartbeats 2000000 in
theorem heldEnvS_c (envs : List Env) (v : Value) (q : Int) (w : World) (hx : RdE w v (marksE q envs)) (hq : 1 ≤ q ∧ q ≤ 40000000) (hl : (envs.length : Int) + sumBy envW envs ≤ 2000000) : Calls Tryd.prog 33 #[v, .int .i64 q] w fun e w' =>
    e = .returned (.int .i64 (q + sumBy envW envs)) ∧ Below w.heap.size w w' := by
  obtain ⟨rows, ⟨a, c, rfl, h1, h2, -, h3⟩, hin, hrt⟩ := hx
  have HIN := Lib.hid hin
  have HRT := Lib.hid hrt
  have H3 := Lib.hid h3
  have hn2 : rows.length = envs.length := (RdE.len hin).trans (marksE_len envs q)
  obtain ⟨n, hn⟩ : ∃ n, n = rows.length := ⟨_, rfl⟩
  rw [← hn] at h1 ⊢
  have HN2 := Lib.hid (hn.trans hn2)
  have HL := Lib.hid hl
  unfold maxLen at h2
  clear h3 hin hrt hn hn2 hl
  go_enter Tryd.func33, Tryd.ntmps33
  go_wp2
  go_loopw [1, 5] (fun t i wr => ∃ k : Nat, k ≤ n ∧ i = .int .i64 k ∧ t = .int .i64 (q + sumBy envW (envs.take k)) ∧ Below w.heap.size w wr) (fun _ i _ => n - (intOf i).toNat)
  case atStart => exact ⟨0, Nat.zero_le _, rfl, by simp [sumBy], bref _⟩
  case round =>
    obtain ⟨k, hk, rfl, rfl, hb⟩ := hrel
    by_cases hlt : k < n
    · obtain ⟨x, hx⟩ : ∃ x, envs[k]? = some x := ⟨_, List.getElem?_eq_getElem (by have := HN2.out; omega)⟩
      obtain ⟨s, hrow, hrd⟩ := getE HIN.out HRT.out (marksE_get envs q k x hx)
      obtain ⟨b, o, rfl, hbl, hc⟩ := H3.out k _ hrow
      have c0 := (hb.cell (p := ⟨b, o + k * 2 + 0, none⟩) hbl).trans (hc 0 _ rfl)
      have C1 := Lib.hid (hc 1 _ rfl)
      simp only [Nat.add_zero] at c0
      have hsl := sumBy_take_le envW envs k
      have hll := le_sumBy envW hx
      have hwx : envW x = x.rg.length + 1 := rfl
      have HST := Lib.hid (sumBy_take envW hx)
      have HWX := Lib.hid hwx
      have HBB := Lib.hid (show (1 ≤ q + (sumBy envW (envs.take k) : Int) ∧ q + (sumBy envW (envs.take k) : Int) ≤ 50000000) ∧ x.rg.length ≤ 2000000 by have := HL.out; omega)
      have HRD := Lib.hid (hrd.below hb)
      clear hc hx hrow hrd hsl hll hwx
      go_wp2_with fail
      refine (heldStringS_c x.rg.length (slv s) _ _ HRD.out (by have := HBB.out.1; omega) HBB.out.2).mono ?_
      rintro e w2 ⟨rfl, hb2⟩
      have hb3 := bnext hb hb2
      have c1 := (hb3.cell (p := ⟨b, o + k * 2 + 1, none⟩) hbl).trans C1.out
      have hp : (0 : Int) ≤ q + (sumBy envW (envs.take k) : Int) + x.rg.length := by have := HBB.out; omega
      have hp1 : q + (sumBy envW (envs.take k) : Int) + x.rg.length ≤ 60000000 := by have := HBB.out; omega
      clear hb2
      go_wp2
      go_roundw
      case rel => exact ⟨k + 1, by omega, by go_num, by have := HST.out; have := HWX.out; first | (congr 1; omega) | (simp; omega), hb3⟩
      case measure => simp [intOf]; omega
    · go_wp2
      go_ret
      rw [sumBy_all envW (by have := HN2.out; omega)]
      exact ⟨rfl, hb⟩
end Go.Proofs.YtojknkpjnchchaaDoor
