/- How arguments that are kernels are read. No conditions. -/
import Derived.Test.YtojknkpjnchchaaGreatDoorGOpen
import Derived.Test.YtojknkpjnchchaaGreatDoorKerZ
namespace Go.Proofs.YtojknkpjnchchaaGreatDoor
open Go.ChangeShapes Go.WideShapes Go.ChangeAt Go.ChangeMaps Go.RowKit
set_option linter.all false
set_option maxRecDepth 100000

theorem cellsBool : Tryz.prog.cellsOf 4 = 1 := by kernel_rfl
theorem cellsLawsEnv : Tryz.prog.cellsOf 100 = 2 := by kernel_rfl
theorem cellsLawsCached : Tryz.prog.cellsOf 111 = 4 := by kernel_rfl
theorem cellsLawsKernel : Tryz.prog.cellsOf 27 = 4 := by kernel_rfl
theorem cellsSSI : Tryz.prog.cellsOf 22 = 1 := by kernel_rfl
theorem cellsSInf : Tryz.prog.cellsOf 23 = 1 := by kernel_rfl
theorem cellsSEnv : Tryz.prog.cellsOf 24 = 1 := by kernel_rfl
theorem cellsSCac : Tryz.prog.cellsOf 25 = 1 := by kernel_rfl

/-- Rows of environments with their rights. -/
theorem RdE.make {w : World} : ∀ rows : List Es, (∀ x ∈ rows, ∃ xs : List Txt, RdSF w (slv x.1) xs) → ∃ es : List Env, InR encS 1 w (rows.map (·.1)) (es.map (·.rg)) ∧ rows.map (·.2) = es.map (·.rt) ∧ fitE es := by
  intro rows
  induction rows with
  | nil => intro _; exact ⟨[], ⟨rfl, fun k s xs h => by simp at h⟩, rfl, by intro e he; simp at he⟩
  | cons s t ih =>
    intro h
    obtain ⟨xs, hx, hf⟩ := h s (by simp)
    obtain ⟨es, ⟨hl, hi⟩, hrt, hff⟩ := ih (fun s hs => h s (by simp [hs]))
    refine ⟨⟨xs, s.2⟩ :: es, ⟨by simpa using hl, fun k s' ys h1 h2 => ?_⟩, by simpa using hrt, ?_⟩
    · cases k with
      | zero => simp at h1 h2; subst h1; subst h2; exact hx
      | succ k => simp only [List.map_cons, List.getElem?_cons_succ] at h1 h2; exact hi k s' ys h1 h2
    · intro e he
      rcases List.mem_cons.1 he with rfl | he
      · exact hf
      · exact hff e he

section
variable {H : Type} {enc0 : TypeId × Value → H} {w : World} {base b2 : Nat} {spare : Nat → Bool} {held : Bool} {v : Value} {d : DataW H} {p : List MemPlace} {r : Reach}

theorem iiCells {n : Nat} {v : Value} {y : DataW H × List MemPlace} (hy : DataW.trod enc0 Tryz.prog w base spare held n 22 [v] = some y) : ∃ xss, RdII w v xss := by
  have helem : ∀ n cs y, cs.length = 1 → DataW.trod enc0 Tryz.prog w base spare held n 41 cs = some y → ∃ x : Sl, encL x = cs ∧ ∃ xs : List Int, RdI w (slv x) xs := by
    intro n cs y hl hy
    match cs, hl with
    | [c0], _ =>
      obtain ⟨xs, hx⟩ := intsCells hy
      obtain ⟨s, rfl⟩ := hx.sl
      exact ⟨s, rfl, xs, hx⟩
  obtain ⟨rows, hr, hg⟩ := RdT.of_trod (α := Sl) (enc := encL) (Good := fun s => ∃ xs : List Int, RdI w (slv s) xs) Tryz.underlying22 cellsSlI (by decide) encL_len helem hy
  obtain ⟨xss, hi⟩ := InR.make rows hg
  exact ⟨xss, rows, hr, hi⟩

theorem infosCells {n : Nat} {v : Value} {y : DataW H × List MemPlace} (hy : DataW.trod enc0 Tryz.prog w base spare held n 23 [v] = some y) : ∃ xs, RdFF w v xs := by
  have helem : ∀ n cs y, cs.length = 3 → DataW.trod enc0 Tryz.prog w base spare held n 98 cs = some y → ∃ x : Info, x.enc = cs ∧ x.gd.length ≤ 9223372036854775807 := fun n cs y hl hy => infoCells hl hy
  obtain ⟨xs, hx, hg⟩ := RdT.of_trod (α := Info) (enc := Info.enc) (Good := fun x => x.gd.length ≤ 9223372036854775807) Tryz.underlying23 cellsLawsInfo (by decide) Info.enc_len helem hy
  exact ⟨xs, hx, hg⟩

theorem envCells {n : Nat} {cs : List Value} {y : DataW H × List MemPlace} (hl : cs.length = 2) (hy : DataW.trod enc0 Tryz.prog w base spare held n 100 cs = some y) : ∃ x : Es, encE x = cs ∧ ∃ xs : List Txt, RdSF w (slv x.1) xs := by
  obtain ⟨ys, n', _, _, _, hl2, hf⟩ := DataW.trod_struct Tryz.underlying100 hy
  match cs, hl with
  | [c0, c1], _ =>
    have f0 : DataW.trod enc0 Tryz.prog w base spare held n' 53 [c0] = ys[0]? := by have := hf 0 _ rfl; simpa [cellsInt, cellsSlS] using this
    have f1 : DataW.trod enc0 Tryz.prog w base spare held n' 3 [c1] = ys[1]? := by have := hf 1 _ rfl; simpa [cellsInt, cellsSlS] using this
    have hl3 : ys.length = 2 := by rw [hl2]; rfl
    rw [List.getElem?_eq_getElem (by omega)] at f0 f1
    obtain ⟨xs, hx⟩ := textsCells f0
    obtain ⟨n1, h1, -⟩ := DataW.trod_int Tryz.underlying3 f1
    obtain ⟨s, rfl⟩ := hx.1.sl
    simp only [List.cons.injEq, and_true] at h1
    subst h1
    exact ⟨(s, n1), rfl, xs, hx⟩

theorem envsCells {n : Nat} {v : Value} {y : DataW H × List MemPlace} (hy : DataW.trod enc0 Tryz.prog w base spare held n 24 [v] = some y) : ∃ es, RdE w v es ∧ fitE es := by
  obtain ⟨rows, hr, hg⟩ := RdT.of_trod (α := Es) (enc := encE) (Good := fun x => ∃ xs : List Txt, RdSF w (slv x.1) xs) Tryz.underlying24 cellsLawsEnv (by decide) encE_len (fun n cs y hl hy => envCells hl hy) hy
  obtain ⟨es, h1, h2, h3⟩ := RdE.make rows hg
  exact ⟨es, ⟨rows, hr, h1, h2⟩, h3⟩

theorem cacCells {n : Nat} {cs : List Value} {y : DataW H × List MemPlace} (hl : cs.length = 4) (hy : DataW.trod enc0 Tryz.prog w base spare held n 111 cs = some y) : ∃ x : Cac, x.enc = cs ∧ True := by
  obtain ⟨ys, n', _, _, _, hl2, hf⟩ := DataW.trod_struct Tryz.underlying111 hy
  match cs, hl with
  | [c0, c1, c2, c3], _ =>
    have f0 : DataW.trod enc0 Tryz.prog w base spare held n' 3 [c0] = ys[0]? := by have := hf 0 _ rfl; simpa [cellsInt, cellsBool] using this
    have f1 : DataW.trod enc0 Tryz.prog w base spare held n' 3 [c1] = ys[1]? := by have := hf 1 _ rfl; simpa [cellsInt, cellsBool] using this
    have f2 : DataW.trod enc0 Tryz.prog w base spare held n' 3 [c2] = ys[2]? := by have := hf 2 _ rfl; simpa [cellsInt, cellsBool] using this
    have f3 : DataW.trod enc0 Tryz.prog w base spare held n' 4 [c3] = ys[3]? := by have := hf 3 _ rfl; simpa [cellsInt, cellsBool] using this
    have hl3 : ys.length = 4 := by rw [hl2]; rfl
    rw [List.getElem?_eq_getElem (by omega)] at f0 f1 f2 f3
    obtain ⟨n0, h0, -⟩ := DataW.trod_int Tryz.underlying3 f0
    obtain ⟨n1, h1, -⟩ := DataW.trod_int Tryz.underlying3 f1
    obtain ⟨n2, h2, -⟩ := DataW.trod_int Tryz.underlying3 f2
    obtain ⟨b, h3, -⟩ := DataW.trod_bool Tryz.underlying4 f3
    simp only [List.cons.injEq, and_true] at h0 h1 h2 h3
    subst h0 h1 h2 h3
    exact ⟨⟨n0, n1, n2, b⟩, rfl, trivial⟩

theorem cacsCells {n : Nat} {v : Value} {y : DataW H × List MemPlace} (hy : DataW.trod enc0 Tryz.prog w base spare held n 25 [v] = some y) : ∃ xs, RdC w v xs := by
  obtain ⟨xs, hx, -⟩ := RdT.of_trod (α := Cac) (enc := Cac.enc) (Good := fun _ => True) Tryz.underlying25 cellsLawsCached (by decide) Cac.enc_len (fun n cs y hl hy => cacCells hl hy) hy
  exact ⟨xs, hx⟩

/-- A kernel that can be read, of texts of a size that a machine can bear. -/
def RdKF (w : World) (v : Value) (k : Kern) : Prop := RdK w v k ∧ fitF k.inf ∧ fitE k.env
theorem openKernel (hv : Value.okWide Tryz.prog w r b2 27 v) (h : DataW.Trod enc0 Tryz.prog w base spare held 27 v d p) : ∃ k, RdKF w v k := by
  obtain ⟨fuel, hf0⟩ := h
  obtain ⟨⟨cs⟩, rfl, hsz⟩ := okWide_struct Tryz.underlying27 hv
  rw [cellsLawsKernel] at hsz
  have hl : cs.length = 4 := by simpa using hsz
  have hy : DataW.trod enc0 Tryz.prog w base spare held fuel 27 cs = some (d, p) := by simpa [Value.cells] using hf0
  obtain ⟨ys, n', _, _, _, hl2, hf⟩ := DataW.trod_struct Tryz.underlying27 hy
  match cs, hl with
  | [c0, c1, c2, c3], _ =>
    have f0 : DataW.trod enc0 Tryz.prog w base spare held n' 22 [c0] = ys[0]? := by have := hf 0 _ rfl; simpa [cellsSSI, cellsSInf, cellsSEnv, cellsSCac] using this
    have f1 : DataW.trod enc0 Tryz.prog w base spare held n' 23 [c1] = ys[1]? := by have := hf 1 _ rfl; simpa [cellsSSI, cellsSInf, cellsSEnv, cellsSCac] using this
    have f2 : DataW.trod enc0 Tryz.prog w base spare held n' 24 [c2] = ys[2]? := by have := hf 2 _ rfl; simpa [cellsSSI, cellsSInf, cellsSEnv, cellsSCac] using this
    have f3 : DataW.trod enc0 Tryz.prog w base spare held n' 25 [c3] = ys[3]? := by have := hf 3 _ rfl; simpa [cellsSSI, cellsSInf, cellsSEnv, cellsSCac] using this
    have hl3 : ys.length = 4 := by rw [hl2]; rfl
    rw [List.getElem?_eq_getElem (by omega)] at f0 f1 f2 f3
    obtain ⟨me, h0⟩ := iiCells f0
    obtain ⟨inf, h1, g1⟩ := infosCells f1
    obtain ⟨env, h2, g2⟩ := envsCells f2
    obtain ⟨ca, h3⟩ := cacsCells f3
    exact ⟨⟨me, inf, env, ca⟩, ⟨c0, c1, c2, c3, rfl, h0, h1, h2, h3⟩, g1, g2⟩
end
end Go.Proofs.YtojknkpjnchchaaGreatDoor
