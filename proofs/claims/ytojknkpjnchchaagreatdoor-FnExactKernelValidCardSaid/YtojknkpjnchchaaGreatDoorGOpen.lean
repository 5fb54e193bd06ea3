/- How the arguments of the statements are read. No conditions. How arguments that are texts, and slices of texts, are read. No conditions. How arguments that are slices of slices of texts are read. No conditions. How arguments that are slices of what is known of frames are read. No conditions. How arguments that are slices of integers, and slices of these, are read. No conditions. -/
import Derived.Test.YtojknkpjnchchaaGreatDoorGLib
import Derived.Test.YtojknkpjnchchaaGreatDoorRows
import Derived.ProofKit
import Derived.Test.YtojknkpjnchchaaGreatDoorGStr
import Derived.ChangeMaps5
import Derived.Test.YtojknkpjnchchaaGreatDoorKerA
import Derived.Test.YtojknkpjnchchaaGreatDoorGInfo
import Derived.Test.YtojknkpjnchchaaGreatDoorGSwap
namespace Go.Proofs.YtojknkpjnchchaaGreatDoor
open Go.ChangeShapes Go.WideShapes Go.ChangeAt Go.RowKit
set_option linter.all false
set_option maxRecDepth 100000

theorem own : ownKnob Tryz.prog.godebug = none := by kernel_rfl
theorem laidOut : laidOutB Tryz.prog = true := by kernel_rfl
theorem cellsInt : Tryz.prog.cellsOf 3 = 1 := by kernel_rfl
theorem cellsU8 : Tryz.prog.cellsOf 5 = 1 := by kernel_rfl

section
variable {H : Type} {enc0 : TypeId × Value → H} {w : World} {base b2 : Nat} {spare : Nat → Bool} {held : Bool} {v : Value} {d : DataW H} {p : List MemPlace} {r : Reach}

theorem openInt (hv : Value.okWide Tryz.prog w r b2 3 v) (h : DataW.Trod enc0 Tryz.prog w base spare held 3 v d p) : ∃ n : Int, v = .int .i64 n := by
  obtain ⟨n, rfl, -⟩ := open_int Tryz.underlying3 hv h
  exact ⟨n, rfl⟩

theorem openBytes (hv : Value.okWide Tryz.prog w r b2 47 v) (h : DataW.Trod enc0 Tryz.prog w base spare held 47 v d p) : ∃ bs : List Int, RdT (fun x : Int => [Value.int .u8 x]) 1 w v bs ∧ ∀ b ∈ bs, 0 ≤ b ∧ b ≤ 255 := by
  obtain ⟨fuel, hf⟩ := h
  obtain ⟨a, n, c, rfl⟩ := okWide_slice Tryz.underlying47 hv
  refine RdT.of_trod (α := Int) (enc := fun x : Int => [Value.int .u8 x]) (Good := fun b : Int => 0 ≤ b ∧ b ≤ 255) Tryz.underlying47 cellsU8 (by decide) (fun _ => rfl) ?_ (by simpa [Value.cells] using hf)
  intro n cs y hl hy
  obtain ⟨m, rfl, -, hw⟩ := DataW.trod_int Tryz.underlying5 hy
  exact ⟨m, rfl, by simpa [Lit.wf, IntKind.min, IntKind.max, IntKind.signed, IntKind.bits] using hw⟩
end
end Go.Proofs.YtojknkpjnchchaaGreatDoor
namespace Go.Proofs.YtojknkpjnchchaaGreatDoor
open Go.ChangeShapes Go.WideShapes Go.ChangeAt Go.ChangeMaps Go.RowKit
set_option linter.all false
set_option maxRecDepth 100000

theorem cellsStr : Tryz.prog.cellsOf 9 = 1 := by kernel_rfl
section
variable {H : Type} {enc0 : TypeId × Value → H} {w : World} {base b2 : Nat} {spare : Nat → Bool} {held : Bool} {v : Value} {d : DataW H} {p : List MemPlace} {r : Reach}

theorem openText (hv : Value.okWide Tryz.prog w r b2 9 v) (h : DataW.Trod enc0 Tryz.prog w base spare held 9 v d p) : ∃ x : Txt, v = tv x ∧ x.length ≤ 9223372036854775807 := by
  obtain ⟨s, rfl, -, -, hs⟩ := open_string Tryz.underlying9 hv h
  refine ⟨s.data.toList, tv_of s, ?_⟩
  have := Lib.size_eq s
  unfold maxLen at hs
  omega

theorem textsCells {n : Nat} {v : Value} {y : DataW H × List MemPlace} (hy : DataW.trod enc0 Tryz.prog w base spare held n 53 [v] = some y) : ∃ xs : List Txt, RdSF w v xs := by
  have helem : ∀ n cs y, cs.length = 1 → DataW.trod enc0 Tryz.prog w base spare held n 9 cs = some y → ∃ x : Txt, encS x = cs ∧ x.length ≤ 9223372036854775807 := by
    intro n cs y hl hy
    obtain ⟨s, rfl, -, hs⟩ := DataW.trod_string Tryz.underlying9 hy
    refine ⟨s.data.toList, ?_, ?_⟩
    · unfold encS; rw [← tv_of]
    · have := Lib.size_eq s
      unfold maxLen at hs
      omega
  obtain ⟨xs, hx, hg⟩ := RdT.of_trod (α := Txt) (enc := encS) (Good := fun x => x.length ≤ 9223372036854775807) Tryz.underlying53 cellsStr (by decide) encS_len helem hy
  exact ⟨xs, hx, hg⟩

theorem openTexts (hv : Value.okWide Tryz.prog w r b2 53 v) (h : DataW.Trod enc0 Tryz.prog w base spare held 53 v d p) : ∃ xs, RdSF w v xs := by
  obtain ⟨fuel, hf⟩ := h
  obtain ⟨a, n, c, rfl⟩ := okWide_slice Tryz.underlying53 hv
  exact textsCells (by simpa [Value.cells] using hf)
end
end Go.Proofs.YtojknkpjnchchaaGreatDoor
namespace Go.Proofs.YtojknkpjnchchaaGreatDoor
open Go.ChangeShapes Go.WideShapes Go.ChangeAt Go.ChangeMaps Go.RowKit
set_option linter.all false
set_option maxRecDepth 100000

theorem cellsSlS : Tryz.prog.cellsOf 53 = 1 := by kernel_rfl

theorem InR.makeS {w : World} : ∀ rows : List Sl, (∀ s ∈ rows, ∃ xs : List Txt, RdSF w (slv s) xs) → ∃ xss, InR encS 1 w rows xss ∧ ∀ xs ∈ xss, fitS xs := by
  intro rows
  induction rows with
  | nil => intro _; exact ⟨[], ⟨rfl, fun k s xs h => by simp at h⟩, by simp⟩
  | cons s t ih =>
    intro h
    obtain ⟨xs, hx, hf⟩ := h s (by simp)
    obtain ⟨xss, ⟨hl, hi⟩, hff⟩ := ih (fun s hs => h s (by simp [hs]))
    refine ⟨xs :: xss, ⟨by simp [hl], fun k s' ys h1 h2 => ?_⟩, ?_⟩
    · cases k with
      | zero => simp at h1 h2; subst h1; subst h2; exact hx
      | succ k => simp at h1 h2; exact hi k s' ys h1 h2
    · intro ys hy
      rcases List.mem_cons.1 hy with rfl | hy
      · exact hf
      · exact hff ys hy

section
variable {H : Type} {enc0 : TypeId × Value → H} {w : World} {base b2 : Nat} {spare : Nat → Bool} {held : Bool} {v : Value} {d : DataW H} {p : List MemPlace} {r : Reach}
theorem openSS (hv : Value.okWide Tryz.prog w r b2 48 v) (h : DataW.Trod enc0 Tryz.prog w base spare held 48 v d p) : ∃ xss, RdSS w v xss ∧ ∀ xs ∈ xss, fitS xs := by
  obtain ⟨fuel, hf⟩ := h
  obtain ⟨a, n, c, rfl⟩ := okWide_slice Tryz.underlying48 hv
  have helem : ∀ n cs y, cs.length = 1 → DataW.trod enc0 Tryz.prog w base spare held n 53 cs = some y → ∃ x : Sl, encL x = cs ∧ ∃ xs : List Txt, RdSF w (slv x) xs := by
    intro n cs y hl hy
    match cs, hl with
    | [c0], _ =>
      obtain ⟨xs, hx⟩ := textsCells hy
      obtain ⟨s, rfl⟩ := hx.1.sl
      exact ⟨s, rfl, xs, hx⟩
  obtain ⟨rows, hr, hg⟩ := RdT.of_trod (α := Sl) (enc := encL) (Good := fun s => ∃ xs : List Txt, RdSF w (slv s) xs) Tryz.underlying48 cellsSlS (by decide) encL_len helem (by simpa [Value.cells] using hf)
  obtain ⟨xss, hi, hff⟩ := InR.makeS rows hg
  exact ⟨xss, ⟨rows, hr, hi⟩, hff⟩
end
end Go.Proofs.YtojknkpjnchchaaGreatDoor
namespace Go.Proofs.YtojknkpjnchchaaGreatDoor
open Go.ChangeShapes Go.WideShapes Go.ChangeAt Go.ChangeMaps Go.RowKit
set_option linter.all false
set_option maxRecDepth 100000

theorem cellsLawsInfo : Tryz.prog.cellsOf 98 = 3 := by kernel_rfl

section
variable {H : Type} {enc0 : TypeId × Value → H} {w : World} {base b2 : Nat} {spare : Nat → Bool} {held : Bool} {v : Value} {d : DataW H} {p : List MemPlace} {r : Reach}

theorem infoCells {n : Nat} {cs : List Value} {y : DataW H × List MemPlace} (hl : cs.length = 3) (hy : DataW.trod enc0 Tryz.prog w base spare held n 98 cs = some y) : ∃ x : Info, x.enc = cs ∧ x.gd.length ≤ 9223372036854775807 := by
  obtain ⟨ys, n', _, _, _, hl2, hf⟩ := DataW.trod_struct Tryz.underlying98 hy
  match cs, hl with
  | [c0, c1, c2], _ =>
    have f0 : DataW.trod enc0 Tryz.prog w base spare held n' 3 [c0] = ys[0]? := by have := hf 0 _ rfl; simpa [cellsInt, cellsStr] using this
    have f1 : DataW.trod enc0 Tryz.prog w base spare held n' 9 [c1] = ys[1]? := by have := hf 1 _ rfl; simpa [cellsInt, cellsStr] using this
    have f2 : DataW.trod enc0 Tryz.prog w base spare held n' 3 [c2] = ys[2]? := by have := hf 2 _ rfl; simpa [cellsInt, cellsStr] using this
    have hl3 : ys.length = 3 := by rw [hl2]; rfl
    rw [List.getElem?_eq_getElem (by omega)] at f0 f1 f2
    obtain ⟨n0, h0, -⟩ := DataW.trod_int Tryz.underlying3 f0
    obtain ⟨s, h1, -, hs⟩ := DataW.trod_string Tryz.underlying9 f1
    obtain ⟨n2, h2, -⟩ := DataW.trod_int Tryz.underlying3 f2
    simp only [List.cons.injEq, and_true] at h0 h1 h2
    subst h0 h1 h2
    refine ⟨⟨n0, s.data.toList, n2⟩, ?_, ?_⟩
    · unfold Info.enc; rw [← tv_of]
    · have := Lib.size_eq s
      unfold maxLen at hs
      dsimp only
      omega

theorem openInfos (hv : Value.okWide Tryz.prog w r b2 23 v) (h : DataW.Trod enc0 Tryz.prog w base spare held 23 v d p) : ∃ xs, RdFF w v xs := by
  obtain ⟨fuel, hf⟩ := h
  obtain ⟨a, n, c, rfl⟩ := okWide_slice Tryz.underlying23 hv
  have helem : ∀ n cs y, cs.length = 3 → DataW.trod enc0 Tryz.prog w base spare held n 98 cs = some y → ∃ x : Info, x.enc = cs ∧ x.gd.length ≤ 9223372036854775807 := fun n cs y hl hy => infoCells hl hy
  obtain ⟨xs, hx, hg⟩ := RdT.of_trod (α := Info) (enc := Info.enc) (Good := fun x => x.gd.length ≤ 9223372036854775807) Tryz.underlying23 cellsLawsInfo (by decide) Info.enc_len helem (by simpa [Value.cells] using hf)
  exact ⟨xs, hx, hg⟩
end
end Go.Proofs.YtojknkpjnchchaaGreatDoor
namespace Go.Proofs.YtojknkpjnchchaaGreatDoor
open Go.ChangeShapes Go.WideShapes Go.ChangeAt Go.RowKit
set_option linter.all false
set_option maxRecDepth 100000

theorem cellsSlI : Tryz.prog.cellsOf 41 = 1 := by kernel_rfl

theorem InR.make {w : World} : ∀ rows : List Sl, (∀ s ∈ rows, ∃ xs : List Int, RdI w (slv s) xs) → ∃ xss, InR encI 1 w rows xss := by
  intro rows
  induction rows with
  | nil => intro _; exact ⟨[], rfl, fun k s xs h => by simp at h⟩
  | cons s t ih =>
    intro h
    obtain ⟨xs, hx⟩ := h s (by simp)
    obtain ⟨xss, hl, hi⟩ := ih (fun s hs => h s (by simp [hs]))
    refine ⟨xs :: xss, by simp [hl], fun k s' ys h1 h2 => ?_⟩
    cases k with
    | zero => simp at h1 h2; subst h1; subst h2; exact hx
    | succ k => simp at h1 h2; exact hi k s' ys h1 h2

section
variable {H : Type} {enc0 : TypeId × Value → H} {w : World} {base b2 : Nat} {spare : Nat → Bool} {held : Bool} {v : Value} {d : DataW H} {p : List MemPlace} {r : Reach}

theorem intsCells {n : Nat} {v : Value} {y : DataW H × List MemPlace} (hy : DataW.trod enc0 Tryz.prog w base spare held n 41 [v] = some y) : ∃ xs : List Int, RdI w v xs := by
  obtain ⟨xs, hx, -⟩ := RdT.of_trod (α := Int) (enc := encI) (Good := fun _ => True) Tryz.underlying41 cellsInt (by decide) encI_len (fun n cs y hl hy => by
    obtain ⟨m, rfl, -, -⟩ := DataW.trod_int Tryz.underlying3 hy
    exact ⟨m, rfl, trivial⟩) hy
  exact ⟨xs, hx⟩

theorem openInts (hv : Value.okWide Tryz.prog w r b2 41 v) (h : DataW.Trod enc0 Tryz.prog w base spare held 41 v d p) : ∃ xs, RdI w v xs := by
  obtain ⟨fuel, hf⟩ := h
  obtain ⟨a, n, c, rfl⟩ := okWide_slice Tryz.underlying41 hv
  exact intsCells (by simpa [Value.cells] using hf)

theorem openII (hv : Value.okWide Tryz.prog w r b2 22 v) (h : DataW.Trod enc0 Tryz.prog w base spare held 22 v d p) : ∃ xss, RdII w v xss := by
  obtain ⟨fuel, hf⟩ := h
  obtain ⟨a, n, c, rfl⟩ := okWide_slice Tryz.underlying22 hv
  have helem : ∀ n cs y, cs.length = 1 → DataW.trod enc0 Tryz.prog w base spare held n 41 cs = some y → ∃ x : Sl, encL x = cs ∧ ∃ xs : List Int, RdI w (slv x) xs := by
    intro n cs y hl hy
    match cs, hl with
    | [c0], _ =>
      obtain ⟨xs, hx⟩ := intsCells hy
      obtain ⟨s, rfl⟩ := hx.sl
      exact ⟨s, rfl, xs, hx⟩
  obtain ⟨rows, hr, hg⟩ := RdT.of_trod (α := Sl) (enc := encL) (Good := fun s => ∃ xs : List Int, RdI w (slv s) xs) Tryz.underlying22 cellsSlI (by decide) encL_len helem (by simpa [Value.cells] using hf)
  obtain ⟨xss, hi⟩ := InR.make rows hg
  exact ⟨xss, rows, hr, hi⟩
end
end Go.Proofs.YtojknkpjnchchaaGreatDoor
