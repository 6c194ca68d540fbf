/- Opening arguments: a step of a script. -/
import Derived.Test.YtebalohoblaedaaOpen
namespace Go.Proofs.Ytebalohoblaedaa
open Go.ChangeShapes Go.WideShapes Go.ChangeAt Go.RowKit Go.Joins
set_option linter.unusedVariables false
set_option linter.unusedSimpArgs false

section
variable {H : Type} {enc : TypeId × Value → H} {w : World} {base : Nat} {spare : Nat → Bool} {held : Bool}
theorem cellsStep : Try.prog.cellsOf 64 = 10 := by kernel_rfl
theorem cellsR4 : Try.prog.cellsOf 52 = 4 := by kernel_rfl
theorem cellsI : Try.prog.cellsOf 3 = 1 := by kernel_rfl
theorem cellsI8 : Try.prog.cellsOf 22 = 1 := by kernel_rfl
set_option maxRecDepth 100000 in
theorem rect_cells {fuel : Nat} {l : List Value} {x : DataW H × List MemPlace} (h : DataW.trod enc Try.prog w base spare held fuel 52 l = some x) :
    ∃ a b c d : Int, l = [.int .i64 a, .int .i64 b, .int .i64 c, .int .i64 d] ∧ (Lit.int .i64 a).wf = true ∧ (Lit.int .i64 b).wf = true ∧ (Lit.int .i64 c).wf = true ∧ (Lit.int .i64 d).wf = true := by
  obtain ⟨xs, n, _, hx, hl, hlen, hg⟩ := DataW.trod_struct Try.underlying52 h
  rw [cellsR4] at hl
  match l, hl, xs, hlen with
  | [c0, c1, c2, c3], _, [y0, y1, y2, y3], _ =>
    have g0 := hg 0 _ rfl; have g1 := hg 1 _ rfl; have g2 := hg 2 _ rfl; have g3 := hg 3 _ rfl
    simp [cellsI] at g0 g1 g2 g3
    obtain ⟨a, e0, _, w0⟩ := DataW.trod_int Try.underlying3 g0
    obtain ⟨b, e1, _, w1⟩ := DataW.trod_int Try.underlying3 g1
    obtain ⟨c, e2, _, w2⟩ := DataW.trod_int Try.underlying3 g2
    obtain ⟨d, e3, _, w3⟩ := DataW.trod_int Try.underlying3 g3
    simp only [List.cons.injEq, and_true] at e0 e1 e2 e3
    subst e0 e1 e2 e3
    exact ⟨a, b, c, d, rfl, w0, w1, w2, w3⟩
set_option maxRecDepth 100000 in
theorem step_cells {fuel : Nat} {l : List Value} {x : DataW H × List MemPlace} (h : DataW.trod enc Try.prog w base spare held fuel 64 l = some x) :
    ∃ o x0 y0 x1 y1 a b c d k : Int, l = [.int .i64 o, .int .i64 x0, .int .i64 y0, .int .i64 x1, .int .i64 y1, .int .i64 a, .int .i64 b, .int .i64 c, .int .i64 d, .int .i8 k] ∧
      (Lit.int .i64 x0).wf = true ∧ (Lit.int .i64 y0).wf = true ∧ (Lit.int .i64 x1).wf = true ∧ (Lit.int .i64 y1).wf = true ∧ (Lit.int .i64 a).wf = true ∧ (Lit.int .i64 b).wf = true ∧ (Lit.int .i64 c).wf = true ∧ (Lit.int .i64 d).wf = true ∧ (Lit.int .i8 k).wf = true := by
  obtain ⟨xs, n, _, hx, hl, hlen, hg⟩ := DataW.trod_struct Try.underlying64 h
  rw [cellsStep] at hl
  match l, hl, xs, hlen with
  | [c0, c1, c2, c3, c4, c5, c6, c7, c8, c9], _, [y0, y1, y2, y3, y4, y5, y6], _ =>
    have g0 := hg 0 _ rfl; have g1 := hg 1 _ rfl; have g2 := hg 2 _ rfl; have g3 := hg 3 _ rfl; have g4 := hg 4 _ rfl; have g5 := hg 5 _ rfl; have g6 := hg 6 _ rfl
    simp [cellsI, cellsI8, cellsR4] at g0 g1 g2 g3 g4 g5 g6
    obtain ⟨o, e0, _, w0⟩ := DataW.trod_int Try.underlying3 g0
    obtain ⟨u, e1, _, w1⟩ := DataW.trod_int Try.underlying3 g1
    obtain ⟨v, e2, _, w2⟩ := DataW.trod_int Try.underlying3 g2
    obtain ⟨p, e3, _, w3⟩ := DataW.trod_int Try.underlying3 g3
    obtain ⟨q, e4, _, w4⟩ := DataW.trod_int Try.underlying3 g4
    obtain ⟨a, b, c, d, e5, w5, w6, w7, w8⟩ := rect_cells g5
    obtain ⟨k, e6, _, w9⟩ := DataW.trod_int Try.underlying22 g6
    simp only [List.cons.injEq, and_true] at e0 e1 e2 e3 e4 e5 e6
    obtain ⟨e5, e7, e8, e9⟩ := e5
    subst e0 e1 e2 e3 e4 e5 e6 e7 e8 e9
    exact ⟨o, u, v, p, q, a, b, c, d, k, rfl, w1, w2, w3, w4, w5, w6, w7, w8, w9⟩
set_option maxRecDepth 100000 in
theorem open_step {v : Value} {d : DataW H} {p : List MemPlace} {r : Reach} {b0 : Nat} (hv : Value.okWide Try.prog w r b0 64 v) (h : DataW.Trod enc Try.prog w base spare held 64 v d p) :
    ∃ o x0 y0 x1 y1 a b c d k : Int, v = .agg #[.int .i64 o, .int .i64 x0, .int .i64 y0, .int .i64 x1, .int .i64 y1, .int .i64 a, .int .i64 b, .int .i64 c, .int .i64 d, .int .i8 k] ∧
      (Lit.int .i64 x0).wf = true ∧ (Lit.int .i64 y0).wf = true ∧ (Lit.int .i64 x1).wf = true ∧ (Lit.int .i64 y1).wf = true ∧ (Lit.int .i64 a).wf = true ∧ (Lit.int .i64 b).wf = true ∧ (Lit.int .i64 c).wf = true ∧ (Lit.int .i64 d).wf = true ∧ (Lit.int .i8 k).wf = true := by
  obtain ⟨cs, rfl, hsz⟩ := okWide_struct Try.underlying64 hv
  obtain ⟨fuel, hf⟩ := h
  have hf' : DataW.trod enc Try.prog w base spare held fuel 64 cs.toList = some (d, p) := by simpa [Value.cells] using hf
  obtain ⟨o, x0, y0, x1, y1, a, b, c, d, k, e, hw⟩ := step_cells hf'
  refine ⟨o, x0, y0, x1, y1, a, b, c, d, k, ?_, hw⟩
  rw [← Array.toArray_toList (xs := cs), e]
end
end Go.Proofs.Ytebalohoblaedaa
