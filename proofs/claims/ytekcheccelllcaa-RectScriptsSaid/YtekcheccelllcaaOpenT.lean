/- Layer 07: opening arguments: a slice of steps, a scene. -/
import Derived.Test.YtekcheccelllcaaRgE
import Derived.Test.YtekcheccelllcaaOpenG
namespace Go.Proofs.Ytekcheccelllcaa
open Go.ChangeShapes Go.WideShapes Go.ChangeAt Go.RowKit Go.Joins Go.Deep
set_option linter.unusedVariables false
set_option linter.unusedSimpArgs false

/-- a step's cells -/
def stC (s : Int × R4) : List Value := [.int .i64 s.1, .int .i64 s.2.x, .int .i64 s.2.y, .int .i64 s.2.w, .int .i64 s.2.h]
def zS : Int × R4 := (0, zR)
/-- steps that lie in memory one behind the other -/
def StpAt (w : World) (p : Option Addr) (S : List (Int × R4)) : Prop := S.length ≠ 0 → ∃ b off, p = some ⟨b, off, none⟩ ∧ b < w.heap.size ∧ ∀ i, i < S.length → ∀ j, j < 5 → w.cell? ⟨b, off + (i * 5 + j), none⟩ = (stC (S.getD i zS))[j]?
theorem StpAt.later {w w' : World} {p : Option Addr} {S : List (Int × R4)} (h : StpAt w p S) (hb : Below w.heap.size w w') : StpAt w' p S := fun h0 => by
  obtain ⟨b, off, e, hl, hc⟩ := h h0
  refine ⟨b, off, e, by have := hb.size; omega, fun i hi j hj => ?_⟩
  rw [(bcell hb).1 _ _ (by omega)]
  exact hc i hi j hj
section
variable {H : Type} {enc : TypeId × Value → H} {w : World} {base : Nat} {spare : Nat → Bool} {held : Bool}
theorem cells7Step : Try.prog.cellsOf 66 = 5 := by kernel_rfl
theorem cells7R : Try.prog.cellsOf 23 = 4 := by kernel_rfl
theorem cells7I : Try.prog.cellsOf 3 = 1 := by kernel_rfl
theorem cells7S : Try.prog.cellsOf 58 = 1 := by kernel_rfl
theorem cells7L : Try.prog.cellsOf 26 = 1 := by kernel_rfl
set_option maxRecDepth 100000 in
theorem rect7_cells {fuel : Nat} {l : List Value} {x : DataW H × List MemPlace} (h : DataW.trod enc Try.prog w base spare held fuel 23 l = some x) :
    ∃ r : R4, l = [.int .i64 r.x, .int .i64 r.y, .int .i64 r.w, .int .i64 r.h] ∧ isR r := by
  obtain ⟨xs, n, _, hx, hl, hlen, hg⟩ := DataW.trod_struct Try.underlying23 h
  rw [cells7R] at hl
  match l, hl, xs, hlen with
  | [c0, c1, c2, c3], _, [y0, y1, y2, y3], _ =>
    have g0 := hg 0 _ rfl; have g1 := hg 1 _ rfl; have g2 := hg 2 _ rfl; have g3 := hg 3 _ rfl
    simp [cells7I] at g0 g1 g2 g3
    obtain ⟨a, e0, _, w0⟩ := DataW.trod_int Try.underlying3 g0
    obtain ⟨b, e1, _, w1⟩ := DataW.trod_int Try.underlying3 g1
    obtain ⟨c, e2, _, w2⟩ := DataW.trod_int Try.underlying3 g2
    obtain ⟨d, e3, _, w3⟩ := DataW.trod_int Try.underlying3 g3
    simp only [List.cons.injEq, and_true] at e0 e1 e2 e3
    subst e0 e1 e2 e3
    exact ⟨⟨a, b, c, d⟩, rfl, ⟨bounds_i64 w0, bounds_i64 w1, bounds_i64 w2, bounds_i64 w3⟩⟩
set_option maxRecDepth 100000 in
theorem step7_cells {fuel : Nat} {l : List Value} {x : DataW H × List MemPlace} (h : DataW.trod enc Try.prog w base spare held fuel 66 l = some x) :
    ∃ s : Int × R4, l = stC s ∧ isR s.2 := by
  obtain ⟨xs, n, _, hx, hl, hlen, hg⟩ := DataW.trod_struct Try.underlying66 h
  rw [cells7Step] at hl
  match l, hl, xs, hlen with
  | [c0, c1, c2, c3, c4], _, [y0, y1], _ =>
    have g0 := hg 0 _ rfl; have g1 := hg 1 _ rfl
    simp [cells7I, cells7R] at g0 g1
    obtain ⟨o, e0, _, w0⟩ := DataW.trod_int Try.underlying3 g0
    obtain ⟨r, e1, w1⟩ := rect7_cells g1
    simp only [List.cons.injEq, and_true] at e0 e1
    obtain ⟨e1, e2, e3, e4⟩ := e1
    subst e0 e1 e2 e3 e4
    exact ⟨(o, r), rfl, w1⟩
set_option maxRecDepth 100000 in
theorem open_steps7 {v : Value} {d : DataW H} {p : List MemPlace} {r : Reach} {b0 : Nat} (hv : Value.okWide Try.prog w r b0 58 v) (h : DataW.Trod enc Try.prog w base spare held 58 v d p) :
    ∃ (p' : Option Addr) (c : Nat) (S : List (Int × R4)), v = .slice p' S.length c ∧ StpAt w p' S ∧ (∀ s ∈ S, isR s.2) ∧ (S.length ≠ 0 → ∃ elems sp, d = .slice elems sp ∧ elems.length = S.length) := by
  obtain ⟨p', n, c, S, rfl, hL, hn, hc, hq, _, hd⟩ := open_slice_any zS stC (fun s => isR s.2) 5 (by omega) Try.underlying58 cells7Step (fun _ => rfl) (fun fuel cs x hx => step7_cells hx) hv h
  refine ⟨p', c, S, by rw [hL], fun h0 => ?_, fun s hs => ?_, fun h0 => by rw [hL]; exact hd (by omega)⟩
  · obtain ⟨b, off, e, hb, hcell⟩ := hc (by omega)
    exact ⟨b, off, e, hb, fun i hi j hj => hcell i (by omega) j hj⟩
  · obtain ⟨i, hi, rfl⟩ := List.getElem_of_mem hs
    have := hq i (by omega)
    rw [List.getD_eq_getElem?_getD, List.getElem?_eq_getElem hi] at this
    exact this
end
end Go.Proofs.Ytekcheccelllcaa
