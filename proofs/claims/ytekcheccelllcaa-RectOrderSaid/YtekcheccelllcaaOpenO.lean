/- Opening arguments: a slice of ints, nil or not, with its length's data. -/
import Derived.Test.YtekcheccelllcaaOpenG
import Derived.Test.YtekcheccelllcaaRgE
namespace Go.Proofs.Ytekcheccelllcaa
open Go.ChangeShapes Go.WideShapes Go.ChangeAt Go.RowKit Go.Joins Go.Deep
set_option linter.unusedVariables false
set_option linter.unusedSimpArgs false

section
variable {H : Type} {enc : TypeId × Value → H} {w : World} {base : Nat} {spare : Nat → Bool} {held : Bool}
theorem cellsI7 : Try.prog.cellsOf 3 = 1 := by kernel_rfl
set_option maxRecDepth 100000 in
theorem open_order7 {v : Value} {d : DataW H} {p : List MemPlace} {r : Reach} {b0 : Nat} (hv : Value.okWide Try.prog w r b0 46 v) (h : DataW.Trod enc Try.prog w base spare held 46 v d p) :
    ∃ (p' : Option Addr) (c : Nat) (O : List Int), v = .slice p' O.length c ∧ RdI w p' O ∧ O.length ≤ c ∧ (O.length ≠ 0 → ∃ elems sp, d = .slice elems sp ∧ elems.length = O.length) := by
  obtain ⟨p', n, c, O, rfl, hL, hn, hc, _, _, hd⟩ := open_slice_any (0 : Int) (fun a => [.int .i64 a]) (fun _ => True) 1 (by omega) Try.underlying46 cellsI7 (fun _ => rfl) (fun fuel cs x hx => by
    obtain ⟨a, e, _, _⟩ := DataW.trod_int Try.underlying3 hx
    exact ⟨a, e, trivial⟩) hv h
  refine ⟨p', c, O, by rw [hL], fun h0 => ?_, by omega, fun h0 => by rw [hL]; exact hd (by omega)⟩
  obtain ⟨b, off, e, hb, hcell⟩ := hc (by omega)
  refine ⟨b, off, e, hb, fun i hi => ?_⟩
  have := hcell i (by omega) 0 (by omega)
  simpa using this
end
end Go.Proofs.Ytekcheccelllcaa
