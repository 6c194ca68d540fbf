/- Opening arguments: a list of offsets. -/
import Derived.Test.YtegdokchkblpiaaTreO
import Derived.Test.YtegdokchkblpiaaTreF
namespace Go.Proofs.Ytegdokchkblpiaa
open Go.ChangeShapes Go.WideShapes Go.ChangeAt Go.RowKit Go.Joins Go.Deep
set_option linter.unusedVariables false
set_option linter.unusedSimpArgs false

section
variable {H : Type} {enc : TypeId × Value → H} {w : World} {base : Nat} {spare : Nat → Bool} {held : Bool}
theorem open_offs {v : Value} {d : DataW H} {p : List MemPlace} {r : Reach} {b0 : Nat} (hv : Value.okWide Try.prog w r b0 48 v) (h : DataW.Trod enc Try.prog w base spare held 48 v d p) :
    ∃ (p' : Option Addr) (n c : Nat) (O : List (Int × Int)), v = .slice p' n c ∧ n = O.length ∧ OffsAt w p' O ∧ n ≤ 9223372036854775807 := by
  obtain ⟨a, len, cap, rfl⟩ := okWide_slice Try.underlying48 hv
  obtain ⟨fuel, hf⟩ := h
  have hf' : DataW.trod enc Try.prog w base spare held fuel 48 [.slice a len cap] = some (d, p) := by simpa [Value.cells] using hf
  obtain ⟨q, n, c, L, e, hL, hn, hc, hp, hat, hq, _⟩ := slice_cells ((0, 0) : Int × Int) (fun a cs => cs = [.int .i64 a.1, .int .i64 a.2] ∧ True) 2 (by decide) Try.underlying48 tcOff (fun a cs h => by rw [h.1]; rfl) (fun fuel cs x h => by
    obtain ⟨a, e⟩ := off_cells h
    exact ⟨a, e⟩) hf'
  simp only [List.cons.injEq, Value.slice.injEq, and_true] at e
  obtain ⟨rfl, rfl, rfl⟩ := e
  refine ⟨a, len, cap, L, rfl, hL.symm, fun h0 => ?_, by unfold maxLen at hc; omega⟩
  obtain ⟨b, off, e', hb, hcell⟩ := hat (by omega)
  refine ⟨b, off, e', hb, fun i hi => ?_⟩
  obtain ⟨cs, ⟨rfl, _⟩, hj⟩ := hcell i (by omega)
  have j0 := hj 0 (by omega)
  have j1 := hj 1 (by omega)
  rw [← Nat.add_assoc] at j1
  exact ⟨by simpa using j0, by simpa using j1⟩
end
end Go.Proofs.Ytegdokchkblpiaa
