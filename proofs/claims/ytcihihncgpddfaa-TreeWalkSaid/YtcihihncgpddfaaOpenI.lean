/- Opening arguments: a slice of ints. -/
import Derived.Test.YtcihihncgpddfaaTreT
namespace Go.Proofs.Ytcihihncgpddfaa
open Go.ChangeShapes Go.WideShapes Go.ChangeAt Go.RowKit Go.Joins Go.Deep
set_option linter.unusedVariables false
set_option linter.unusedSimpArgs false

section
variable {H : Type} {enc : TypeId × Value → H} {w : World} {base : Nat} {spare : Nat → Bool} {held : Bool}
set_option maxRecDepth 100000 in
theorem open_ints_any {v : Value} {d : DataW H} {p : List MemPlace} {r : Reach} {b0 : Nat} (hv : Value.okWide Try.prog w r b0 45 v) (h : DataW.Trod enc Try.prog w base spare held 45 v d p) :
    ∃ L : List Int, IntsAt w v L := by
  obtain ⟨a, len, cap, rfl⟩ := okWide_slice Try.underlying45 hv
  obtain ⟨fuel, hf⟩ := h
  have hf' : DataW.trod enc Try.prog w base spare held fuel 45 [.slice a len cap] = some (d, p) := by simpa [Value.cells] using hf
  obtain ⟨v, L, e, h1, _⟩ := ints_cells hf'
  simp only [List.cons.injEq, and_true] at e
  rw [e]
  exact ⟨L, h1⟩
end
end Go.Proofs.Ytcihihncgpddfaa
