/- Opening arguments: how many offsets. -/
import Derived.Test.YtegdokchkblpiaaTreOw
import Derived.Test.YtegdokchkblpiaaTreOo
namespace Go.Proofs.Ytegdokchkblpiaa
open Go.ChangeShapes Go.WideShapes Go.ChangeAt Go.RowKit Go.Joins Go.Deep
set_option linter.unusedVariables false
set_option linter.unusedSimpArgs false

section
variable {H : Type} {enc : TypeId × Value → H} {w : World} {base : Nat} {spare : Nat → Bool} {held : Bool}
theorem offs_sized {p : Option Addr} {n c : Nat} {d : DataW H} {pl : List MemPlace} (h : DataW.Trod enc Try.prog w base spare held 48 (.slice p n c) d pl) (hw : ∀ k ∈ d.weights Try.prog 48, k ≤ 140737488351232) : n * 16 ≤ 140737488351232 := by
  obtain ⟨fuel, hf⟩ := h
  have hf' : DataW.trod enc Try.prog w base spare held fuel 48 [.slice p n c] = some (d, pl) := by simpa [Value.cells] using hf
  have := slice_weight Try.underlying48 hf' hw
  rwa [show Try.prog.bytesOf 25 = 16 by kernel_rfl] at this
end
end Go.Proofs.Ytegdokchkblpiaa
