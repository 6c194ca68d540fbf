/- Opening arguments: slices of arms. -/
import Derived.Test.YtebalohoblaedaaOpenG
import Derived.Test.YtebalohoblaedaaGlyL
namespace Go.Proofs.Ytebalohoblaedaa
open Go.ChangeShapes Go.WideShapes Go.ChangeAt Go.RowKit Go.Joins Go.Deep
set_option linter.unusedVariables false
set_option linter.unusedSimpArgs false

section
variable {H : Type} {enc : TypeId × Value → H} {w : World} {base : Nat} {spare : Nat → Bool} {held : Bool}
def clA (a : A4) : List Value := [.int .i8 a.u, .int .i8 a.r, .int .i8 a.d, .int .i8 a.l]
set_option maxRecDepth 100000 in
theorem open_arms {v : Value} {d : DataW H} {p : List MemPlace} {r : Reach} {b0 : Nat} (hv : Value.okWide Try.prog w r b0 34 v) (h : DataW.Trod enc Try.prog w base spare held 34 v d p) :
    ∃ (p' : Option Addr) (n c : Nat) (L : List A4), v = .slice p' n c ∧ L.length = n ∧ SlA w p' L ∧ (p' = none → n = 0 ∧ c = 0) ∧ (n ≠ 0 → ∃ elems sp, d = .slice elems sp ∧ elems.length = n) := by
  obtain ⟨p', n, c, L, rfl, hL, _, hc, _, hn, hd⟩ := open_slice_any zA clA (fun _ => True) 4 (by omega) Try.underlying34 (by kernel_rfl) (fun _ => rfl) (fun fuel cs x hx => by
    obtain ⟨zs, h1, h2, _⟩ := arr_cells Try.underlying23 Try.underlying22 (by kernel_rfl) (by kernel_rfl) hx
    match zs, h1 with
    | [a, b, c, d], _ => exact ⟨⟨a, b, c, d⟩, h2, trivial⟩) hv h
  refine ⟨p', n, c, L, rfl, hL, fun h0 => ?_, hn, hd⟩
  obtain ⟨b, off, rfl, hb, hcell⟩ := hc (by omega)
  refine ⟨b, off, rfl, hb, fun i hi => ?_⟩
  have c0 := hcell i (by omega) 0 (by omega)
  have c1 := hcell i (by omega) 1 (by omega)
  have c2 := hcell i (by omega) 2 (by omega)
  have c3 := hcell i (by omega) 3 (by omega)
  exact ⟨c0, by rw [Nat.add_assoc]; exact c1, by rw [Nat.add_assoc]; exact c2, by rw [Nat.add_assoc]; exact c3⟩
end
end Go.Proofs.Ytebalohoblaedaa
