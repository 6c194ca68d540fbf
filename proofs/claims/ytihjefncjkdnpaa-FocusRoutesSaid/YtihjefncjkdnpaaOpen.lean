/- Opening arguments: arrays of integers by value. -/
import Derived.Test.YtihjefncjkdnpaaBase
import Derived.ProofKit
import Derived.OpenShut
import Derived.Lib.SmallJoins
namespace Go.Proofs.Ytihjefncjkdnpaa
open Go.ChangeShapes Go.WideShapes Go.ChangeAt Go.RowKit Go.Joins
set_option linter.unusedVariables false
set_option linter.unusedSimpArgs false

section
variable {H : Type} {enc : TypeId × Value → H} {P : Program} {w : World} {base : Nat} {spare : Nat → Bool} {held : Bool}

theorem okWide_array {n : Nat} {t e : TypeId} {v : Value} {r : Reach} {b0 : Nat} (ht : P.underlying t = some (.array n e)) (h : Value.okWide P w r b0 t v) : ∃ cs, v = .agg cs ∧ cs.size = P.cellsOf t := by
  simp only [Value.okWide, ht] at h
  obtain ⟨cs, h1, h2, _⟩ := h
  exact ⟨cs, h1, h2⟩

theorem ints_of_cells {k : IntKind} (l : List Value) (h : ∀ i, i < l.length → ∃ z, l[i]? = some (.int k z) ∧ (Lit.int k z).wf = true) : ∃ zs : List Int, l = zs.map (Value.int k) ∧ ∀ z ∈ zs, (Lit.int k z).wf = true := by
  induction l with
  | nil => exact ⟨[], rfl, by simp⟩
  | cons x l ih =>
    obtain ⟨z, hz, wz⟩ := h 0 (by simp)
    obtain ⟨zs, hzs, wzs⟩ := ih fun i hi => by
      obtain ⟨z, h1, h2⟩ := h (i + 1) (by simp; omega)
      exact ⟨z, by simpa using h1, h2⟩
    simp at hz
    exact ⟨z :: zs, by rw [hz, hzs]; rfl, by simp [wz]; exact wzs⟩

theorem open_arr {n : Nat} {t e : TypeId} {k : IntKind} {v : Value} {d : DataW H} {p : List MemPlace} {r : Reach} {b0 : Nat} (ht : P.underlying t = some (.array n e)) (he : P.underlying e = some (.int k)) (hce : P.cellsOf e = 1) (hC : P.cellsOf t = n)
    (hv : Value.okWide P w r b0 t v) (h : DataW.Trod enc P w base spare held t v d p) : ∃ zs : List Int, zs.length = n ∧ v = .agg (zs.map (Value.int k)).toArray ∧ ∀ z ∈ zs, (Lit.int k z).wf = true := by
  obtain ⟨cs, rfl, hsz⟩ := okWide_array ht hv
  obtain ⟨fuel, hf⟩ := h
  have hf' : DataW.trod enc P w base spare held fuel t cs.toList = some (d, p) := by simpa [Value.cells] using hf
  obtain ⟨xs, m, _, _, hl, hx, hall⟩ := DataW.trod_array ht hf'
  rw [hce] at hall
  have hn : cs.toList.length = n := by rw [hl, hC]
  obtain ⟨zs, h1, h2⟩ := ints_of_cells (k := k) cs.toList fun i hi => by
    have h3 := hall i (by omega)
    simp only [Nat.mul_one] at h3
    have hxi : i < xs.length := by omega
    rw [List.getElem?_eq_getElem hxi] at h3
    obtain ⟨z, h4, _, h5⟩ := DataW.trod_int he h3
    refine ⟨z, ?_, h5⟩
    have h6 : ((cs.toList.drop i).take 1)[0]? = some (.int k z) := by rw [h4]; rfl
    simpa [List.getElem?_take, List.getElem?_drop] using h6
  refine ⟨zs, ?_, ?_, h2⟩
  · have : (zs.map (Value.int k)).length = n := by rw [← h1]; exact hn
    simpa using this
  · rw [← h1]
end
end Go.Proofs.Ytihjefncjkdnpaa
