/- Opening arguments: a slice of bytes, and how many it holds by what was handed in. -/
import Derived.Test.YtcihihncgpddfaaTreT
import Derived.Test.YtcihihncgpddfaaRdZ
namespace Go.Proofs.Ytcihihncgpddfaa
open Go.ChangeShapes Go.WideShapes Go.ChangeAt Go.RowKit Go.Joins Go.Deep
set_option linter.unusedVariables false
set_option linter.unusedSimpArgs false

section
variable {H : Type} {enc : TypeId × Value → H} {w : World} {base : Nat} {spare : Nat → Bool} {held : Bool}
theorem tcU8b_ : Try.prog.cellsOf 5 = 1 := by kernel_rfl
set_option maxRecDepth 100000 in
theorem open_bytes2 {v : Value} {d : DataW H} {p : List MemPlace} {r : Reach} {b0 : Nat} (hv : Value.okWide Try.prog w r b0 36 v) (h : DataW.Trod enc Try.prog w base spare held 36 v d p) :
    ∃ B : List Int, BytesAt w v B ∧ Byte8 B ∧ (0 < B.length → ∃ elems sp, d = .slice elems sp ∧ elems.length = B.length) := by
  obtain ⟨a, len, cap, rfl⟩ := okWide_slice Try.underlying36 hv
  obtain ⟨fuel, hf⟩ := h
  have hf' : DataW.trod enc Try.prog w base spare held fuel 36 [.slice a len cap] = some (d, p) := by simpa [Value.cells] using hf
  obtain ⟨q, n, c, L, e, hL, hn, hc, hp, hat, hq, hdat⟩ := slice_cells (0 : Int) (fun a cs => cs = [.int .u8 a] ∧ 0 ≤ a ∧ a ≤ 255) 1 (by decide) Try.underlying36 tcU8b_ (fun a cs h => by rw [h.1]; rfl) (fun fuel cs x h => by
    obtain ⟨a, e0, _, w0⟩ := DataW.trod_int Try.underlying5 h
    have := bounds_u8 w0
    exact ⟨a, e0, this.1, this.2⟩) hf'
  simp only [List.cons.injEq, Value.slice.injEq, and_true] at e
  obtain ⟨rfl, rfl, rfl⟩ := e
  refine ⟨L, ⟨a, cap, by rw [hL], by omega, by unfold maxLen at hc; omega, fun h0 => ?_⟩, fun k hk => ?_, fun h0 => ?_⟩
  · obtain ⟨b, off, e', hb, hcell⟩ := hat (by omega)
    refine ⟨b, off, e', hb, fun i hi => ?_⟩
    obtain ⟨cs, ⟨rfl, _⟩, hj⟩ := hcell i (by omega)
    have := hj 0 (by omega)
    simpa using this
  · obtain ⟨i, hi, rfl⟩ := List.getElem_of_mem hk
    obtain ⟨cs, _, h1, h2⟩ := hq i (by omega)
    rw [List.getD_eq_getElem?_getD, List.getElem?_eq_getElem hi] at h1 h2
    exact ⟨h1, h2⟩
  · obtain ⟨elems, sp, e1, e2⟩ := hdat (by omega)
    exact ⟨elems, sp, e1, by omega⟩
end
end Go.Proofs.Ytcihihncgpddfaa
