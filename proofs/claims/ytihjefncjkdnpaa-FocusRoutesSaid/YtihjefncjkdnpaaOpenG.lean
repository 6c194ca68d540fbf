/- Opening arguments: slices of elements of any fixed number of cells. -/
import Derived.Test.YtihjefncjkdnpaaOpen
import Derived.Deep.Slices
import Derived.SizedLaws
namespace Go.Proofs.Ytihjefncjkdnpaa
open Go.ChangeShapes Go.WideShapes Go.ChangeAt Go.RowKit Go.Joins Go.Deep
set_option linter.unusedVariables false
set_option linter.unusedSimpArgs false

section
variable {H : Type} {enc : TypeId × Value → H} {P : Program} {w : World} {base : Nat} {spare : Nat → Bool} {held : Bool}

theorem list_of_fnG {α : Type} (z : α) (n : Nat) (Q : Nat → α → Prop) (h : ∀ i, i < n → ∃ r, Q i r) : ∃ L : List α, L.length = n ∧ ∀ i, i < n → Q i (L.getD i z) := by
  induction n with
  | zero => exact ⟨[], rfl, fun i hi => by omega⟩
  | succ n ih =>
    obtain ⟨L, hL, hQ⟩ := ih fun i hi => h i (by omega)
    obtain ⟨r, hr⟩ := h n (by omega)
    refine ⟨L ++ [r], by simp [hL], fun i hi => ?_⟩
    by_cases hin : i < n
    · have := hQ i hin
      simpa [List.getD_eq_getElem?_getD, List.getElem?_append_left (show i < L.length by omega)] using this
    · have : i = n := by omega
      subst this
      simpa [List.getD_eq_getElem?_getD, List.getElem?_append_right (show L.length ≤ i by omega), hL] using hr

theorem spot_of_cellG {a : Addr} {v : Value} (h : w.cell? a = some v) : a.spot = none := by
  unfold World.cell? at h
  split at h
  · split at h
    · cases h
    · rename_i hs
      simpa using hs
  · cases h

set_option maxHeartbeats 4000000 in
/-- a slice handed in reads as a list; each element takes k cells and meets Q -/
theorem open_slice_any {α : Type} (z : α) (cl : α → List Value) (Q : α → Prop) (k : Nat) (hk : 0 < k) {t e : TypeId} {v : Value} {d : DataW H} {p : List MemPlace} {r : Reach} {b0 : Nat} (ht : P.underlying t = some (.slice e)) (hC : P.cellsOf e = k) (hcl : ∀ a, (cl a).length = k)
    (hel : ∀ (fuel : Nat) (cs : List Value) (x : DataW H × List MemPlace), DataW.trod enc P w base spare held fuel e cs = some x → ∃ a, cs = cl a ∧ Q a)
    (hv : Value.okWide P w r b0 t v) (h : DataW.Trod enc P w base spare held t v d p) : ∃ (p' : Option Addr) (n c : Nat) (L : List α), v = .slice p' n c ∧ L.length = n ∧ n ≤ c ∧ (n ≠ 0 → ∃ b off, p' = some ⟨b, off, none⟩ ∧ b < w.heap.size ∧ ∀ i, i < n → ∀ j, j < k → w.cell? ⟨b, off + (i * k + j), none⟩ = (cl (L.getD i z))[j]?) ∧ (∀ i, i < n → Q (L.getD i z)) ∧ (p' = none → n = 0 ∧ c = 0) ∧ (n ≠ 0 → ∃ elems sp, d = .slice elems sp ∧ elems.length = n) := by
  obtain ⟨a, len, cap, rfl⟩ := okWide_slice ht hv
  obtain ⟨fuel, hf⟩ := h
  have hf' : DataW.trod enc P w base spare held fuel t [.slice a len cap] = some (d, p) := by simpa [Value.cells] using hf
  rcases open_slice ht hf' with ⟨h1, h2⟩ | ⟨a', len', cap', m, n, D, Pl, h1, hb, hle, hcap, hm, hx, hall⟩
  · simp only [List.cons.injEq, Value.slice.injEq, and_true] at h1
    obtain ⟨rfl, rfl, rfl⟩ := h1
    exact ⟨none, 0, 0, [], rfl, rfl, Nat.le_refl _, fun h => by simp at h, fun i hi => by omega, fun _ => ⟨rfl, rfl⟩, fun h => by simp at h⟩
  · simp only [List.cons.injEq, Value.slice.injEq, and_true] at h1
    obtain ⟨rfl, rfl, rfl⟩ := h1
    have hmle : len ≤ m := by rw [hm]; split <;> omega
    have spot0 : 0 < len → a'.spot = none := by
      intro h0
      obtain ⟨cs', h2, h3⟩ := hall 0 (by omega)
      rw [hC] at h2
      obtain ⟨_, hlen, hcell⟩ := World.cells?_some h2
      have c0 := hcell 0 hk
      have := spot_of_cellG (w := w) (a := (a'.add (0 * k)).add 0) (by rw [c0, List.getElem?_eq_getElem (show 0 < cs'.length by omega)])
      simpa [Addr.add] using this
    have key : ∀ i, i < len → ∃ q : α, (∀ j, j < k → w.cell? ⟨a'.block, a'.off + (i * k + j), none⟩ = (cl q)[j]?) ∧ Q q := by
      intro i hi
      have hs0 := spot0 (by omega)
      obtain ⟨cs', h2, h3⟩ := hall i (by omega)
      rw [hC] at h2
      obtain ⟨_, hlen, hcell⟩ := World.cells?_some h2
      obtain ⟨q, rfl, hq⟩ := hel _ _ _ h3
      refine ⟨q, fun j hj => ?_, hq⟩
      have c := hcell j hj
      rw [add_add] at c
      have ha : ∀ j, a'.add j = ⟨a'.block, a'.off + j, none⟩ := by
        intro j; unfold Addr.add; split
        · rename_i hj; subst hj; cases a'; simp at hs0; subst hs0; rfl
        · rfl
      rw [ha] at c
      exact c
    obtain ⟨L, hL, hQ⟩ := list_of_fnG z len _ key
    refine ⟨some a', len, cap, L, rfl, hL, hle, fun h0 => ?_, fun i hi => (hQ i hi).2, fun h => (by cases h), fun _ => ?_⟩
    · have h0' : 0 < len := by omega
      have hs := spot0 h0'
      refine ⟨a'.block, a'.off, ?_, ?_, fun i hi => (hQ i (by omega)).1⟩
      · cases a'; simp at hs; subst hs; rfl
      · obtain ⟨cs', h2, _⟩ := hall 0 (by omega)
        have := World.cells?_block h2 (by rw [hC]; omega)
        simpa [Addr.add] using this
    · exact ⟨_, _, (Prod.ext_iff.1 hx).1, by simp⟩
/-- an array of integers, out of its cells -/
theorem arr_cells {n : Nat} {t e : TypeId} {k : IntKind} (ht : P.underlying t = some (.array n e)) (he : P.underlying e = some (.int k)) (hce : P.cellsOf e = 1) (hC : P.cellsOf t = n) {fuel : Nat} {cs : List Value} {x : DataW H × List MemPlace} (h : DataW.trod enc P w base spare held fuel t cs = some x) : ∃ zs : List Int, zs.length = n ∧ cs = zs.map (Value.int k) ∧ ∀ z ∈ zs, (Lit.int k z).wf = true := by
  obtain ⟨xs, m, _, _, hl, hx, hall⟩ := DataW.trod_array ht h
  rw [hce] at hall
  have hn : cs.length = n := by rw [hl, hC]
  obtain ⟨zs, h1, h2⟩ := ints_of_cells (k := k) cs fun i hi => by
    have h3 := hall i (by omega)
    simp only [Nat.mul_one] at h3
    have hxi : i < xs.length := by omega
    rw [List.getElem?_eq_getElem hxi] at h3
    obtain ⟨z, h4, _, h5⟩ := DataW.trod_int he h3
    refine ⟨z, ?_, h5⟩
    have h6 : ((cs.drop i).take 1)[0]? = some (.int k z) := by rw [h4]; rfl
    simpa [List.getElem?_take, List.getElem?_drop] using h6
  refine ⟨zs, ?_, h1, h2⟩
  have : (zs.map (Value.int k)).length = n := by rw [← h1]; exact hn
  simpa using this
end
end Go.Proofs.Ytihjefncjkdnpaa
