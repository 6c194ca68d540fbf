/- Opening arguments: slices of rectangles. -/
import Derived.Test.YtekcheccelllcaaRctE
import Derived.Test.YtekcheccelllcaaOpen
import Derived.Deep.Slices
import Derived.SizedLaws
namespace Go.Proofs.Ytekcheccelllcaa
open Go.ChangeShapes Go.WideShapes Go.ChangeAt Go.RowKit Go.Joins Go.Deep
set_option linter.unusedVariables false
set_option linter.unusedSimpArgs false

section
variable {H : Type} {enc : TypeId × Value → H} {P : Program} {w : World} {base : Nat} {spare : Nat → Bool} {held : Bool}

theorem list_of_fn (n : Nat) (Q : Nat → R4 → Prop) (h : ∀ i, i < n → ∃ r, Q i r) : ∃ L : List R4, L.length = n ∧ ∀ i, i < n → Q i (L.getD i zR) := by
  induction n with
  | zero => exact ⟨[], rfl, fun i hi => by omega⟩
  | succ n ih =>
    obtain ⟨L, hL, hQ⟩ := ih fun i hi => h i (by omega)
    obtain ⟨r, hr⟩ := h n (by omega)
    refine ⟨L ++ [r], by simp [hL], fun i hi => ?_⟩
    by_cases hin : i < n
    · have := hQ i hin
      simpa [List.getD_eq_getElem?_getD, List.getElem?_append_left (show i < L.length by omega)] using this
    · have : i = n := by omega
      subst this
      simpa [List.getD_eq_getElem?_getD, List.getElem?_append_right (show L.length ≤ i by omega), hL] using hr

theorem spot_of_cell {a : Addr} {v : Value} (h : w.cell? a = some v) : a.spot = none := by
  unfold World.cell? at h
  split at h
  · split at h
    · cases h
    · rename_i hs
      simpa using hs
  · cases h

set_option maxHeartbeats 4000000 in
theorem open_rects {t e it : TypeId} {f0 f1 f2 f3 : Field} {v : Value} {d : DataW H} {p : List MemPlace} {r : Reach} {b0 : Nat} (ht : P.underlying t = some (.slice e)) (he : P.underlying e = some (.struct #[f0, f1, f2, f3])) (hone : oneCellFields P #[f0, f1, f2, f3] = true) (hC : P.cellsOf e = 4)
    (hit : P.underlying it = some (.int .i64)) (t0 : f0.type = it) (t1 : f1.type = it) (t2 : f2.type = it) (t3 : f3.type = it)
    (hv : Value.okWide P w r b0 t v) (h : DataW.Trod enc P w base spare held t v d p) : ∃ p' n c L, v = .slice p' n c ∧ L.length = n ∧ SlAt w p' L ∧ (∀ r ∈ L, isR r) ∧ (p' = none → n = 0 ∧ c = 0) ∧ (n ≠ 0 → ∃ elems sp, d = .slice elems sp ∧ elems.length = n) := by
  obtain ⟨a, len, cap, rfl⟩ := okWide_slice ht hv
  obtain ⟨fuel, hf⟩ := h
  have hf' : DataW.trod enc P w base spare held fuel t [.slice a len cap] = some (d, p) := by simpa [Value.cells] using hf
  rcases open_slice ht hf' with ⟨h1, h2⟩ | ⟨a', len', cap', m, n, D, Pl, h1, hb, hle, hcap, hm, hx, hall⟩
  · simp only [List.cons.injEq, Value.slice.injEq, and_true] at h1
    obtain ⟨rfl, rfl, rfl⟩ := h1
    exact ⟨none, 0, 0, [], rfl, rfl, fun h => by simp at h, by simp, fun _ => ⟨rfl, rfl⟩, fun h => by simp at h⟩
  · simp only [List.cons.injEq, Value.slice.injEq, and_true] at h1
    obtain ⟨rfl, rfl, rfl⟩ := h1
    have hmle : len ≤ m := by rw [hm]; split <;> omega
    have spot0 : 0 < len → a'.spot = none := by
      intro h0
      obtain ⟨cs', h2, h3⟩ := hall 0 (by omega)
      rw [hC] at h2
      obtain ⟨_, hlen, hcell⟩ := World.cells?_some h2
      have c0 := hcell 0 (by omega)
      have := spot_of_cell (w := w) (a := (a'.add (0 * 4)).add 0) (by rw [c0, List.getElem?_eq_getElem (show 0 < cs'.length by omega)])
      simpa [Addr.add] using this
    have key : ∀ i, i < len → ∃ q : R4, (w.cell? ⟨a'.block, a'.off + i * 4, none⟩ = some (.int .i64 q.x) ∧ w.cell? ⟨a'.block, a'.off + i * 4 + 1, none⟩ = some (.int .i64 q.y) ∧ w.cell? ⟨a'.block, a'.off + i * 4 + 2, none⟩ = some (.int .i64 q.w) ∧ w.cell? ⟨a'.block, a'.off + i * 4 + 3, none⟩ = some (.int .i64 q.h)) ∧ isR q ∧ a'.spot = none := by
      intro i hi
      have hs0 := spot0 (by omega)
      obtain ⟨cs', h2, h3⟩ := hall i (by omega)
      rw [hC] at h2
      obtain ⟨_, hlen, hcell⟩ := World.cells?_some h2
      obtain ⟨y0, y1, y2, y3, n', _, _, g0, g1, g2, g3⟩ := trod_struct4 he h3
      obtain ⟨o0, k0⟩ := hone_of hone 0 f0 rfl
      obtain ⟨o1, k1⟩ := hone_of hone 1 f1 rfl
      obtain ⟨o2, k2⟩ := hone_of hone 2 f2 rfl
      obtain ⟨o3, k3⟩ := hone_of hone 3 f3 rfl
      rw [o0, k0, t0] at g0; rw [o1, k1, t1] at g1; rw [o2, k2, t2] at g2; rw [o3, k3, t3] at g3
      obtain ⟨z0, e0, _, w0⟩ := DataW.trod_int hit g0
      obtain ⟨z1, e1, _, w1⟩ := DataW.trod_int hit g1
      obtain ⟨z2, e2, _, w2⟩ := DataW.trod_int hit g2
      obtain ⟨z3, e3, _, w3⟩ := DataW.trod_int hit g3
      have c0 := hcell 0 (by omega)
      have c1 := hcell 1 (by omega)
      have c2 := hcell 2 (by omega)
      have c3 := hcell 3 (by omega)
      match cs', hlen with
      | [v0, v1, v2, v3], _ =>
        simp at e0 e1 e2 e3
        subst e0 e1 e2 e3
        simp only [add_add] at c0 c1 c2 c3
        have ha : ∀ j, a'.add j = ⟨a'.block, a'.off + j, none⟩ := by
          intro j; unfold Addr.add; split
          · rename_i hj; subst hj; cases a'; simp at hs0; subst hs0; rfl
          · rfl
        rw [ha] at c0 c1 c2 c3
        exact ⟨⟨z0, z1, z2, z3⟩, ⟨by simpa using c0, by simpa [Nat.add_assoc] using c1, by simpa [Nat.add_assoc] using c2, by simpa [Nat.add_assoc] using c3⟩, ⟨bounds_i64 w0, bounds_i64 w1, bounds_i64 w2, bounds_i64 w3⟩, hs0⟩
    obtain ⟨L, hL, hQ⟩ := list_of_fn len _ key
    refine ⟨some a', len, cap, L, rfl, hL, fun h0 => ?_, ?_, fun h => (by cases h), fun _ => ?_⟩
    · have h0' : 0 < len := by omega
      have hs := (hQ 0 h0').2.2
      refine ⟨a'.block, a'.off, ?_, ?_, fun i hi => (hQ i (by omega)).1⟩
      · cases a'; simp at hs; subst hs; rfl
      · obtain ⟨cs', h2, _⟩ := hall 0 (by omega)
        have := World.cells?_block h2 (by rw [hC]; omega)
        simpa [Addr.add] using this
    · intro q hq
      obtain ⟨i, hi, rfl⟩ := List.getElem_of_mem hq
      have := (hQ i (by omega)).2.1
      simpa [List.getD_eq_getElem?_getD, List.getElem?_eq_getElem hi] using this
    · exact ⟨_, _, (Prod.ext_iff.1 hx).1, by simp⟩
end
end Go.Proofs.Ytekcheccelllcaa
