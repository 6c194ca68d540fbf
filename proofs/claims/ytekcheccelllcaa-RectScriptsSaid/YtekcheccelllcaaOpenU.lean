/- Layer 07: opening arguments: a scene: rectangles and steps. -/
import Derived.Test.YtekcheccelllcaaOpenT
import Derived.Test.YtekcheccelllcaaRctE
namespace Go.Proofs.Ytekcheccelllcaa
open Go.ChangeShapes Go.WideShapes Go.ChangeAt Go.RowKit Go.Joins Go.Deep
set_option linter.unusedVariables false
set_option linter.unusedSimpArgs false

section
variable {H : Type} {enc : TypeId × Value → H} {P : Program} {w : World} {base : Nat} {spare : Nat → Bool} {held : Bool}
set_option maxHeartbeats 4000000 in
/-- a slice within what is handed in reads as a list; each element takes k cells and meets Q -/
theorem slice_cells7 {α : Type} (z : α) (Q : α → List Value → Prop) (k : Nat) (hk : 0 < k) {t e : TypeId} (ht : P.underlying t = some (.slice e)) (hC : P.cellsOf e = k) (hlen : ∀ a cs, Q a cs → cs.length = k)
    (hel : ∀ (fuel : Nat) (cs : List Value) (x : DataW H × List MemPlace), DataW.trod enc P w base spare held fuel e cs = some x → ∃ a, Q a cs)
    {fuel : Nat} {l : List Value} {x : DataW H × List MemPlace} (h : DataW.trod enc P w base spare held fuel t l = some x) : ∃ (p' : Option Addr) (n c : Nat) (L : List α), l = [.slice p' n c] ∧ L.length = n ∧ n ≤ c ∧ c ≤ maxLen ∧ (p' = none → c = 0) ∧ (0 < n → ∃ b off, p' = some ⟨b, off, none⟩ ∧ b < w.heap.size ∧ ∀ i, i < n → ∃ cs, Q (L.getD i z) cs ∧ ∀ j, j < k → w.cell? ⟨b, off + (i * k + j), none⟩ = cs[j]?) ∧ (∀ i, i < n → ∃ cs, Q (L.getD i z) cs) ∧ (0 < n → ∃ elems sp, x.1 = .slice elems sp ∧ elems.length = n) := by
  rcases open_slice ht h with ⟨h1, h2⟩ | ⟨a', len, cap, m, n, D, Pl, h1, hb, hle, hcap, hm, hx, hall⟩
  · exact ⟨none, 0, 0, [], h1, rfl, Nat.le_refl _, Nat.zero_le _, fun _ => rfl, fun h => absurd h (Nat.lt_irrefl _), fun i hi => by omega, fun h => absurd h (Nat.lt_irrefl _)⟩
  · have hmle : len ≤ m := by rw [hm]; split <;> omega
    have spot0 : 0 < len → a'.spot = none := by
      intro h0
      obtain ⟨cs', h2, h3⟩ := hall 0 (by omega)
      rw [hC] at h2
      obtain ⟨_, hlen, hcell⟩ := World.cells?_some h2
      have c0 := hcell 0 hk
      have := spot_of_cellG (w := w) (a := (a'.add (0 * k)).add 0) (by rw [c0, List.getElem?_eq_getElem (show 0 < cs'.length by omega)])
      simpa [Addr.add] using this
    have key : ∀ i, i < len → ∃ q : α, ∃ cs, Q q cs ∧ (∀ j, j < k → w.cell? ⟨a'.block, a'.off + (i * k + j), none⟩ = cs[j]?) := by
      intro i hi
      have hs0 := spot0 (by omega)
      obtain ⟨cs', h2, h3⟩ := hall i (by omega)
      rw [hC] at h2
      obtain ⟨_, hlen, hcell⟩ := World.cells?_some h2
      obtain ⟨q, hq⟩ := hel _ _ _ h3
      refine ⟨q, cs', hq, fun j hj => ?_⟩
      have c := hcell j hj
      rw [add_add] at c
      have ha : ∀ j, a'.add j = ⟨a'.block, a'.off + j, none⟩ := by
        intro j; unfold Addr.add; split
        · rename_i hj; subst hj; cases a'; simp at hs0; subst hs0; rfl
        · rfl
      rw [ha] at c
      exact c
    obtain ⟨L, hL, hQ⟩ := list_of_fnG z len _ key
    refine ⟨some a', len, cap, L, h1, hL, hle, hcap, fun h => (by cases h), fun h0' => ?_, fun i hi => ?_, fun _ => ⟨_, _, (Prod.ext_iff.1 hx).1, by simp⟩⟩
    · have hs := spot0 h0'
      refine ⟨a'.block, a'.off, ?_, ?_, fun i hi => hQ i (by omega)⟩
      · cases a'; simp at hs; subst hs; rfl
      · obtain ⟨cs', h2, _⟩ := hall 0 (by omega)
        have := World.cells?_block h2 (by rw [hC]; omega)
        simpa [Addr.add] using this
    · obtain ⟨cs, hq, _⟩ := hQ i hi
      exact ⟨cs, hq⟩
end
section
variable {H : Type} {enc : TypeId × Value → H} {w : World} {base : Nat} {spare : Nat → Bool} {held : Bool}
theorem tcScene7 : Try.prog.cellsOf 60 = 2 := by kernel_rfl
def rcC (r : R4) : List Value := [.int .i64 r.x, .int .i64 r.y, .int .i64 r.w, .int .i64 r.h]
set_option maxRecDepth 100000 in
set_option maxHeartbeats 4000000 in
theorem open_scene7 {v : Value} {d : DataW H} {p : List MemPlace} {r : Reach} {b0 : Nat} (hv : Value.okWide Try.prog w r b0 60 v) (h : DataW.Trod enc Try.prog w base spare held 60 v d p) :
    ∃ (q : Option Addr) (m dd : Nat) (M : List R4) (p' : Option Addr) (c : Nat) (L : List (Int × R4)), v = .agg #[.slice q m dd, .slice p' L.length c] ∧ M.length = m ∧ SlAt w q M ∧ (∀ r ∈ M, isR r) ∧ StpAt w p' L ∧ (∀ s ∈ L, isR s.2) ∧ ∃ x1 x2, d = .agg [x1, x2] ∧ (0 < m → ∃ el sp, x1 = .slice el sp ∧ el.length = m) ∧ (0 < L.length → ∃ el sp, x2 = .slice el sp ∧ el.length = L.length) := by
  obtain ⟨cs, rfl, hsz⟩ := okWide_struct Try.underlying60 hv
  obtain ⟨fuel, hf⟩ := h
  have hf' : DataW.trod enc Try.prog w base spare held fuel 60 cs.toList = some (d, p) := by simpa [Value.cells] using hf
  obtain ⟨xs, n, _, hx, hl, hlen, hg⟩ := DataW.trod_struct Try.underlying60 hf'
  rw [tcScene7] at hl
  generalize hcs : cs.toList = cl at *
  match cl, hl, xs, hlen with
  | [c0, c1], _, [y0, y1], _ =>
    have g0 := hg 0 _ rfl; have g1 := hg 1 _ rfl
    simp [cells7L, cells7S] at g0 g1
    obtain ⟨q, m, dd, M, e0, hM, _, _, _, hat0, hq0, hd0⟩ := slice_cells7 zR (fun a cs => cs = rcC a ∧ isR a) 4 (by decide) Try.underlying26 cells7R (fun a cs h => by rw [h.1]; rfl) (fun fuel cs x h => by
      obtain ⟨r, e, hr⟩ := rect7_cells h
      exact ⟨r, e, hr⟩) g0
    obtain ⟨p', m2, c, L, e1, hL, _, _, _, hat1, hq1, hd1⟩ := slice_cells7 zS (fun a cs => cs = stC a ∧ isR a.2) 5 (by decide) Try.underlying58 cells7Step (fun a cs h => by rw [h.1]; rfl) (fun fuel cs x h => by
      obtain ⟨s, e, hr⟩ := step7_cells h
      exact ⟨s, e, hr⟩) g1
    simp only [List.cons.injEq, and_true] at e0 e1
    subst e0 e1
    refine ⟨q, m, dd, M, p', c, L, ?_, hM, fun h0 => ?_, fun r hr => ?_, fun h0 => ?_, fun s hs => ?_, y0.fst, y1.fst, ?_, hd0, fun h0 => ?_⟩
    · rw [← Array.toArray_toList (xs := cs), hcs, hL]
    · obtain ⟨b, off, e', hb, hcell⟩ := hat0 (by omega)
      refine ⟨b, off, e', hb, fun i hi => ?_⟩
      obtain ⟨cs, ⟨rfl, _⟩, hj⟩ := hcell i (by omega)
      have k0 := hj 0 (by omega); have k1 := hj 1 (by omega); have k2 := hj 2 (by omega); have k3 := hj 3 (by omega)
      simp only [← Nat.add_assoc, Nat.add_zero] at k0 k1 k2 k3
      exact ⟨k0, k1, k2, k3⟩
    · obtain ⟨i, hi, rfl⟩ := List.getElem_of_mem hr
      obtain ⟨cs, _, h1⟩ := hq0 i (by omega)
      rw [List.getD_eq_getElem?_getD, List.getElem?_eq_getElem hi] at h1
      exact h1
    · obtain ⟨b, off, e', hb, hcell⟩ := hat1 (by omega)
      refine ⟨b, off, e', hb, fun i hi j hj => ?_⟩
      obtain ⟨cs, ⟨rfl, _⟩, hj'⟩ := hcell i (by omega)
      exact hj' j hj
    · obtain ⟨i, hi, rfl⟩ := List.getElem_of_mem hs
      obtain ⟨cs, _, h1⟩ := hq1 i (by omega)
      rw [List.getD_eq_getElem?_getD, List.getElem?_eq_getElem hi] at h1
      exact h1
    · have := (Prod.ext_iff.1 hx).1
      simpa using this
    · rw [hL]; exact hd1 (by omega)
/-- how long a scene's lists are -/
theorem scene_sized {x1 x2 : DataW H} {m n : Nat} (hw : ∀ k ∈ (DataW.agg [x1, x2]).weights Try.prog 60, k ≤ 140737488351232) (h1 : 0 < m → ∃ el sp, x1 = .slice el sp ∧ el.length = m) (h2 : 0 < n → ∃ el sp, x2 = .slice el sp ∧ el.length = n) : m * 32 ≤ 140737488351232 ∧ n * 40 ≤ 140737488351232 := by
  have u0 := Try.underlying60
  constructor
  · by_cases h0 : 0 < m
    · obtain ⟨el, sp, rfl, he⟩ := h1 h0
      have := hw ((el.length + sp.length) * Try.prog.bytesOf 23) (by
        simp [DataW.weights, DataW.weightsEach, u0, Try.underlying26])
      rw [show Try.prog.bytesOf 23 = 32 by kernel_rfl, he] at this
      omega
    · omega
  · by_cases h0 : 0 < n
    · obtain ⟨el, sp, rfl, he⟩ := h2 h0
      have := hw ((el.length + sp.length) * Try.prog.bytesOf 66) (by
        simp [DataW.weights, DataW.weightsEach, u0, Try.underlying58])
      rw [show Try.prog.bytesOf 66 = 40 by kernel_rfl, he] at this
      omega
    · omega
end
end Go.Proofs.Ytekcheccelllcaa
