/- Lists of ints and of items that lie in memory, and rows of the call's own. -/
import Derived.Test.YtihjefncjkdnpaaTreN
import Derived.Test.YtihjefncjkdnpaaLntO
namespace Go.Proofs.Ytihjefncjkdnpaa
open Go.RowKit Go.Deep
set_option linter.unusedVariables false
set_option linter.unusedSimpArgs false

theorem IntsAt.src {w : World} {p : Option Addr} {n c : Nat} {L : List Int} (h : IntsAt w (.slice p n c) L) : n = L.length ∧ Src w p n 1 (L.map (Value.int .i64)) := by
  obtain ⟨p', c', e, h1, h2, h3, h4⟩ := h
  injection e with e1 e2 e3
  subst e1 e2 e3
  refine ⟨rfl, by simp, fun h0 => ?_⟩
  obtain ⟨b, off, e, hz, hc⟩ := h4 h0
  refine ⟨b, off, e, hz, fun j u hu => ?_⟩
  rw [List.getElem?_map] at hu
  have hj : j < L.length := by
    by_cases hj : j < L.length
    · exact hj
    · rw [List.getElem?_eq_none (by omega)] at hu; cases hu
  rw [hc j hj, List.getD_eq_getElem?_getD]
  rw [List.getElem?_eq_getElem hj] at hu ⊢
  exact hu
def cellsI (L : List It) : List Value := L.flatMap itV
theorem cellsI_len (L : List It) : (cellsI L).length = L.length * 5 := by
  induction L with
  | nil => rfl
  | cons a L ih => simp [cellsI, itV] at ih ⊢; omega
theorem cellsI_get (L : List It) : ∀ i j, i < L.length → j < 5 → (cellsI L)[i * 5 + j]? = (itV (L.getD i zIt))[j]? := by
  induction L with
  | nil => intro i j hi; simp at hi
  | cons a L ih =>
    intro i j hi hj
    have e : cellsI (a :: L) = itV a ++ cellsI L := by simp [cellsI]
    rw [e]
    cases i with
    | zero => rw [List.getElem?_append_left (by simp [itV]; omega)]; simp
    | succ i =>
      rw [List.getElem?_append_right (by simp [itV]; omega)]
      have := ih i j (by simpa using hi) hj
      rw [show (i + 1) * 5 + j - (itV a).length = i * 5 + j by simp [itV]; omega]
      simpa using this
theorem ItsAt.src {w : World} {p : Option Addr} {n c : Nat} {L : List It} (h : ItsAt w (.slice p n c) L) : n = L.length ∧ Src w p n 5 (cellsI L) := by
  obtain ⟨p', c', e, h1, h2, h3, h4⟩ := h
  injection e with e1 e2 e3
  subst e1 e2 e3
  refine ⟨rfl, cellsI_len L, fun h0 => ?_⟩
  obtain ⟨b, off, e, hz, hc⟩ := h4 h0
  refine ⟨b, off, e, hz, fun j u hu => ?_⟩
  have hj : j < L.length * 5 := by
    by_cases hj : j < L.length * 5
    · exact hj
    · rw [List.getElem?_eq_none (by rw [cellsI_len]; omega)] at hu; cases hu
  have e1 : j = (j / 5) * 5 + j % 5 := by omega
  rw [e1] at hu ⊢
  rw [hc (j / 5) (by omega) (j % 5) (by omega), ← cellsI_get L (j / 5) (j % 5) (by omega) (by omega)]
  exact hu
theorem row_ints {w : World} {base : Nat} {t : TypeId} {v : Value} {L : List Int} (h : w.ownsRow base t 1 v L.length (L.map (Value.int .i64))) : IntsAt w v L := by
  rcases row_form h with ⟨rfl, h0, _⟩ | ⟨g, c, rfl, hn, hm, hz, _⟩
  · rw [show L = [] from List.eq_nil_of_length_eq_zero h0]
    exact ⟨none, 0, rfl, Nat.le_refl _, by omega, fun _ => rfl, fun h => absurd h (Nat.lt_irrefl _)⟩
  · refine ⟨_, c, rfl, hn, by unfold maxLen at hm; omega, (fun h => by cases h), fun h0 => ⟨g, 0, rfl, hz, fun i hi => ?_⟩⟩
    refine row_cells h i _ ?_
    rw [List.getElem?_map, List.getD_eq_getElem?_getD, List.getElem?_eq_getElem hi]
    rfl
theorem row_items {w : World} {base : Nat} {t : TypeId} {v : Value} {L : List It} (h : w.ownsRow base t 5 v L.length (cellsI L)) : ItsAt w v L := by
  rcases row_form h with ⟨rfl, h0, _⟩ | ⟨g, c, rfl, hn, hm, hz, _⟩
  · rw [show L = [] from List.eq_nil_of_length_eq_zero h0]
    exact ⟨none, 0, rfl, Nat.le_refl _, by omega, fun _ => rfl, fun h => absurd h (Nat.lt_irrefl _)⟩
  · refine ⟨_, c, rfl, hn, by unfold maxLen at hm; omega, (fun h => by cases h), fun h0 => ⟨g, 0, rfl, hz, fun i hi j hj => ?_⟩⟩
    have e := cellsI_get L i j hi hj
    have hl : j < (itV (L.getD i zIt)).length := by simpa [itV] using hj
    rw [List.getElem?_eq_getElem hl] at e ⊢
    exact row_cells h _ _ e

end Go.Proofs.Ytihjefncjkdnpaa
