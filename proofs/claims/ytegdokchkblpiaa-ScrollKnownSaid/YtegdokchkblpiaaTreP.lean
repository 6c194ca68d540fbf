/- Trees: plain laws: what a right tree is; what Carry keeps of one and the same tree. -/
import Derived.Test.YtegdokchkblpiaaTreF
namespace Go.Proofs.Ytegdokchkblpiaa
open Go.RowKit Go.Deep
set_option linter.unusedVariables false
set_option linter.unusedSimpArgs false

theorem keptF_miss : ∀ (l : List Nd) (o : List (Int × Int)) (f : List UInt8 → Int × Int) (k : List UInt8), (∀ i, i < l.length → keeps (l.getD i zNd) (o.getD i (0, 0)) = true → (l.getD i zNd).id.data.toList ≠ k) → keptF l o f k = f k
  | [], o, f, k, _ => by simp [keptF]
  | x :: l, [], f, k, _ => by simp [keptF]
  | x :: l, v :: o, f, k, h => by
    rw [keptF, keptF_miss l o _ k (fun i hi hk => h (i + 1) (by simpa using hi) hk)]
    by_cases hk : keeps x v = true
    · rw [if_pos hk]
      unfold putF
      have h0 : x.id.data.toList ≠ k := h 0 (by simp) hk
      rw [if_neg (Ne.symm h0)]
    · rw [if_neg hk]
theorem keptF_hit : ∀ (l : List Nd) (o : List (Int × Int)) (f : List UInt8 → Int × Int) (i : Nat), i < l.length → i < o.length → keeps (l.getD i zNd) (o.getD i (0, 0)) = true → (∀ j, j < l.length → j ≠ i → keeps (l.getD j zNd) (o.getD j (0, 0)) = true → (l.getD j zNd).id.data.toList ≠ (l.getD i zNd).id.data.toList) → keptF l o f (l.getD i zNd).id.data.toList = o.getD i (0, 0)
  | [], o, f, i, hi, _, _, _ => absurd hi (Nat.not_lt_zero _)
  | x :: l, [], f, i, _, hi, _, _ => absurd hi (Nat.not_lt_zero _)
  | x :: l, v :: o, f, i, hi, hi', hk, hd => by
    cases i with
    | zero =>
      have hk' : keeps x v = true := hk
      have e0 : (x :: l).getD 0 zNd = x := rfl
      rw [e0] at hd ⊢
      rw [keptF, keptF_miss l o _ _ (fun j hj hk => hd (j + 1) (by simpa using hj) (by omega) hk), if_pos hk']
      unfold putF
      rw [if_pos rfl]
      rfl
    | succ i =>
      rw [keptF]
      exact keptF_hit l o _ i (by simpa using hi) (by simpa using hi') hk (fun j hj hne hk => hd (j + 1) (by simpa using hj) (by omega) hk)
/-- what a scroll of a right tree has behind Carry of that tree itself -/
def staysF (x : Nd) (v : Int × Int) : Int × Int := if x.kind = 6 ∧ 0 < x.id.size then v else (0, 0)
theorem carry_self {T : List Nd} {O : List (Int × Int)} (h : (checkT T).1 = 0) (hO : O.length = T.length) (i : Nat) (hi : i < T.length) : (carryR T T O).getD i (0, 0) = staysF (T.getD i zNd) (O.getD i (0, 0)) := by
  have e : carryR T T O = T.map (outF (keptF T O noF)) := by
    unfold carryR heldF
    rw [if_pos h, if_pos ⟨h, hO⟩]
  have e2 : (carryR T T O).getD i (0, 0) = outF (keptF T O noF) (T.getD i zNd) := by
    rw [e, List.getD_eq_getElem?_getD, List.getD_eq_getElem?_getD, List.getElem?_map, List.getElem?_eq_getElem hi]; rfl
  rw [e2]
  unfold outF staysF
  by_cases h6 : (T.getD i zNd).kind = 6
  · rw [if_pos h6]
    by_cases h0 : 0 < (T.getD i zNd).id.size
    · rw [if_pos ⟨h6, h0⟩]
      have hd : ∀ j, j < T.length → j ≠ i → keeps (T.getD j zNd) (O.getD j (0, 0)) = true → (T.getD j zNd).id.data.toList ≠ (T.getD i zNd).id.data.toList := fun j hj hne _ => check_ids h i j hi hj (Ne.symm hne) h0
      by_cases hv : (O.getD i (0, 0)).1 = 0 ∧ (O.getD i (0, 0)).2 = 0
      · have hz : O.getD i (0, 0) = (0, 0) := Prod.ext hv.1 hv.2
        rw [keptF_miss T O noF _ (fun j hj hk => by
          by_cases e : j = i
          · subst e
            exfalso
            unfold keeps at hk
            rw [decide_eq_true_eq] at hk
            omega
          · exact hd j hj e hk), hz]
        rfl
      · exact keptF_hit T O noF i hi (by omega) (by unfold keeps; rw [decide_eq_true_eq]; exact ⟨h6, h0, by omega⟩) hd
    · rw [if_neg (fun h => h0 h.2)]
      have hz : (T.getD i zNd).id.data.toList = [] := List.eq_nil_of_length_eq_zero (by rw [← Lib.size_eq]; omega)
      rw [keptF_miss T O noF _ (fun j hj hk => by
        unfold keeps at hk
        rw [decide_eq_true_eq] at hk
        intro e
        rw [hz] at e
        have := hk.2.1
        rw [Lib.size_eq, e] at this
        exact absurd this (Nat.lt_irrefl _))]
      rfl
  · rw [if_neg h6, if_neg (fun h => h6 h.1)]
/-- an own row of offsets reads as a list -/
theorem own_offs {w : World} {base g n m cap : Nat} {L : List (Int × Int)} {T : TypeId} (h : w.ownsRow base T 2 (.slice (some ⟨g, 0, none⟩) n cap) m (cellsO L)) : g < w.heap.size ∧ ∀ i, i < L.length → w.cell? ⟨g, i * 2, none⟩ = some (.int .i64 (L.getD i (0, 0)).1) ∧ w.cell? ⟨g, i * 2 + 1, none⟩ = some (.int .i64 (L.getD i (0, 0)).2) := by
  obtain ⟨hl, h | ⟨g', cap', cur, e, hb, hh, hn, hc, hs, ht⟩⟩ := h
  · cases h.1
  · injection e with e1 e2 e3
    injection e1 with e1
    injection e1 with e1
    subst e1
    have hz : g < w.heap.size := (Array.getElem?_eq_some_iff.1 hh).1
    have key : ∀ i, i < L.length * 2 → w.cell? ⟨g, i, none⟩ = some (cellQ (fun j => L.getD j (0, 0)) i) := fun i hi => by
      have hi2 : i < m * 2 := by rw [← hl, cellsO_len]; exact hi
      have h1 := cellsO_get L i hi
      rw [← ht, List.getElem?_take_of_lt hi2] at h1
      rw [cell_of_row w g i cur T (0, 0) hh, ← Array.getElem?_toList]
      exact h1
    refine ⟨hz, fun i hi => ⟨?_, ?_⟩⟩
    · rw [key _ (by omega)]; unfold cellQ
      rw [if_pos (by omega), show i * 2 / 2 = i by omega]
    · rw [key _ (by omega)]; unfold cellQ
      rw [if_neg (by omega), show (i * 2 + 1) / 2 = i by omega]
theorem own_form {w : World} {base n : Nat} {v : Value} {L : List (Int × Int)} {T : TypeId} (h : w.ownsRow base T 2 v n (cellsO L)) : ∃ p c, v = .slice p n c ∧ n = L.length ∧ OffsAt w p L := by
  have hn : n = L.length := by have := h.1; rw [cellsO_len] at this; omega
  have h' := h
  obtain ⟨hl, ⟨rfl, rfl⟩ | ⟨g, cap, cur, rfl, hr⟩⟩ := h
  · exact ⟨none, 0, rfl, hn, fun h0 => by omega⟩
  · obtain ⟨hz, hc⟩ := own_offs h'
    refine ⟨_, _, rfl, hn, fun _ => ⟨g, 0, rfl, hz, fun i hi => ?_⟩⟩
    rw [Nat.zero_add]
    exact hc i hi
end Go.Proofs.Ytegdokchkblpiaa
