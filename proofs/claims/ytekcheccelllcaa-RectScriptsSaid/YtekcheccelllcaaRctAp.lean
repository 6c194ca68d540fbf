/- apart: plain laws on lists of the call's own. -/
import Derived.Test.YtekcheccelllcaaRctZ
import Derived.Laws.OwnMore
namespace Go.Proofs.Ytekcheccelllcaa
open Go.RowKit
set_option linter.unusedVariables false
set_option linter.unusedSimpArgs false

theorem cellsR_cons (r : R4) (L : List R4) : cellsR (r :: L) = .int .i64 r.x :: .int .i64 r.y :: .int .i64 r.w :: .int .i64 r.h :: cellsR L := by simp [cellsR]
theorem cellsR_set (X : List R4) (k : Nat) (r : R4) (hk : k < X.length) : ((((cellsR X).set (k * 4) (.int .i64 r.x)).set (k * 4 + 1) (.int .i64 r.y)).set (k * 4 + 2) (.int .i64 r.w)).set (k * 4 + 3) (.int .i64 r.h) = cellsR (X.set k r) := by
  induction X generalizing k with
  | nil => simp at hk
  | cons q X ih =>
    cases k with
    | zero => simp [cellsR_cons]
    | succ k =>
      have := ih k (by simpa using hk)
      rw [List.set_cons_succ, cellsR_cons, cellsR_cons, ← this, show (k + 1) * 4 = k * 4 + 1 + 1 + 1 + 1 by omega]
      simp [List.set_cons_succ, Nat.add_assoc]
theorem grown_trans {w w1 w2 : World} {row : Option Nat} (h1 : w.grownBy w1 row) (h2 : w1.grownBy w2 row) : w.grownBy w2 row :=
  ⟨h2.os.trans h1.os, h2.tape.trans h1.tape, h2.output.trans h1.output, Nat.le_trans h1.size h2.size, fun k hk hr => (h2.block k (Nat.lt_of_lt_of_le hk h1.size) hr).trans (h1.block k hk hr)⟩
/-- a rectangle stored into a list of the call's own -/
theorem own_set4 {w : World} {base g n cap : Nat} {X : List R4} (h : w.ownsRow base 23 4 (.slice (some ⟨g, 0, none⟩) n cap) n (cellsR X)) (k : Nat) (r : R4) (hk : k < X.length) :
    ∃ w', w' = (((w.setCell ⟨g, k * 4, none⟩ (.int .i64 r.x)).setCell ⟨g, k * 4 + 1, none⟩ (.int .i64 r.y)).setCell ⟨g, k * 4 + 2, none⟩ (.int .i64 r.w)).setCell ⟨g, k * 4 + 3, none⟩ (.int .i64 r.h) ∧
      w'.ownsRow base 23 4 (.slice (some ⟨g, 0, none⟩) n cap) n (cellsR (X.set k r)) ∧ w.grownBy w' (some g) ∧ w'.heap.size = w.heap.size := by
  obtain ⟨h1, g1⟩ := h.stored (k * 4) (.int .i64 r.x)
  obtain ⟨h2, g2⟩ := h1.stored (k * 4 + 1) (.int .i64 r.y)
  obtain ⟨h3, g3⟩ := h2.stored (k * 4 + 2) (.int .i64 r.w)
  obtain ⟨h4, g4⟩ := h3.stored (k * 4 + 3) (.int .i64 r.h)
  refine ⟨_, rfl, ?_, grown_trans (grown_trans (grown_trans g1 g2) g3) g4, by simp⟩
  rw [← cellsR_set X k r hk]
  exact h4
/-- the marks of list i -/
def mk (i l : Nat) : List R4 := (List.range l).map fun (k : Nat) => ⟨(i : Int), (k : Int), -5, -6⟩
theorem mk_len (i l : Nat) : (mk i l).length = l := by simp [mk]
theorem mk_at (i l k : Nat) (h : k < l) : (mk i l).getD k zR = ⟨(i : Int), (k : Int), -5, -6⟩ := by
  simp [mk, List.getD_eq_getElem?_getD, h]
/-- one mark more -/
theorem mk_step {X : List R4} {i k : Nat} (hk : k < X.length) (h : ∀ t, t < k → X.getD t zR = ⟨(i : Int), (t : Int), -5, -6⟩) : ∀ t, t < k + 1 → (X.set k ⟨(i : Int), (k : Int), -5, -6⟩).getD t zR = ⟨(i : Int), (t : Int), -5, -6⟩ := by
  intro t ht
  by_cases htk : t = k
  · subst htk
    simp [List.getD_eq_getElem?_getD, hk]
  · have := h t (by omega)
    simpa [List.getD_eq_getElem?_getD, List.getElem?_set, show ¬ k = t by omega] using this
theorem mk_full {X : List R4} {i : Nat} (h : ∀ t, t < X.length → X.getD t zR = ⟨(i : Int), (t : Int), -5, -6⟩) : X = mk i X.length :=
  getD_ext (by rw [mk_len]) fun t ht => by rw [h t ht, mk_at i _ t ht]

/-- lists of the call's own, told by an outer list at ⟨b, off⟩ -/
structure Told (w : World) (base b off : Nat) (V : List Value) (X : List (List R4)) : Prop where
  len : X.length = V.length
  blk : b < w.heap.size
  at_ : ∀ i, i < V.length → w.cell? ⟨b, off + i, none⟩ = some (V.getD i undef)
  own : ∀ i, i < V.length → w.ownsRow base 23 4 (V.getD i undef) (X.getD i []).length (cellsR (X.getD i []))
  dis : ∀ i j, i < V.length → j < V.length → i ≠ j → (V.getD i undef).ownBlock = none ∨ (V.getD i undef).ownBlock ≠ (V.getD j undef).ownBlock
  out : ∀ i, i < V.length → (V.getD i undef).ownBlock ≠ some b
theorem Told.grown {w w' : World} {base b off : Nat} {V : List Value} {X : List (List R4)} (h : Told w base b off V X) {i : Nat} (hi : i < V.length) {g : Nat} (hg : (V.getD i undef).ownBlock = some g) (gr : w.grownBy w' (some g)) {L : List R4}
    (ho : w'.ownsRow base 23 4 (V.getD i undef) L.length (cellsR L)) : Told w' base b off V (X.set i L) := by
  refine ⟨by simpa using h.len, Nat.lt_of_lt_of_le h.blk gr.size, fun j hj => gr.cell (h.at_ j hj) (fun e => h.out i hi (by rw [hg, ← e])), fun j hj => ?_, h.dis, h.out⟩
  by_cases hij : i = j
  · subst hij
    have : (X.set i L).getD i [] = L := by simp [List.getD_eq_getElem?_getD, h.len, hi]
    rw [this]; exact ho
  · have : (X.set i L).getD j [] = X.getD j [] := by simp [List.getD_eq_getElem?_getD, List.getElem?_set, hij]
    rw [this]
    refine (h.own j hj).kept gr ?_
    rcases h.dis j i hj hi (fun e => hij e.symm) with h1 | h1
    · exact .inl h1
    · exact .inr (by rw [hg] at h1; exact h1)
end Go.Proofs.Ytekcheccelllcaa
