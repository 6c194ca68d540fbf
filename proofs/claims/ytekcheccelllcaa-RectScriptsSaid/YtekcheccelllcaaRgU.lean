/- Layer 07: RectSets: what the calls leave; the lists of what was done; plain facts. -/
import Derived.Test.YtekcheccelllcaaRgHs
import Derived.Test.YtekcheccelllcaaRgR
import Derived.Test.YtekcheccelllcaaRgZ
import Derived.Test.YtekcheccelllcaaRctPr
import Derived.Test.YtekcheccelllcaaRctPl
import Derived.Test.YtekcheccelllcaaOpenT
namespace Go.Proofs.Ytekcheccelllcaa
open Go.RowKit
set_option linter.unusedVariables false
set_option linter.unusedSimpArgs false

/-- cells of a list of steps -/
def stsV (D : List (Int × R4)) : List Value := D.flatMap stC
theorem stsV_len (D : List (Int × R4)) : (stsV D).length = D.length * 5 := by
  induction D with
  | nil => rfl
  | cons e l ih => rw [stsV, List.flatMap_cons, List.length_append]; rw [stsV] at ih; rw [ih, List.length_cons]; simp [stC]; omega
theorem stsV_app (l m : List (Int × R4)) : stsV (l ++ m) = stsV l ++ stsV m := by simp [stsV]
theorem stsV_at (l : List (Int × R4)) (i j : Nat) (h : i < l.length) (hj : j < 5) : (stsV l)[i * 5 + j]? = (stC (l.getD i zS))[j]? := by
  induction l generalizing i with
  | nil => cases h
  | cons e l ih =>
    have e0 : stsV (e :: l) = stC e ++ stsV l := rfl
    have hl : (stC e).length = 5 := rfl
    cases i with
    | zero =>
      rw [e0, List.getElem?_append_left (by rw [hl]; omega), Nat.zero_mul, Nat.zero_add]; rfl
    | succ i =>
      have := ih i (by simpa using h)
      rw [e0, List.getElem?_append_right (by rw [hl]; omega), hl, show (i + 1) * 5 + j - 5 = i * 5 + j by omega]
      exact this
/-- what one call does to a cell -/
def stepC (x y : Int) (i : Bool) (d : Int × R4) : Bool := (decide (d.1 = 1) && (i || hasR d.2 x y)) || (decide (d.1 = 2) && i && !hasR d.2 x y) || (decide (d.1 = 3) && i && hasR d.2 x y)
def inC (x y : Int) (D : List (Int × R4)) : Bool := D.foldl (stepC x y) false
theorem inC_snoc (x y : Int) (D : List (Int × R4)) (d : Int × R4) : inC x y (D ++ [d]) = stepC x y (inC x y D) d := by unfold inC; rw [List.foldl_append]; rfl
theorem inC_take (x y : Int) (D : List (Int × R4)) (k : Nat) (h : k < D.length) : inC x y (D.take (k + 1)) = stepC x y (inC x y (D.take k)) (D.getD k zS) := by
  rw [List.take_succ_eq_append_getElem h, inC_snoc, List.getD_eq_getElem?_getD, List.getElem?_eq_getElem h]; rfl
theorem inX_has (r : R4) (x y : Int) : inX (bxR r) x y = hasR r x y := by
  unfold bxR hasR inX
  by_cases h : okR4 r = true
  · rw [if_pos h, h]
  · rw [if_neg h, Bool.eq_false_iff.2 h]; simp
/-- the call's own sense -/
def opOf (d : Int) : Bool → Bool → Bool := if d = 1 then opAdd else if d = 2 then opCut else opClip
theorem opOf_false (d : Int) : opOf d false false = false := by unfold opOf; split <;> (try split) <;> rfl
theorem step_op {d : Int} (h : d = 1 ∨ d = 2 ∨ d = 3) (r : R4) (x y : Int) (i : Bool) : stepC x y i (d, r) = opOf d i (inX (bxR r) x y) := by
  rw [inX_has]
  unfold stepC opOf
  rcases h with rfl | rfl | rfl <;> simp [opAdd, opCut, opClip]
/-- the region, behind the calls D -/
def RgI (base : Nat) (w : World) (g : Nat) (D : List (Int × R4)) : Prop := ∃ v l, RegAt base w g v l ∧ RegOk (bdsOf l) ∧ Nums (bdsOf l) D.length ∧ ∀ x y, inB (bdsOf l) x y = inC x y D
theorem RgI.later {base : Nat} {w w' : World} {g : Nat} {D : List (Int × R4)} (h : RgI base w g D) (hb : Below w.heap.size w w') : RgI base w' g D := by
  obtain ⟨v, l, h1, h2, h3, h4⟩ := h
  exact ⟨v, l, h1.later hb, h2, h3, h4⟩
/-- the lists -/
structure RwI (base : Nat) (w : World) (dv : Value) (D : List (Int × R4)) (av : Value) (A : List R4) : Prop where
  dw : w.ownsRow base 66 5 dv D.length (stsV D)
  aw : w.ownsRow base 23 4 av A.length (cellsR A)
theorem RwI.later {base : Nat} {w w' : World} {dv av : Value} {D : List (Int × R4)} {A : List R4} (h : RwI base w dv D av A) (hb : Below w.heap.size w w') : RwI base w' dv D av A := ⟨row_later h.dw hb, row_later h.aw hb⟩
/-- a call on the region -/
theorem RgI.call {base b1 : Nat} {w w' : World} {g : Nat} {D : List (Int × R4)} {dv av : Value} {A : List R4} (hg : g < b1) (H : RwI b1 w dv D av A) {d : Int} (hd : d = 1 ∨ d = 2 ∨ d = 3) {r : R4} {e : Ending} {v : Value} {l : List BV} (hok : RegOk (bdsOf l)) (hn : Nums (bdsOf l) D.length) (hin : ∀ x y, inB (bdsOf l) x y = inC x y D) (hb : base ≤ g) (hz : base ≤ w.heap.size)
    (hc : ChgR base w (opOf d) g v l (bxR r) e w') : Below base w w' ∧ RwI b1 w' dv D av A ∧
      ((e = .returned (.int .i64 4) ∧ d ≠ 3 ∧ enoughB (D.length + 1) = true ∧ RgI base w' g D) ∨ (e = .returned (.int .i64 0) ∧ RgI base w' g (D ++ [(d, r)]))) := by
  obtain ⟨he, v', l', q1, q2, q3, q4⟩ := hc
  have kp : ∀ {t : TypeId} {k n : Nat} {v : Value} {xs : List Value}, w.ownsRow b1 t k v n xs → w'.ownsRow b1 t k v n xs := fun h => row_keepB h fun q hq => q3.block q (row_lt h q hq).1 (fun e => by have := (row_lt h q hq).2; have e : q = g := e; omega)
  refine ⟨q3.under (fun k hk => by rw [hk]; exact hb) hz, ⟨kp H.dw, kp H.aw⟩, ?_⟩
  have hcan := chgB_can (op := opOf d) (opOf_false d) hok.can (bxR_ok r)
  by_cases hf : 1024 < cntB (chgB (opOf d) (bdsOf l) (bxR r))
  · rw [if_pos hf] at he q2
    refine .inl ⟨he, ?_, enough_of hcan (nums_chg _ hn _) hf, v', l', q1, by rw [q2]; exact hok, by rw [q2]; exact hn, by rw [q2]; exact hin⟩
    rintro rfl
    have h1 := clip_few hok.can (bxR_ok r)
    have h2 := hok.few
    have h3 : cntB (chgB (opOf 3) (bdsOf l) (bxR r)) ≤ cntB (bdsOf l) := h1
    omega
  · rw [if_neg hf] at he q2
    refine .inr ⟨he, v', l', q1, ?_, ?_, fun x y => ?_⟩
    · rw [q2]; exact ⟨hcan, chgB_in_plane _ hok.pl (bxR_in _), by omega⟩
    · rw [q2, List.length_append]; exact nums_chg _ hn _
    · rw [q2, chgB_in (opOf_false d) hok.can (bxR_ok _), hin, inC_snoc, step_op hd]
/-- where a list of the call's own goes on -/
theorem RgI.grown {base b1 : Nat} {w w' : World} {g : Nat} {D : List (Int × R4)} (h : RgI base w g D) (hg : g < b1) {t : TypeId} {k n : Nat} {v : Value} {xs : List Value} (hr : w.ownsRow b1 t k v n xs) (h1 : t ≠ 86) (h2 : t ≠ 3) (gr : w.grownBy w' v.ownBlock) : RgI base w' g D := by
  obtain ⟨v1, l, a, b, c, d⟩ := h
  refine ⟨v1, l, a.keep fun q hq => gr.block q (a.lt q hq).1 (fun e => ?_), b, c, d⟩
  replace e := e.symm
  rcases hq with rfl | hq | ⟨e1, he, hq⟩
  · have := (row_lt hr _ e).2; omega
  · rcases row_ne hr a.bn.row h1 with h3 | h3
    · rw [h3] at e; cases e
    · exact h3 (e.trans hq.symm)
  · rcases row_ne hr (a.bn.en e1 he) h2 with h3 | h3
    · rw [h3] at e; cases e
    · exact h3 (e.trans hq.symm)
theorem RwI.nil (base : Nat) (w : World) : RwI base w (.slice none 0 0) [] (.slice none 0 0) [] := ⟨⟨rfl, .inl ⟨rfl, rfl⟩⟩, ⟨rfl, .inl ⟨rfl, rfl⟩⟩⟩

end Go.Proofs.Ytekcheccelllcaa
