/- Layer 13: plain laws of a box: four lines laid on a bare plan are its frame. -/
import Derived.Test.YtebalohoblaedaaGlyN
namespace Go.Proofs.Ytebalohoblaedaa
set_option linter.unusedVariables false
set_option linter.unusedSimpArgs false

def lin2 (W H : Nat) (x0 y0 x1 y1 k : Int) (L : List A4) : List A4 := linS W (min x0 x1) (min y0 y1) (max x0 x1) (max y0 y1) k (W * H) L
theorem lin2_len (W H : Nat) (x0 y0 x1 y1 k : Int) (L : List A4) : (lin2 W H x0 y0 x1 y1 k L).length = L.length := linS_len _ _ _ _ _ _ _ _
theorem lin2_at (W H : Nat) (x0 y0 x1 y1 k : Int) (L : List A4) (x y : Nat) (hl : L.length = W * H) (hx : x < W) (hy : y < H) : (lin2 W H x0 y0 x1 y1 k L).getD (y * W + x) zA = if inL (min x0 x1) (min y0 y1) (max x0 x1) (max y0 y1) (x : Int) (y : Int) = true then mergeA [L.getD (y * W + x) zA, armOf (min x0 x1) (min y0 y1) (max x0 x1) (max y0 y1) k (x : Int) (y : Int)] else L.getD (y * W + x) zA := by
  have hn : y * W + x < W * H := by
    have : (y + 1) * W ≤ H * W := Nat.mul_le_mul_right W hy
    rw [Nat.add_mul, Nat.mul_comm H W] at this
    omega
  unfold lin2
  rw [linS_get _ _ _ _ _ _ _ _ _ (by rw [hl]; exact hn), (rowcol W x y hx).1, (rowcol W x y hx).2]
  simp only [hn, true_and]
/-- a box's four lines -/
def boxS (W H : Nat) (x0 y0 x1 y1 k : Int) (L : List A4) : List A4 := lin2 W H x1 y0 x1 y1 k (lin2 W H x0 y0 x0 y1 k (lin2 W H x0 y1 x1 y1 k (lin2 W H x0 y0 x1 y0 k L)))
theorem boxS_len (W H : Nat) (x0 y0 x1 y1 k : Int) (L : List A4) : (boxS W H x0 y0 x1 y1 k L).length = L.length := by unfold boxS; simp only [lin2_len]
/-- arms of one kind -/
def oneK (k : Int) (a b c d : Bool) : A4 := ⟨if a = true then k else 0, if b = true then k else 0, if c = true then k else 0, if d = true then k else 0⟩
theorem merge_oneK (k : Int) (hk : k = 1 ∨ k = 2 ∨ k = 3 ∨ k = 4) (a b c d a' b' c' d' : Bool) : mergeA [oneK k a b c d, oneK k a' b' c' d'] = oneK k (a || a') (b || b') (c || c') (d || d') := by
  rcases hk with rfl | rfl | rfl | rfl <;> (revert a b c d a' b' c' d'; decide +kernel)
theorem step_oneK (k : Int) (hk : k = 1 ∨ k = 2 ∨ k = 3 ∨ k = 4) (t a b c d a' b' c' d' : Bool) : (if t = true then mergeA [oneK k a b c d, oneK k a' b' c' d'] else oneK k a b c d) = oneK k (a || (t && a')) (b || (t && b')) (c || (t && c')) (d || (t && d')) := by
  cases t
  · simp
  · rw [merge_oneK k hk]; simp
theorem arm_oneK (x0 y0 x1 y1 k x y : Int) : armOf x0 y0 x1 y1 k x y = oneK k (decide (y0 < y)) (decide (x < x1)) (decide (y < y1)) (decide (x0 < x)) := by
  unfold armOf oneK
  simp only [decide_eq_true_eq]
theorem no_oneK (k : Int) (hk : k = 1 ∨ k = 2 ∨ k = 3 ∨ k = 4) (a b c d : Bool) : noArms (oneK k a b c d) = !(a || b || c || d) := by
  rcases hk with rfl | rfl | rfl | rfl <;> (revert a b c d; decide +kernel)
/-- what a box of x to x + w - 1, y to y + h - 1 shows at i, j -/
def wantB (x y x1 y1 k i j : Int) : A4 :=
  oneK k (decide ((x ≤ i ∧ i ≤ x1 ∧ y ≤ j ∧ j ≤ y1) ∧ (i = x ∨ i = x1) ∧ ¬ j = y)) (decide ((x ≤ i ∧ i ≤ x1 ∧ y ≤ j ∧ j ≤ y1) ∧ (j = y ∨ j = y1) ∧ ¬ i = x1))
    (decide ((x ≤ i ∧ i ≤ x1 ∧ y ≤ j ∧ j ≤ y1) ∧ (i = x ∨ i = x1) ∧ ¬ j = y1)) (decide ((x ≤ i ∧ i ≤ x1 ∧ y ≤ j ∧ j ≤ y1) ∧ (j = y ∨ j = y1) ∧ ¬ i = x))
theorem box_at (W H : Nat) (x y x1 y1 k : Int) (hk : k = 1 ∨ k = 2 ∨ k = 3 ∨ k = 4) (hx : x < x1) (hy : y < y1) (i j : Nat) (hi : i < W) (hj : j < H) :
    (boxS W H x y x1 y1 k (List.replicate (W * H) zA)).getD (j * W + i) zA = wantB x y x1 y1 k i j := by
  have hn : j * W + i < W * H := by
    have : (j + 1) * W ≤ H * W := Nat.mul_le_mul_right W hj
    rw [Nat.add_mul, Nat.mul_comm H W] at this
    omega
  have h0 : (List.replicate (W * H) zA).length = W * H := by simp
  have e0 : (List.replicate (W * H) zA).getD (j * W + i) zA = oneK k false false false false := by
    simp [List.getD_eq_getElem?_getD, hn, oneK, zA]
  unfold boxS
  rw [lin2_at _ _ _ _ _ _ _ _ _ _ (by simp only [lin2_len, h0]) hi hj, lin2_at _ _ _ _ _ _ _ _ _ _ (by simp only [lin2_len, h0]) hi hj, lin2_at _ _ _ _ _ _ _ _ _ _ (by simp only [lin2_len, h0]) hi hj, lin2_at _ _ _ _ _ _ _ _ _ _ h0 hi hj, e0]
  simp only [arm_oneK, step_oneK k hk]
  unfold wantB inL
  congr 1
  all_goals
    rw [Bool.eq_iff_iff]
    simp only [Bool.or_eq_true, Bool.and_eq_true, decide_eq_true_eq, Bool.false_eq_true, false_or]
    omega
end Go.Proofs.Ytebalohoblaedaa
