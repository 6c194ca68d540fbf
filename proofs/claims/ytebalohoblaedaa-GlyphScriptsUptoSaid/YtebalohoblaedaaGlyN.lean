/- Layer 13: Line. -/
import Derived.Test.YtebalohoblaedaaGlyM
namespace Go.Proofs.Ytebalohoblaedaa
open Go.RowKit
set_option linter.unusedVariables false
set_option linter.unusedSimpArgs false

def armOf (x0 y0 x1 y1 k x y : Int) : A4 := ⟨if y0 < y then k else 0, if x < x1 then k else 0, if y < y1 then k else 0, if x0 < x then k else 0⟩
def inL (x0 y0 x1 y1 x y : Int) : Bool := decide (x0 ≤ x ∧ x ≤ x1 ∧ y0 ≤ y ∧ y ≤ y1)
/-- a line laid on the first N cells -/
def linS (W : Nat) (x0 y0 x1 y1 k : Int) (N : Nat) (L : List A4) : List A4 := L.mapIdx fun n c => if n < N ∧ inL x0 y0 x1 y1 ((n % W : Nat) : Int) ((n / W : Nat) : Int) = true then mergeA [c, armOf x0 y0 x1 y1 k ((n % W : Nat) : Int) ((n / W : Nat) : Int)] else c
theorem linS_len (W : Nat) (x0 y0 x1 y1 k : Int) (N : Nat) (L : List A4) : (linS W x0 y0 x1 y1 k N L).length = L.length := by simp [linS]
theorem linS_get (W : Nat) (x0 y0 x1 y1 k : Int) (N : Nat) (L : List A4) (n : Nat) (hn : n < L.length) : (linS W x0 y0 x1 y1 k N L).getD n zA = if n < N ∧ inL x0 y0 x1 y1 ((n % W : Nat) : Int) ((n / W : Nat) : Int) = true then mergeA [L.getD n zA, armOf x0 y0 x1 y1 k ((n % W : Nat) : Int) ((n / W : Nat) : Int)] else L.getD n zA := by
  unfold linS
  simp [List.getD_eq_getElem?_getD, hn]
theorem ext_getD {X Y : List A4} (hl : X.length = Y.length) (h : ∀ n, n < X.length → X.getD n zA = Y.getD n zA) : X = Y := by
  apply List.ext_getElem hl
  intro n h1 h2
  have := h n h1
  simpa [List.getD_eq_getElem?_getD, h1, h2] using this
/-- where nothing between lies on the line -/
theorem linS_same (W : Nat) (x0 y0 x1 y1 k : Int) (N M : Nat) (L : List A4) (h : N ≤ M) (hi : ∀ n, N ≤ n → n < M → n < L.length → inL x0 y0 x1 y1 ((n % W : Nat) : Int) ((n / W : Nat) : Int) = false) : linS W x0 y0 x1 y1 k N L = linS W x0 y0 x1 y1 k M L := by
  apply ext_getD (by rw [linS_len, linS_len])
  intro n hn
  rw [linS_len] at hn
  rw [linS_get _ _ _ _ _ _ _ _ _ hn, linS_get _ _ _ _ _ _ _ _ _ hn]
  by_cases h1 : n < N
  · simp only [h1, show n < M from by omega]
  · by_cases h2 : n < M
    · have := hi n (by omega) h2 hn
      rw [this]
      simp
    · simp only [h1, h2]
theorem linS_zero (W : Nat) (x0 y0 x1 y1 k : Int) (L : List A4) : linS W x0 y0 x1 y1 k 0 L = L := by
  apply ext_getD (linS_len _ _ _ _ _ _ _ _)
  intro n hn
  rw [linS_len] at hn
  rw [linS_get _ _ _ _ _ _ _ _ _ hn]
  simp
/-- one cell more -/
theorem linS_step (W : Nat) (x0 y0 x1 y1 k : Int) (N : Nat) (L : List A4) (hN : N < L.length) (hin : inL x0 y0 x1 y1 ((N % W : Nat) : Int) ((N / W : Nat) : Int) = true) : linS W x0 y0 x1 y1 k (N + 1) L = (linS W x0 y0 x1 y1 k N L).set N (mergeA [(linS W x0 y0 x1 y1 k N L).getD N zA, armOf x0 y0 x1 y1 k ((N % W : Nat) : Int) ((N / W : Nat) : Int)]) := by
  apply ext_getD (by rw [List.length_set, linS_len, linS_len])
  intro n hn
  rw [linS_len] at hn
  rw [linS_get _ _ _ _ _ _ _ _ _ hn]
  by_cases h1 : n = N
  · subst h1
    have e : (linS W x0 y0 x1 y1 k n L).getD n zA = L.getD n zA := by rw [linS_get _ _ _ _ _ _ _ _ _ hn]; simp
    rw [if_pos ⟨by omega, hin⟩, e]
    simp [List.getD_eq_getElem?_getD, linS_len, hn]
  · have e : ((linS W x0 y0 x1 y1 k N L).set N (mergeA [(linS W x0 y0 x1 y1 k N L).getD N zA, armOf x0 y0 x1 y1 k ((N % W : Nat) : Int) ((N / W : Nat) : Int)])).getD n zA = (linS W x0 y0 x1 y1 k N L).getD n zA := by
      simp only [List.getD_eq_getElem?_getD]
      rw [List.getElem?_set_ne (fun h => h1 h.symm)]
    rw [e, linS_get _ _ _ _ _ _ _ _ _ hn]
    have e3 : (n < N + 1) ↔ (n < N) := ⟨fun _ => by omega, fun _ => by omega⟩
    simp only [e3]
theorem rowcol (W x y : Nat) (h : x < W) : (y * W + x) % W = x ∧ (y * W + x) / W = y := by
  constructor
  · rw [Nat.mul_comm, Nat.mul_add_mod, Nat.mod_eq_of_lt h]
  · rw [Nat.mul_comm, Nat.mul_add_div (by omega), Nat.div_eq_of_lt h, Nat.add_zero]
theorem inL_of_row (x0 y0 x1 y1 : Int) (W y n : Nat) (h1 : y * W ≤ n) (h2 : n < (y + 1) * W) : n / W = y ∧ n % W = n - y * W := by
  have e : n / W = y := Nat.div_eq_of_lt_le h1 h2
  refine ⟨e, ?_⟩
  have := Nat.div_add_mod n W
  rw [e, Nat.mul_comm] at this
  omega
/-- rows ahead of the line's -/
theorem linS_start (W : Nat) (x0 y0 x1 y1 k : Int) (y : Nat) (L : List A4) (hy : y0 ≤ y) (hs : (y : Int) = y0 ∨ y = 0) : linS W x0 y0 x1 y1 k (y * W) L = L := by
  rw [← linS_same W x0 y0 x1 y1 k 0 (y * W) L (by omega), linS_zero]
  intro n _ h1 hn
  rcases hs with h | h
  · unfold inL
    have : n / W < y := Nat.div_lt_of_lt_mul (by rw [Nat.mul_comm]; exact h1)
    simp only [decide_eq_false_iff_not]
    omega
  · subst h; simp at h1
theorem linS_end (W H : Nat) (x0 y0 x1 y1 k : Int) (y : Nat) (L : List A4) (hl : L.length = W * H) (hy : ¬ ((y : Int) ≤ y1 ∧ (y : Int) ≤ (H : Int) - 1)) : linS W x0 y0 x1 y1 k (y * W) L = linS W x0 y0 x1 y1 k (W * H) L := by
  have key : ∀ n, y * W ≤ n → n < W * H → inL x0 y0 x1 y1 ((n % W : Nat) : Int) ((n / W : Nat) : Int) = false := by
    intro n h1 h2
    have hW : 0 < W := by
      rcases Nat.eq_zero_or_pos W with h | h
      · subst h; simp at h2
      · exact h
    have h3 : y ≤ n / W := (Nat.le_div_iff_mul_le hW).2 h1
    have h4 : n / W < H := Nat.div_lt_of_lt_mul h2
    unfold inL
    simp only [decide_eq_false_iff_not]
    omega
  by_cases h : y * W ≤ W * H
  · exact linS_same _ _ _ _ _ _ _ _ _ h fun n h1 h2 _ => key n h1 h2
  · exact (linS_same _ _ _ _ _ _ _ _ _ (by omega) fun n h1 h2 h3 => by omega).symm
theorem linS_row_start (W : Nat) (x0 y0 x1 y1 k : Int) (x y : Nat) (L : List A4) (hx : x0 ≤ x) (hs : (x : Int) = x0 ∨ x = 0) : linS W x0 y0 x1 y1 k (y * W + min x W) L = linS W x0 y0 x1 y1 k (y * W) L := by
  refine (linS_same _ _ _ _ _ _ _ _ _ (by omega) fun n h1 h2 _ => ?_).symm
  obtain ⟨e1, e2⟩ := inL_of_row x0 y0 x1 y1 W y n h1 (by rw [Nat.add_mul]; omega)
  unfold inL
  rw [e1, e2]
  simp only [decide_eq_false_iff_not]
  omega
theorem linS_row_end (W : Nat) (x0 y0 x1 y1 k : Int) (x y : Nat) (L : List A4) (hx : ¬ ((x : Int) ≤ x1 ∧ (x : Int) ≤ (W : Int) - 1)) : linS W x0 y0 x1 y1 k (y * W + min x W) L = linS W x0 y0 x1 y1 k ((y + 1) * W) L := by
  refine linS_same _ _ _ _ _ _ _ _ _ (by rw [Nat.add_mul]; omega) fun n h1 h2 _ => ?_
  obtain ⟨e1, e2⟩ := inL_of_row x0 y0 x1 y1 W y n (by omega) h2
  unfold inL
  rw [e1, e2]
  simp only [decide_eq_false_iff_not]
  rw [Nat.add_mul] at h2
  omega
end Go.Proofs.Ytebalohoblaedaa
