/- Regions of cells: what the walk of change asks; plain laws. -/
import Derived.Test.YtekcheccelllcaaRgD
namespace Go.Proofs.Ytekcheccelllcaa
set_option linter.unusedVariables false
set_option linter.unusedSimpArgs false

def zB : Bd := ⟨0, 0, []⟩
theorem rowB_drop {bs : List Bd} {z : Int} : ∀ n, n ≤ bs.length → (∀ j, j < n → (bs.getD j zB).y1 ≤ z) → rowB bs z = rowB (bs.drop n) z := by
  induction bs with
  | nil => intro n hn _; simp
  | cons b bs ih =>
    intro n hn h
    cases n with
    | zero => rfl
    | succ n =>
      have h0 : b.y1 ≤ z := h 0 (by omega)
      rw [rowB, if_neg (by omega), List.drop_succ_cons]
      exact ih n (by simp at hn; omega) fun j hj => h (j + 1) (by omega)
theorem Can.drop {bs : List Bd} (h : Can bs) : ∀ n, Can (bs.drop n) := by
  induction bs with
  | nil => intro n; simp; trivial
  | cons b bs ih =>
    intro n
    cases n with
    | zero => exact h
    | succ n => exact ih h.2.2 n
theorem dropB {bs : List Bd} {n : Nat} (h : n < bs.length) : bs.drop n = bs.getD n zB :: bs.drop (n + 1) := by
  rw [List.drop_eq_getElem_cons h, List.getD_eq_getElem?_getD, List.getElem?_eq_getElem h]; rfl
/-- where the pointer stands the row is read -/
theorem rowB_at {bs : List Bd} (hc : Can bs) {z : Int} {n : Nat} (hn : n ≤ bs.length) (hlow : ∀ j, j < n → (bs.getD j zB).y1 ≤ z) (hat : n < bs.length → z < (bs.getD n zB).y1) : rowB bs z = if n < bs.length ∧ (bs.getD n zB).y0 ≤ z then (bs.getD n zB).es else [] := by
  rw [rowB_drop n hn hlow]
  by_cases h : n < bs.length
  · have hd := hc.drop n
    rw [dropB h] at hd ⊢
    rw [rowB]
    by_cases e : (bs.getD n zB).y0 ≤ z
    · rw [if_pos ⟨e, hat h⟩, if_pos ⟨h, e⟩]
    · rw [if_neg (fun x => e x.1), if_neg (fun x => e x.2), hd.row_tail (hat h)]
  · rw [if_neg (fun x => h x.1), List.drop_eq_nil_of_le (by omega)]; rfl
theorem EOk.two {l : List Int} (h : EOk l) (hn : l ≠ []) : 2 ≤ l.length := by
  have h1 := h.2
  have : l.length ≠ 0 := fun e => hn (List.length_eq_zero_iff.1 e)
  omega
theorem Can.len {bs : List Bd} (h : Can bs) : bs.length ≤ cntB bs := by
  induction bs with
  | nil => simp
  | cons b bs ih =>
    have h1 := ih h.2.2
    have h2 := h.1.ok.two h.1.ne
    have : cntB (b :: bs) = b.es.length / 2 + cntB bs := by simp [cntB]
    rw [this, List.length_cons]
    omega
theorem cntB_append (a b : List Bd) : cntB (a ++ b) = cntB a + cntB b := by simp [cntB]
theorem insU_len (a : Int) (l : List Int) : (insU a l).length ≤ l.length + 1 := by
  induction l with
  | nil => simp [insU]
  | cons b l ih => rw [insU]; split; simp; split <;> simp; omega
theorem srtU_len (l : List Int) : (srtU l).length ≤ l.length := by
  induction l with
  | nil => simp [srtU]
  | cons a l ih => have := insU_len a (srtU l); rw [srtU] at this ih ⊢; rw [List.foldr_cons, List.length_cons]; omega
theorem ysOf_len (bs : List Bd) (y0 y1 : Int) : (ysOf bs y0 y1).length = 2 * bs.length + 2 := by
  unfold ysOf
  induction bs with
  | nil => rfl
  | cons b bs ih => simp at ih ⊢; omega
/-- all numbers lie within the plane -/
structure BIn (b : Bd) : Prop where
  t0 : -1048576 ≤ b.y0 ∧ b.y0 ≤ 1048576
  t1 : -1048576 ≤ b.y1 ∧ b.y1 ≤ 1048576
  e : ∀ x ∈ b.es, -1048576 ≤ x ∧ x ≤ 1048576
def BsIn (bs : List Bd) : Prop := ∀ b ∈ bs, BIn b
structure BxIn (b : Bx) : Prop where
  x0 : -1048576 ≤ b.x0 ∧ b.x0 ≤ 1048576
  y0 : -1048576 ≤ b.y0 ∧ b.y0 ≤ 1048576
  x1 : -1048576 ≤ b.x1 ∧ b.x1 ≤ 1048576
  y1 : -1048576 ≤ b.y1 ∧ b.y1 ≤ 1048576
theorem rowB_in {bs : List Bd} (h : BsIn bs) (z : Int) : ∀ x ∈ rowB bs z, -1048576 ≤ x ∧ x ≤ 1048576 := by
  rcases @rowB_mem bs z with e | ⟨b, h1, _, _, e⟩ <;> rw [e]
  · intro x hx; cases hx
  · exact (h b h1).e
theorem rowX_inr {b : Bx} (h : BxIn b) (z : Int) : ∀ x ∈ rowX b z, -1048576 ≤ x ∧ x ≤ 1048576 := by
  unfold rowX
  split
  · intro x hx; simp at hx; rcases hx with rfl | rfl
    · exact h.x0
    · exact h.x1
  · intro x hx; cases hx
theorem fRow_in (op : Bool → Bool → Bool) {bs : List Bd} {b : Bx} (h : BsIn bs) (hb : BxIn b) (z : Int) : ∀ x ∈ fRow op bs b z, -1048576 ≤ x ∧ x ≤ 1048576 := fun x hx => by
  rcases mix_mem hx with h1 | h1
  · exact rowB_in h z x h1
  · exact rowX_inr hb z x h1
theorem ysOf_in {bs : List Bd} {b : Bx} (h : BsIn bs) (hb : BxIn b) : ∀ y ∈ ysOf bs b.y0 b.y1, -1048576 ≤ y ∧ y ≤ 1048576 := fun y hy => by
  rcases ysOf_mem.1 hy with rfl | rfl | ⟨c, hc, rfl | rfl⟩
  · exact hb.y0
  · exact hb.y1
  · exact (h c hc).t0
  · exact (h c hc).t1
theorem refG_in (f : Int → List Int) (hf : ∀ z, ∀ x ∈ f z, -1048576 ≤ x ∧ x ≤ 1048576) (ys : List Int) (hy : ∀ y ∈ ys, -1048576 ≤ y ∧ y ≤ 1048576) (top : Int) (now : List Int) (ht : -1048576 ≤ top ∧ top ≤ 1048576) (hn : ∀ x ∈ now, -1048576 ≤ x ∧ x ≤ 1048576) : BsIn (refG f ys top now) := by
  induction ys generalizing top now with
  | nil => intro b hb; cases hb
  | cons y ys ih =>
    have hy0 := hy y (by simp)
    have hy1 : ∀ z ∈ ys, -1048576 ≤ z ∧ z ≤ 1048576 := fun z hz => hy z (by simp [hz])
    cases ys with
    | nil =>
      rw [refG]
      split
      · intro b hb; cases hb
      · intro b hb; simp at hb; subst hb; exact ⟨ht, hy0, hn⟩
    | cons y' ys =>
      rw [refG]
      split
      · exact ih hy1 top now ht hn
      · split
        · exact ih hy1 y (f y) hy0 (hf y)
        · intro b hb
          rcases List.mem_cons.1 hb with rfl | hb
          · exact ⟨ht, hy0, hn⟩
          · exact ih hy1 y (f y) hy0 (hf y) b hb
theorem chgB_in_plane (op : Bool → Bool → Bool) {bs : List Bd} {b : Bx} (h : BsIn bs) (hb : BxIn b) : BsIn (chgB op bs b) := by
  unfold chgB
  have hs : ∀ y ∈ srtU (ysOf bs b.y0 b.y1), -1048576 ≤ y ∧ y ≤ 1048576 := fun y hy => ysOf_in h hb y ((srtU_mem _ y).1 hy)
  cases hq : srtU (ysOf bs b.y0 b.y1) with
  | nil => intro b hb; cases hb
  | cons y ys =>
    rw [hq] at hs
    exact refG_in _ (fRow_in op h hb) _ hs y [] (hs y (by simp)) (fun x hx => by cases hx)
/-- a step of the loop -/
theorem goB_step (f : Int → List Int) {ys : List Int} {i : Nat} (out : List Bd) (h : i + 1 < ys.length) : goB f (ys.drop i) out = goB f (ys.drop (i + 1)) (pushB out (ys.getD i 0) (ys.getD (i + 1) 0) (f (ys.getD i 0))) := by
  have e1 : ys.drop i = ys.getD i 0 :: ys.drop (i + 1) := by rw [List.drop_eq_getElem_cons (by omega), List.getD_eq_getElem?_getD, List.getElem?_eq_getElem (by omega)]; rfl
  have e2 : ys.drop (i + 1) = ys.getD (i + 1) 0 :: ys.drop (i + 1 + 1) := by rw [List.drop_eq_getElem_cons h, List.getD_eq_getElem?_getD, List.getElem?_eq_getElem h]; rfl
  rw [e1, e2, goB]
theorem goB_end (f : Int → List Int) {ys : List Int} {i : Nat} (out : List Bd) (h : ys.length ≤ i + 1) : goB f (ys.drop i) out = out := by
  rcases hq : ys.drop i with _ | ⟨y, _ | ⟨y', t⟩⟩
  · rfl
  · rfl
  · have := congrArg List.length hq
    simp at this
    omega
theorem up_getD {ys : List Int} (h : Up ys) {i j : Nat} (hij : i < j) (hj : j < ys.length) : ys.getD i 0 < ys.getD j 0 := by
  have := List.pairwise_iff_getElem.1 h i j (by omega) hj hij
  simpa [List.getD_eq_getElem?_getD, hj, show i < ys.length by omega] using this
/-- how many rectangles a step adds -/
theorem pushB_len (out : List Bd) (y0 y1 : Int) (now : List Int) : (pushB out y0 y1 now).length ≤ out.length + 1 := by
  unfold pushB
  split
  · omega
  · split
    · simp
    · split
      · rename_i b h _
        have : out ≠ [] := fun e => by rw [e] at h; cases h
        have := List.length_pos_iff.2 this
        simp <;> omega
      · simp
end Go.Proofs.Ytekcheccelllcaa
