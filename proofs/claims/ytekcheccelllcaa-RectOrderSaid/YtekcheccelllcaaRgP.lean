/- Regions of cells: how many rectangles calls can make; whatever the order; plain laws. -/
import Derived.Test.YtekcheccelllcaaRgG
namespace Go.Proofs.Ytekcheccelllcaa
set_option linter.unusedVariables false
set_option linter.unusedSimpArgs false

/-- all bounds and ends are out of at most 2 k numbers each -/
def Nums (bs : List Bd) (k : Nat) : Prop := ∃ Y X : List Int, Y.length ≤ 2 * k ∧ X.length ≤ 2 * k ∧ (∀ b ∈ bs, b.y0 ∈ Y ∧ b.y1 ∈ Y) ∧ ∀ b ∈ bs, ∀ x ∈ b.es, x ∈ X
theorem nums_nil : Nums [] 0 := ⟨[], [], by simp, by simp, fun b hb => (by cases hb), fun b hb => (by cases hb)⟩
theorem refG_mem (f : Int → List Int) (ys : List Int) (top : Int) (now : List Int) : ∀ b ∈ refG f ys top now, (b.y0 = top ∨ b.y0 ∈ ys) ∧ b.y1 ∈ ys ∧ (b.es = now ∨ ∃ y, b.es = f y) := by
  induction ys generalizing top now with
  | nil => intro b hb; cases hb
  | cons y ys ih =>
    cases ys with
    | nil =>
      rw [refG]
      split
      · intro b hb; cases hb
      · intro b hb; simp at hb; subst hb; exact ⟨.inl rfl, by simp, .inl rfl⟩
    | cons y' ys =>
      rw [refG]
      split
      · intro b hb
        obtain ⟨h1, h2, h3⟩ := ih top now b hb
        exact ⟨h1.imp id fun h => List.mem_cons_of_mem _ h, List.mem_cons_of_mem _ h2, h3⟩
      · have key : ∀ b ∈ refG f (y' :: ys) y (f y), (b.y0 = top ∨ b.y0 ∈ y :: y' :: ys) ∧ b.y1 ∈ y :: y' :: ys ∧ (b.es = now ∨ ∃ z, b.es = f z) := fun b hb => by
          obtain ⟨h1, h2, h3⟩ := ih y (f y) b hb
          refine ⟨.inr ?_, List.mem_cons_of_mem _ h2, .inr (h3.elim (fun h => ⟨y, h⟩) id)⟩
          rcases h1 with h | h
          · rw [h]; simp
          · exact List.mem_cons_of_mem _ h
        split
        · exact key
        · intro b hb
          rcases List.mem_cons.1 hb with rfl | hb
          · exact ⟨.inl rfl, by simp, .inl rfl⟩
          · exact key b hb
theorem nums_chg (op : Bool → Bool → Bool) {bs : List Bd} {k : Nat} (h : Nums bs k) (b : Bx) : Nums (chgB op bs b) (k + 1) := by
  obtain ⟨Y, X, hY, hX, h1, h2⟩ := h
  have hys : ∀ y ∈ srtU (ysOf bs b.y0 b.y1), y ∈ b.y0 :: b.y1 :: Y := fun y hy => by
    rcases ysOf_mem.1 ((srtU_mem _ y).1 hy) with rfl | rfl | ⟨c, hc, rfl | rfl⟩
    · simp
    · simp
    · simp [(h1 c hc).1]
    · simp [(h1 c hc).2]
  have hf : ∀ z, ∀ x ∈ fRow op bs b z, x ∈ b.x0 :: b.x1 :: X := fun z x hx => by
    rcases mix_mem hx with h | h
    · rcases @rowB_mem bs z with e | ⟨c, hc, _, _, e⟩
      · rw [e] at h; cases h
      · rw [e] at h; simp [h2 c hc x h]
    · unfold rowX at h
      split at h
      · simp at h; rcases h with rfl | rfl <;> simp
      · cases h
  refine ⟨b.y0 :: b.y1 :: Y, b.x0 :: b.x1 :: X, by simp; omega, by simp; omega, ?_, ?_⟩
  all_goals
    unfold chgB
    cases hq : srtU (ysOf bs b.y0 b.y1) with
    | nil => intro c hc; cases hc
    | cons y ys =>
      rw [hq] at hys
      intro c hc
      obtain ⟨g1, g2, g3⟩ := refG_mem _ _ _ _ c hc
      first
        | exact ⟨g1.elim (fun e => by rw [e]; exact hys y (by simp)) (fun e => hys _ e), hys _ g2⟩
        | (intro x hx
           rcases g3 with e | ⟨z, e⟩
           · rw [e] at hx; cases hx
           · rw [e] at hx; exact hf z x hx)
theorem up_sub_len {a : List Int} : ∀ {Y : List Int}, Up a → (∀ x ∈ a, x ∈ Y) → a.length ≤ Y.length := by
  induction a with
  | nil => intro Y _ _; simp
  | cons x a ih =>
    intro Y hu hs
    have hU := List.pairwise_cons.1 hu
    have hx := hs x (by simp)
    have := ih (Y := Y.erase x) hU.2 fun z hz => by
      have h1 := hU.1 z hz
      exact (List.mem_erase_of_ne (by omega)).2 (hs z (by simp [hz]))
    rw [List.length_erase_of_mem hx] at this
    have hp := List.length_pos_of_mem hx
    rw [List.length_cons]
    omega
theorem Can.ups {bs : List Bd} (h : Can bs) (hne : bs ≠ []) : ∃ t, t ∈ bs.map (·.y1) ∧ Up (bs.map (·.y0) ++ [t]) := by
  induction bs with
  | nil => exact absurd rfl hne
  | cons b bs ih =>
    cases bs with
    | nil =>
      refine ⟨b.y1, by simp, ?_⟩
      have := h.1.yy
      exact List.pairwise_cons.2 ⟨fun c hc => by simp at hc; subst hc; exact this, List.pairwise_singleton _ _⟩
    | cons c bs =>
      obtain ⟨t, h1, h2⟩ := ih h.2.2 (by simp)
      refine ⟨t, List.mem_cons_of_mem _ h1, ?_⟩
      rw [List.map_cons, List.cons_append]
      refine List.pairwise_cons.2 ⟨fun x hx => ?_, h2⟩
      have hb := h.1.yy
      have hlt := h.lt
      rcases List.mem_append.1 hx with hx | hx
      · obtain ⟨d, hd, rfl⟩ := List.mem_map.1 hx
        have := hlt d hd; omega
      · rw [List.mem_singleton] at hx
        subst hx
        obtain ⟨d, hd, rfl⟩ := List.mem_map.1 h1
        have h3 := hlt d hd
        have h4 := (h.2.2.ok d hd).yy
        omega
theorem sum_le (bs : List Bd) (k : Nat) (h : ∀ b ∈ bs, b.es.length / 2 ≤ k) : cntB bs ≤ bs.length * k := by
  induction bs with
  | nil => simp [cntB]
  | cons b bs ih =>
    have e : cntB (b :: bs) = b.es.length / 2 + cntB bs := by simp [cntB]
    have h1 := ih fun c hc => h c (by simp [hc])
    have h2 := h b (by simp)
    rw [e, List.length_cons, Nat.succ_mul]
    omega
theorem nums_cnt {bs : List Bd} {k : Nat} (hc : Can bs) (h : Nums bs k) : cntB bs ≤ (2 * k - 1) * k := by
  by_cases hne : bs = []
  · subst hne; simp [cntB]
  · obtain ⟨Y, X, hY, hX, h1, h2⟩ := h
    obtain ⟨t, ht, hu⟩ := hc.ups hne
    have hl := up_sub_len (Y := Y) hu fun x hx => by
      rcases List.mem_append.1 hx with hx | hx
      · obtain ⟨d, hd, rfl⟩ := List.mem_map.1 hx; exact (h1 d hd).1
      · rw [List.mem_singleton] at hx
        subst hx
        obtain ⟨d, hd, rfl⟩ := List.mem_map.1 ht; exact (h1 d hd).2
    simp at hl
    have hs := sum_le bs k fun b hb => by
      have := up_sub_len (Y := X) (hc.ok b hb).ok.1 (h2 b hb)
      omega
    exact Nat.le_trans hs (Nat.mul_le_mul_right k (by omega))
def enoughB (k : Nat) : Bool := decide (1000 < k) || decide (1024 < (2 * k - 1) * k)
theorem enough_mono {i k : Nat} (h : enoughB i = true) (hik : i ≤ k) : enoughB k = true := by
  unfold enoughB at *
  simp at *
  rcases h with h | h
  · exact .inl (by omega)
  · refine .inr (Nat.lt_of_lt_of_le h ?_)
    exact Nat.mul_le_mul (by omega) hik
theorem enough_of {bs : List Bd} {k : Nat} (hc : Can bs) (h : Nums bs k) (hf : 1024 < cntB bs) : enoughB k = true := by
  have := nums_cnt hc h
  unfold enoughB
  simp
  exact .inr (by omega)
end Go.Proofs.Ytekcheccelllcaa
