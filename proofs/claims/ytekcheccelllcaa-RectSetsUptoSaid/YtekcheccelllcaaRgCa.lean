/- Regions of cells: the rectangles of a region are canonical; plain laws. -/
import Derived.Test.YtekcheccelllcaaRgNw
namespace Go.Proofs.Ytekcheccelllcaa
open Go.RowKit
set_option linter.unusedVariables false
set_option linter.unusedSimpArgs false

def stB (bs : List Bd) (t : Nat) : Nat := cntB (bs.take t)
theorem prs_getD : ∀ (l : List Int) (j : Nat), j < l.length / 2 → (prs l).getD j (0, 0) = (l.getD (2 * j) 0, l.getD (2 * j + 1) 0)
  | [], j, h => by simp at h
  | [a], j, h => by simp at h
  | a :: b :: l, 0, h => rfl
  | a :: b :: l, j + 1, h => by
    have := prs_getD l j (by simp at h; omega)
    rw [prs, show 2 * (j + 1) = 2 * j + 1 + 1 from by omega]
    simpa using this
theorem rctB_getD (b : Bd) (j : Nat) (h : j < b.es.length / 2) : (rctB b).getD j zR = ⟨b.es.getD (2 * j) 0, b.y0, b.es.getD (2 * j + 1) 0 - b.es.getD (2 * j) 0, b.y1 - b.y0⟩ := by
  have := prs_getD b.es j h
  have hl : j < (prs b.es).length := by rw [prs_len]; exact h
  rw [List.getD_eq_getElem?_getD, List.getElem?_eq_getElem hl, Option.getD_some] at this
  rw [rctB, List.getD_eq_getElem?_getD, List.getElem?_map, List.getElem?_eq_getElem hl]
  simp [this]
theorem cntB_app (a b : List Bd) : cntB (a ++ b) = cntB a + cntB b := by simp [cntB]
theorem rctsB_two (a b : List Bd) : rctsB (a ++ b) = rctsB a ++ rctsB b := by simp [rctsB]
theorem stB_succ (bs : List Bd) (t : Nat) (h : t < bs.length) : stB bs (t + 1) = stB bs t + bs[t].es.length / 2 := by
  unfold stB
  rw [List.take_succ_eq_append_getElem h, cntB_app]
  congr 1
theorem stB_le (bs : List Bd) (t : Nat) : stB bs t ≤ (rctsB bs).length := by
  rw [rctsB_len]
  unfold stB
  conv => rhs; rw [← List.take_append_drop t bs, cntB_app]
  omega
theorem stB_all (bs : List Bd) : stB bs bs.length = (rctsB bs).length := by rw [rctsB_len, stB, List.take_length]
/-- a rectangle of a band -/
theorem sec_at {bs : List Bd} {t j : Nat} (h : t < bs.length) (hj : j < bs[t].es.length / 2) : (rctsB bs).getD (stB bs t + j) zR = (rctB bs[t]).getD j zR := by
  have e : rctsB bs = rctsB (bs.take t) ++ (rctB bs[t] ++ rctsB (bs.drop (t + 1))) := by
    conv => lhs; rw [← List.take_append_drop t bs, List.drop_eq_getElem_cons h, rctsB_two, rctsB_cons]
  have hl : (rctsB (bs.take t)).length = stB bs t := rctsB_len _
  have hr : (rctB bs[t]).length = bs[t].es.length / 2 := by rw [rctB, List.length_map, prs_len]
  rw [e, List.getD_eq_getElem?_getD, List.getElem?_append_right (by omega), List.getElem?_append_left (by omega), hl, List.getD_eq_getElem?_getD]
  congr 2
  omega
theorem upD_lt {l : List Int} (h : Up l) {i k : Nat} (hik : i < k) (hk : k < l.length) : l.getD i 0 < l.getD k 0 := by
  rw [List.getD_eq_getElem?_getD, List.getD_eq_getElem?_getD, List.getElem?_eq_getElem (by omega), List.getElem?_eq_getElem hk]
  exact List.pairwise_iff_getElem.1 h i k (by omega) hk hik
theorem even_ext {a b : List Int} (ha : a.length % 2 = 0) (hl : a.length = b.length) (h : ∀ j, j < a.length / 2 → a.getD (2 * j) 0 = b.getD (2 * j) 0 ∧ a.getD (2 * j + 1) 0 = b.getD (2 * j + 1) 0) : a = b := by
  refine List.ext_getElem hl fun i h1 h2 => ?_
  have hj := h (i / 2) (by omega)
  have key : a.getD i 0 = b.getD i 0 := by
    rcases Nat.mod_two_eq_zero_or_one i with e | e
    · have : 2 * (i / 2) = i := by omega
      rw [this] at hj; exact hj.1
    · have : 2 * (i / 2) + 1 = i := by omega
      rw [this] at hj; exact hj.2
  rw [List.getD_eq_getElem?_getD, List.getD_eq_getElem?_getD, List.getElem?_eq_getElem h1, List.getElem?_eq_getElem h2] at key
  exact key
theorem can_pos {bs : List Bd} (h : Can bs) (t : Nat) (ht : t < bs.length) : 0 < bs[t].es.length / 2 := by
  have hk := h.ord.ok _ (List.getElem_mem ht)
  have h1 := hk.ok.2
  have h2 := List.length_pos_iff.2 hk.ne
  omega
theorem can_next {bs : List Bd} (h : Can bs) : ∀ t (ht : t + 1 < bs.length), bs[t].y1 ≤ bs[t + 1].y0 ∧ (bs[t].y1 = bs[t + 1].y0 → bs[t].es ≠ bs[t + 1].es) := by
  induction bs with
  | nil => intro t ht; simp at ht
  | cons b bs ih =>
    intro t ht
    cases t with
    | zero =>
      cases bs with
      | nil => simp at ht
      | cons c bs => exact h.2.1
    | succ t => exact ih h.2.2 t (by simpa using ht)
theorem sec_gap {bs : List Bd} (h : Can bs) {t j : Nat} (ht : t < bs.length) (hj : j + 1 < bs[t].es.length / 2) : ((rctsB bs).getD (stB bs t + j) zR).x + ((rctsB bs).getD (stB bs t + j) zR).w < ((rctsB bs).getD (stB bs t + (j + 1)) zR).x := by
  rw [sec_at ht (by omega), sec_at ht hj, rctB_getD _ _ (by omega), rctB_getD _ _ hj]
  have := upD_lt (h.ord.ok _ (List.getElem_mem ht)).ok.1 (i := 2 * j + 1) (k := 2 * (j + 1)) (by omega) (by omega)
  simp only
  omega
theorem sec_differ {bs : List Bd} (h : Can bs) {t : Nat} (ht : t + 1 < bs.length) (hy : bs[t].y1 = bs[t + 1].y0) (hn : bs[t].es.length / 2 = bs[t + 1].es.length / 2) (he : ∀ j, j < bs[t].es.length / 2 → ((rctsB bs).getD (stB bs (t + 1) + j) zR).x = ((rctsB bs).getD (stB bs t + j) zR).x ∧ ((rctsB bs).getD (stB bs (t + 1) + j) zR).w = ((rctsB bs).getD (stB bs t + j) zR).w) : False := by
  have e1 := (h.ord.ok _ (List.getElem_mem (show t < bs.length by omega))).ok.2
  have e2 := (h.ord.ok _ (List.getElem_mem ht)).ok.2
  refine (can_next h t ht).2 hy (even_ext e1 (by omega) fun j hj => ?_)
  have := he j hj
  rw [sec_at ht (by omega), sec_at (show t < bs.length by omega) hj, rctB_getD _ _ hj, rctB_getD _ _ (by omega)] at this
  simp only at this
  omega
/-- the rectangles i .. e are one band, a .. i the band ahead -/
structure SecF (L : List R4) (a i e : Nat) : Prop where
  lt : i < e
  le : e ≤ L.length
  yh : ∀ k, i ≤ k → k < e → (L.getD k zR).y = (L.getD i zR).y ∧ (L.getD k zR).h = (L.getD i zR).h
  gap : ∀ k, i ≤ k → k + 1 < e → (L.getD k zR).x + (L.getD k zR).w < (L.getD (k + 1) zR).x
  nx : e < L.length → (L.getD e zR).y ≠ (L.getD i zR).y
  al : 0 < i → a < i
  up : 0 < i → (L.getD a zR).y + (L.getD a zR).h ≤ (L.getD i zR).y
  df : 0 < i → (L.getD i zR).y = (L.getD a zR).y + (L.getD a zR).h → e - i = i - a → ¬ ∀ j, j < e - i → (L.getD (i + j) zR).x = (L.getD (a + j) zR).x ∧ (L.getD (i + j) zR).w = (L.getD (a + j) zR).w
theorem sec_first {bs : List Bd} (h : Can bs) {t : Nat} (ht : t < bs.length) : (rctsB bs).getD (stB bs t) zR = ⟨bs[t].es.getD 0 0, bs[t].y0, bs[t].es.getD 1 0 - bs[t].es.getD 0 0, bs[t].y1 - bs[t].y0⟩ := by
  have ep := can_pos h t ht
  have := sec_at ht ep
  rw [Nat.add_zero] at this
  rw [this, rctB_getD _ _ ep]
theorem sec_is {bs : List Bd} (h : Can bs) {t : Nat} (ht : t < bs.length) : SecF (rctsB bs) (stB bs (t - 1)) (stB bs t) (stB bs (t + 1)) := by
  have es := stB_succ bs t ht
  have ep := can_pos h t ht
  have yy : ∀ j, j < bs[t].es.length / 2 → ((rctsB bs).getD (stB bs t + j) zR).y = bs[t].y0 ∧ ((rctsB bs).getD (stB bs t + j) zR).h = bs[t].y1 - bs[t].y0 := fun j hj => by
    rw [sec_at ht hj, rctB_getD _ _ hj]; exact ⟨rfl, rfl⟩
  have y0 := yy 0 ep
  rw [Nat.add_zero] at y0
  have tpos : 0 < stB bs t → 0 < t := fun hp => by
    rcases Nat.eq_zero_or_pos t with e | e
    · subst e; simp [stB, cntB] at hp
    · exact e
  refine ⟨by omega, stB_le _ _, fun k h1 h2 => ?_, fun k h1 h2 => ?_, fun h1 => ?_, fun h1 => ?_, fun h1 => ?_, fun h1 => ?_⟩
  · obtain ⟨j, rfl⟩ : ∃ j, k = stB bs t + j := ⟨k - stB bs t, by omega⟩
    have := yy j (by omega)
    exact ⟨by rw [this.1, y0.1], by rw [this.2, y0.2]⟩
  · obtain ⟨j, rfl⟩ : ∃ j, k = stB bs t + j := ⟨k - stB bs t, by omega⟩
    have := sec_gap h ht (j := j) (by omega)
    rw [Nat.add_assoc]; exact this
  · have hs : t + 1 < bs.length := by
      by_cases e : t + 1 < bs.length
      · exact e
      · have : t + 1 = bs.length := by omega
        rw [this, stB_all] at h1; omega
    rw [sec_first h hs, y0.1]
    have h2 := (can_next h t hs).1
    have h3 := (h.ord.ok _ (List.getElem_mem ht)).yy
    simp only
    omega
  all_goals
    have hp := tpos h1
    obtain ⟨s, rfl⟩ : ∃ s, t = s + 1 := ⟨t - 1, by omega⟩
    have hs : s < bs.length := by omega
    have es' := stB_succ bs s hs
    have ep' := can_pos h s hs
    rw [Nat.add_sub_cancel]
  · omega
  · rw [sec_first h hs, y0.1]
    have h2 := (can_next h s ht).1
    simp only
    omega
  · intro h2 h3 h4
    rw [sec_first h hs, y0.1] at h2
    simp only at h2
    refine sec_differ h ht (by omega) (by omega) fun j hj => h4 j (by omega)
end Go.Proofs.Ytekcheccelllcaa
