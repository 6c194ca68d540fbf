/- Plain laws of RectPieces: Minus and Meet part a's cells. -/
import Derived.Test.YtekcheccelllcaaRctX
namespace Go.Proofs.Ytekcheccelllcaa
set_option linter.unusedVariables false
set_option linter.unusedSimpArgs false

theorem has_spec (r : R4) (x y : Int) : hasR r x y = true ↔ (rlo r.x < rhi r.x r.w ∧ rlo r.y < rhi r.y r.h) ∧ rlo r.x ≤ x ∧ x < rhi r.x r.w ∧ rlo r.y ≤ y ∧ y < rhi r.y r.h := by
  unfold hasR okR4
  rw [Bool.and_eq_true, okB_spec, decide_eq_true_eq]
theorem has_mk (a b c d x y : Int) : hasR (mkR a b c d) x y = true ↔ (max a (-1048576) ≤ x ∧ x < min c 1048576) ∧ (max b (-1048576) ≤ y ∧ y < min d 1048576) := by
  rw [has_spec]
  unfold mkR
  split
  · rename_i h
    have e1 := ax_in_form (max a (-1048576)) (min c 1048576) (by omega) h.1 (by omega)
    have e2 := ax_in_form (max b (-1048576)) (min d 1048576) (by omega) h.2 (by omega)
    simp only [e1, e2]
    omega
  · simp only [zR, rlo, rhi, endF]
    omega
theorem has_meet (r s : R4) (x y : Int) : hasR (meetR r s) x y = (hasR r x y && hasR s x y) := by
  rw [Bool.eq_iff_iff, Bool.and_eq_true, has_spec r, has_spec s]
  have b1 := rlo_bd r.x; have b2 := rlo_bd r.y; have b3 := rhi_bd r.x r.w; have b4 := rhi_bd r.y r.h
  unfold meetR
  split
  · rename_i h
    rw [Bool.and_eq_true] at h
    have k1 := okB_spec.1 h.1; have k2 := okB_spec.1 h.2
    rw [has_mk]
    omega
  · rename_i h
    rw [Bool.and_eq_true] at h
    constructor
    · intro h'
      rw [has_spec] at h'
      simp only [zR, rlo, rhi, endF] at h'
      omega
    · intro ⟨h1, h2⟩
      exact absurd ⟨okB_spec.2 h1.1, okB_spec.2 h2.1⟩ h
theorem meet_comm (r s : R4) : meetR s r = meetR r s := by
  unfold meetR
  rw [Bool.and_comm, Int.max_comm (rlo s.x), Int.max_comm (rlo s.y), Int.min_comm (rhi s.x s.w), Int.min_comm (rhi s.y s.h)]
theorem far_zero : far_ 0 = 0 := by decide
theorem meet_self' (r : R4) : meetR r r = if okR4 r then mkR (rlo r.x) (rlo r.y) (rhi r.x r.w) (rhi r.y r.h) else zR := by
  unfold meetR
  simp only [Bool.and_self, Int.max_self, Int.min_self]
theorem move_zero (r : R4) : moveR r 0 0 = meetR r r := by
  rw [meet_self']
  unfold moveR
  simp only [far_zero, Int.add_zero]
theorem inset_zero (r : R4) : insetR r 0 0 0 0 = meetR r r := by
  rw [meet_self']
  unfold insetR
  simp only [far_zero, Int.add_zero, Int.sub_zero]
theorem self_zero (r : R4) : okR4 r = true → (meetR r r).w ≠ 0 := by
  intro h
  rw [meet_self r h]
  have := okB_spec.1 h
  simp only []
  omega
theorem self_none (r : R4) (h : okR4 r = false) : meetR r r = zR := by
  rw [meet_self', h]; rfl
/-- how many of a list have a cell -/
def cntR (L : List R4) (x y : Int) : Nat := L.countP fun r => hasR r x y
theorem cntR_take (L : List R4) (k : Nat) (h : k < L.length) (x y : Int) : cntR (L.take (k + 1)) x y = cntR (L.take k) x y + if hasR (L.getD k zR) x y = true then 1 else 0 := by
  unfold cntR
  rw [List.take_succ_eq_append_getElem h, List.countP_append]
  simp [List.getD_eq_getElem?_getD, h, List.countP_cons]
theorem cntR_le (L : List R4) (x y : Int) : cntR L x y ≤ L.length := List.countP_le_length
theorem keep_of_has (r : R4) (x y : Int) (h : hasR r x y = true) : r.w ≠ 0 := by
  intro h0
  rw [has_spec, h0] at h
  simp only [rlo, rhi, endF] at h
  omega
theorem mk_w (a b c d : Int) : 0 ≤ (mkR a b c d).w := by
  unfold mkR; split
  · simp only []; omega
  · simp [zR]
theorem cntR_parts (p q : R4) (x y : Int) : cntR (partsR p q 4) x y = cntR ((bxs p q).map mkB) x y := by
  unfold cntR partsR
  rw [List.countP_filter, List.take_of_length_le (by simp [bxs])]
  apply List.countP_congr
  intro r hr
  rw [Bool.and_eq_true]
  constructor
  · exact fun h => h.1
  · intro h
    refine ⟨h, ?_⟩
    obtain ⟨b, _, rfl⟩ := List.mem_map.1 hr
    have h1 := keep_of_has _ x y h
    have h2 : 0 ≤ (mkB b).w := mk_w _ _ _ _
    unfold keepR
    simp only [decide_eq_true_eq]
    omega
theorem four_cells (px py pw ph qx qy qw qh x y : Int) (h1 : -1048576 ≤ px) (h2 : pw ≤ 1048576) (h3 : -1048576 ≤ py) (h4 : ph ≤ 1048576) (h5 : px ≤ qx) (h6 : qx < qw) (h7 : qw ≤ pw) (h8 : py ≤ qy) (h9 : qy < qh) (h10 : qh ≤ ph) :
    cntR ((bxs ⟨px, py, pw, ph⟩ ⟨qx, qy, qw, qh⟩).map mkB) x y = if (px ≤ x ∧ x < pw ∧ py ≤ y ∧ y < ph) ∧ ¬ (qx ≤ x ∧ x < qw ∧ qy ≤ y ∧ y < qh) then 1 else 0 := by
  unfold cntR bxs mkB
  simp only [List.map_cons, List.map_nil, List.countP_cons, List.countP_nil, has_mk]
  have e1 : max px (-1048576) = px := by omega
  have e2 : max py (-1048576) = py := by omega
  have e3 : max qy (-1048576) = qy := by omega
  have e4 : max qw (-1048576) = qw := by omega
  have e5 : max qh (-1048576) = qh := by omega
  have e6 : min pw 1048576 = pw := by omega
  have e7 : min ph 1048576 = ph := by omega
  have e8 : min qx 1048576 = qx := by omega
  have e9 : min qy 1048576 = qy := by omega
  have e10 : min qh 1048576 = qh := by omega
  simp only [e1, e2, e3, e4, e5, e6, e7, e8, e9, e10]
  repeat' split
  all_goals omega
theorem minus_cells (a b : R4) (x y : Int) : cntR (minusR a b) x y = if hasR a x y = true ∧ hasR b x y = false then 1 else 0 := by
  have hm := has_meet a b x y
  have b1 := rlo_bd a.x; have b2 := rlo_bd a.y; have b3 := rhi_bd a.x a.w; have b4 := rhi_bd a.y a.h
  have Ha := has_spec a x y
  unfold minusR
  by_cases ha : okR4 a = true
  · have ka := okB_spec.1 ha
    rw [if_pos ha]
    by_cases hq : okR4 (meetR a b) = true
    · rw [if_pos hq, cntR_parts]
      have kq := okB_spec.1 hq
      have Hq := has_spec (meetR a b) x y
      have e : ∀ X Y, hasR (meetR a b) X Y = true → hasR a X Y = true := fun X Y h => by rw [has_meet, Bool.and_eq_true] at h; exact h.1
      have e1 := e (rlo (meetR a b).x) (rlo (meetR a b).y) ((has_spec _ _ _).2 ⟨kq, by omega⟩)
      have e2 := e (rhi (meetR a b).x (meetR a b).w - 1) (rhi (meetR a b).y (meetR a b).h - 1) ((has_spec _ _ _).2 ⟨kq, by omega⟩)
      rw [has_spec] at e1 e2
      unfold endsR
      rw [four_cells _ _ _ _ _ _ _ _ x y b1 b3 b2 b4 (by omega) kq.1 (by omega) (by omega) kq.2 (by omega)]
      rw [hm, Bool.and_eq_true] at Hq
      have E : ((rlo a.x ≤ x ∧ x < rhi a.x a.w ∧ rlo a.y ≤ y ∧ y < rhi a.y a.h) ∧ ¬ (rlo (meetR a b).x ≤ x ∧ x < rhi (meetR a b).x (meetR a b).w ∧ rlo (meetR a b).y ≤ y ∧ y < rhi (meetR a b).y (meetR a b).h)) ↔ (hasR a x y = true ∧ hasR b x y = false) := by
        rw [← Bool.not_eq_true]
        constructor
        · intro ⟨u, v⟩
          have hA := Ha.2 ⟨ka, u⟩
          exact ⟨hA, fun hB => v (Hq.1 ⟨hA, hB⟩).2⟩
        · intro ⟨u, v⟩
          exact ⟨(Ha.1 u).2, fun hB => v (Hq.2 ⟨kq, hB⟩).2⟩
      simp only [E]
    · rw [if_neg hq]
      have hA : hasR (mkB (endsR a)) x y = hasR a x y := by
        rw [Bool.eq_iff_iff, Ha]
        unfold mkB endsR
        rw [has_mk]
        simp only []
        omega
      have hB : hasR a x y = true → hasR b x y = false := by
        intro h
        rw [← Bool.not_eq_true]
        intro h'
        apply hq
        rw [h, h'] at hm
        exact okB_spec.2 ((has_spec _ _ _).1 hm).1
      unfold cntR
      simp only [List.countP_cons, List.countP_nil, hA, Nat.zero_add]
      by_cases h : hasR a x y = true
      · rw [if_pos h, if_pos ⟨h, hB h⟩]
      · rw [if_neg h, if_neg (fun h' => h h'.1)]
  · rw [if_neg ha, if_neg]
    · rfl
    · intro h
      exact ha (okB_spec.2 (Ha.1 h.1).1)
theorem minus_len (a b : R4) : (minusR a b).length ≤ 4 := by
  unfold minusR
  split
  · split
    · exact parts_le _ _ _
    · simp
  · simp
/-- each piece is in its own form and has cells -/
theorem minus_own (a b : R4) : ∀ r ∈ minusR a b, OwnF r ∧ r.w ≠ 0 := by
  intro r hr
  unfold minusR at hr
  split at hr
  · rename_i ha
    split at hr
    · unfold partsR at hr
      rw [List.mem_filter] at hr
      obtain ⟨h1, h2⟩ := hr
      obtain ⟨b, _, rfl⟩ := List.mem_map.1 h1
      refine ⟨ownF_mk _ _ _ _, ?_⟩
      unfold keepR at h2
      simp only [decide_eq_true_eq] at h2
      omega
    · simp only [List.mem_singleton] at hr
      subst hr
      refine ⟨ownF_mk _ _ _ _, ?_⟩
      have := self_zero a ha
      rw [meet_self', if_pos ha] at this
      exact this
  · simp at hr
end Go.Proofs.Ytekcheccelllcaa
