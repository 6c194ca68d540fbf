/- Plain laws: own forms, and what is around. -/
import Derived.Test.YtekcheccelllcaaRctV
namespace Go.Proofs.Ytekcheccelllcaa
set_option linter.unusedVariables false
set_option linter.unusedSimpArgs false

/-- a rectangle in its own form -/
def OwnF (r : R4) : Prop := r = zR ∨ (0 < r.w ∧ 0 < r.h ∧ -1048576 ≤ r.x ∧ -1048576 ≤ r.y ∧ r.x < 1048576 ∧ r.y < 1048576 ∧ r.w ≤ 1048576 - r.x ∧ r.h ≤ 1048576 - r.y)
theorem ownF_mk (a b c d : Int) : OwnF (mkR a b c d) := by
  unfold mkR
  split
  · right; simp only []; omega
  · left; rfl
theorem ownF_zero : OwnF zR := .inl rfl
theorem ownF_meet (r s : R4) : OwnF (meetR r s) := by
  unfold meetR; split
  · exact ownF_mk _ _ _ _
  · exact ownF_zero
theorem mk_in (a b c d : Int) (h1 : -1048576 ≤ a) (h2 : a < c) (h3 : c ≤ 1048576) (h4 : -1048576 ≤ b) (h5 : b < d) (h6 : d ≤ 1048576) : mkR a b c d = ⟨a, b, c - a, d - b⟩ := by
  unfold mkR
  rw [if_pos (by omega)]
  congr 1 <;> omega
theorem ax_in_form (a c : Int) (h1 : -1048576 ≤ a) (h2 : a < c) (h3 : c ≤ 1048576) : rlo a = a ∧ rhi a (c - a) = c := by
  unfold rlo rhi endF; omega
theorem ok_in (a b c d : Int) (h1 : -1048576 ≤ a) (h2 : a < c) (h3 : c ≤ 1048576) (h4 : -1048576 ≤ b) (h5 : b < d) (h6 : d ≤ 1048576) : okR4 ⟨a, b, c - a, d - b⟩ = true := by
  have e1 := ax_in_form a c h1 h2 h3
  have e2 := ax_in_form b d h4 h5 h6
  unfold okR4
  rw [okB_spec]
  simp only [e1, e2]
  exact ⟨h2, h5⟩
/-- an own form's own form -/
theorem meet_self (r : R4) (h : okR4 r = true) : meetR r r = ⟨rlo r.x, rlo r.y, rhi r.x r.w - rlo r.x, rhi r.y r.h - rlo r.y⟩ := by
  have k := okB_spec.1 h
  have k2 := rlo_bd r.x; have k3 := rlo_bd r.y; have k4 := rhi_bd r.x r.w; have k5 := rhi_bd r.y r.h
  unfold meetR
  rw [h]
  simp only [Bool.and_self, if_true, Int.max_self, Int.min_self]
  exact mk_in _ _ _ _ k2 k.1 k4 k3 k.2 k5
theorem meet_in (x0 y0 x1 y1 a b c d : Int) (h1 : -1048576 ≤ a) (h2 : a ≤ x0) (h3 : x0 < x1) (h4 : x1 ≤ c) (h5 : c ≤ 1048576) (g1 : -1048576 ≤ b) (g2 : b ≤ y0) (g3 : y0 < y1) (g4 : y1 ≤ d) (g5 : d ≤ 1048576) :
    meetR ⟨x0, y0, x1 - x0, y1 - y0⟩ ⟨a, b, c - a, d - b⟩ = ⟨x0, y0, x1 - x0, y1 - y0⟩ := by
  have e1 := ok_in x0 y0 x1 y1 (by omega) h3 (by omega) (by omega) g3 (by omega)
  have e2 := ok_in a b c d h1 (by omega) h5 g1 (by omega) g5
  have f1 := ax_in_form x0 x1 (by omega) h3 (by omega)
  have f2 := ax_in_form y0 y1 (by omega) g3 (by omega)
  have f3 := ax_in_form a c h1 (by omega) h5
  have f4 := ax_in_form b d g1 (by omega) g5
  unfold meetR
  rw [e1, e2]
  simp only [Bool.and_self, if_true, f1, f2, f3, f4]
  rw [show max x0 a = x0 by omega, show max y0 b = y0 by omega, show min x1 c = x1 by omega, show min y1 d = y1 by omega]
  exact mk_in _ _ _ _ (by omega) h3 (by omega) (by omega) g3 (by omega)

/-- what has come up so far -/
def seen (Q : R4 → Bool) (L : List R4) (k : Nat) : Bool := (L.take k).any fun r => okR4 r && Q r
theorem seen_succ (Q : R4 → Bool) (L : List R4) (k : Nat) (h : k < L.length) : seen Q L (k + 1) = (seen Q L k || (okR4 (L.getD k zR) && Q (L.getD k zR))) := by
  unfold seen
  rw [List.take_succ_eq_append_getElem h, List.any_append]
  simp [List.getD_eq_getElem?_getD, h]
theorem seen_mono (Q : R4 → Bool) (L : List R4) (k : Nat) (h : k < L.length) (hs : seen Q L k = true) : seen Q L (k + 1) = true := by
  rw [seen_succ Q L k h, hs]; rfl

structure AccI (L : List R4) (k : Nat) : Prop where
  has : (acc L k).any = true → (seen (fun r => decide (rlo r.x = (acc L k).a)) L k = true ∧ seen (fun r => decide (rlo r.y = (acc L k).b)) L k = true ∧ seen (fun r => decide (rhi r.x r.w = (acc L k).c)) L k = true ∧ seen (fun r => decide (rhi r.y r.h = (acc L k).d)) L k = true)
  box : (acc L k).any = true → -1048576 ≤ (acc L k).a ∧ (acc L k).a < (acc L k).c ∧ (acc L k).c ≤ 1048576 ∧ -1048576 ≤ (acc L k).b ∧ (acc L k).b < (acc L k).d ∧ (acc L k).d ≤ 1048576
  ins : ∀ i, i < k → okR4 (L.getD i zR) = true → (acc L k).any = true ∧ (acc L k).a ≤ rlo (L.getD i zR).x ∧ (acc L k).b ≤ rlo (L.getD i zR).y ∧ rhi (L.getD i zR).x (L.getD i zR).w ≤ (acc L k).c ∧ rhi (L.getD i zR).y (L.getD i zR).h ≤ (acc L k).d
  non : (acc L k).any = false → acc L k = ⟨false, 0, 0, 0, 0⟩
theorem acc_inv (L : List R4) (k : Nat) (hk : k ≤ L.length) : AccI L k := by
  induction k with
  | zero => exact ⟨fun h => (by simp [acc] at h), fun h => (by simp [acc] at h), fun i hi => by omega, fun _ => rfl⟩
  | succ k ih =>
    have I := ih (by omega)
    have hs := acc_succ L k (by omega)
    have s1 := fun Q => seen_succ Q L k (by omega)
    cases ok : okR4 (L.getD k zR)
    · have e : acc L (k + 1) = acc L k := by rw [hs]; unfold accStep; rw [ok]; rfl
      refine ⟨?_, ?_, ?_, ?_⟩
      · rw [e]; intro h
        obtain ⟨a1, a2, a3, a4⟩ := I.has h
        exact ⟨seen_mono _ _ _ (by omega) a1, seen_mono _ _ _ (by omega) a2, seen_mono _ _ _ (by omega) a3, seen_mono _ _ _ (by omega) a4⟩
      · rw [e]; exact I.box
      · rw [e]; intro i hi hoki
        by_cases hik : i = k
        · subst hik; rw [ok] at hoki; cases hoki
        · exact I.ins i (by omega) hoki
      · rw [e]; exact I.non
    · have k1 := okB_spec.1 ok
      have k2 := rlo_bd (L.getD k zR).x; have k3 := rlo_bd (L.getD k zR).y; have k4 := rhi_bd (L.getD k zR).x (L.getD k zR).w; have k5 := rhi_bd (L.getD k zR).y (L.getD k zR).h
      cases an : (acc L k).any
      · have e : acc L (k + 1) = ⟨true, rlo (L.getD k zR).x, rlo (L.getD k zR).y, rhi (L.getD k zR).x (L.getD k zR).w, rhi (L.getD k zR).y (L.getD k zR).h⟩ := by rw [hs]; unfold accStep; rw [ok, an]; rfl
        refine ⟨?_, ?_, ?_, ?_⟩
        · intro _; simp only [e, s1, ok]; simp
        · intro _; simp only [e]; omega
        · intro i hi hoki
          by_cases hik : i = k
          · subst hik; simp only [e]; exact ⟨trivial, by omega, by omega, by omega, by omega⟩
          · have := (I.ins i (by omega) hoki).1; rw [an] at this; cases this
        · rw [e]; intro h; cases h
      · have e : acc L (k + 1) = ⟨true, min (acc L k).a (rlo (L.getD k zR).x), min (acc L k).b (rlo (L.getD k zR).y), max (acc L k).c (rhi (L.getD k zR).x (L.getD k zR).w), max (acc L k).d (rhi (L.getD k zR).y (L.getD k zR).h)⟩ := by rw [hs]; unfold accStep; rw [ok, an]; rfl
        obtain ⟨a1, a2, a3, a4⟩ := I.has an
        obtain ⟨b1, b2, b3, b4, b5, b6⟩ := I.box an
        refine ⟨?_, ?_, ?_, ?_⟩
        · intro _; simp only [e, s1, ok, Bool.true_and, Bool.or_eq_true, decide_eq_true_eq]
          refine ⟨?_, ?_, ?_, ?_⟩
          · by_cases h : (acc L k).a ≤ rlo (L.getD k zR).x
            · left; rw [show min (acc L k).a (rlo (L.getD k zR).x) = (acc L k).a by omega]; exact a1
            · right; omega
          · by_cases h : (acc L k).b ≤ rlo (L.getD k zR).y
            · left; rw [show min (acc L k).b (rlo (L.getD k zR).y) = (acc L k).b by omega]; exact a2
            · right; omega
          · by_cases h : rhi (L.getD k zR).x (L.getD k zR).w ≤ (acc L k).c
            · left; rw [show max (acc L k).c (rhi (L.getD k zR).x (L.getD k zR).w) = (acc L k).c by omega]; exact a3
            · right; omega
          · by_cases h : rhi (L.getD k zR).y (L.getD k zR).h ≤ (acc L k).d
            · left; rw [show max (acc L k).d (rhi (L.getD k zR).y (L.getD k zR).h) = (acc L k).d by omega]; exact a4
            · right; omega
        · intro _; simp only [e]; omega
        · intro i hi hoki
          by_cases hik : i = k
          · subst hik; simp only [e]; exact ⟨trivial, by omega, by omega, by omega, by omega⟩
          · obtain ⟨_, c1, c2, c3, c4⟩ := I.ins i (by omega) hoki
            simp only [e]; exact ⟨trivial, by omega, by omega, by omega, by omega⟩
        · rw [e]; intro h; cases h

/-- Bound, where something is in it, and where nothing is -/
theorem bound_some (L : List R4) (h : (acc L L.length).any = true) : boundR L = ⟨(acc L L.length).a, (acc L L.length).b, (acc L L.length).c - (acc L L.length).a, (acc L L.length).d - (acc L L.length).b⟩ := by
  obtain ⟨b1, b2, b3, b4, b5, b6⟩ := (acc_inv L L.length (Nat.le_refl _)).box h
  exact mk_in _ _ _ _ b1 b2 b3 b4 b5 b6
theorem bound_none (L : List R4) (h : (acc L L.length).any = false) : boundR L = zR := by
  unfold boundR
  rw [(acc_inv L L.length (Nat.le_refl _)).non h]
  rfl
theorem ownF_bound (L : List R4) : OwnF (boundR L) := ownF_mk _ _ _ _
/-- an own form of one of the list lies in Bound -/
theorem meet_bound (L : List R4) (i : Nat) (hi : i < L.length) (ok : okR4 (L.getD i zR) = true) : meetR (meetR (L.getD i zR) (L.getD i zR)) (boundR L) = meetR (L.getD i zR) (L.getD i zR) := by
  have I := acc_inv L L.length (Nat.le_refl _)
  obtain ⟨an, c1, c2, c3, c4⟩ := I.ins i hi ok
  obtain ⟨b1, b2, b3, b4, b5, b6⟩ := I.box an
  have k1 := okB_spec.1 ok
  rw [meet_self _ ok, bound_some L an]
  exact meet_in _ _ _ _ _ _ _ _ b1 c1 k1.1 c3 b3 b4 c2 k1.2 c4 b6
/-- the sides that are reached -/
def sd (j : Nat) (B : R4) (r : R4) : Bool := match j with
  | 0 => decide (rlo r.x = B.x)
  | 1 => decide (rlo r.y = B.y)
  | 2 => decide (rlo r.x + (rhi r.x r.w - rlo r.x) = B.x + B.w)
  | _ => decide (rlo r.y + (rhi r.y r.h - rlo r.y) = B.y + B.h)
theorem seen_congr {Q Q' : R4 → Bool} {L : List R4} {k : Nat} (h : ∀ r, Q r = Q' r) : seen Q L k = seen Q' L k := by
  have : Q = Q' := funext h
  rw [this]
theorem sides_all (L : List R4) (h : (acc L L.length).any = true) : seen (sd 0 (boundR L)) L L.length = true ∧ seen (sd 1 (boundR L)) L L.length = true ∧ seen (sd 2 (boundR L)) L L.length = true ∧ seen (sd 3 (boundR L)) L L.length = true := by
  obtain ⟨a1, a2, a3, a4⟩ := (acc_inv L L.length (Nat.le_refl _)).has h
  rw [bound_some L h]
  refine ⟨?_, ?_, ?_, ?_⟩
  · exact Eq.trans (seen_congr fun r => rfl) a1
  · exact Eq.trans (seen_congr fun r => rfl) a2
  · rw [seen_congr (Q' := fun r => decide (rhi r.x r.w = (acc L L.length).c)) (fun r => by unfold sd; simp only []; congr 1; apply propext; omega)]; exact a3
  · rw [seen_congr (Q' := fun r => decide (rhi r.y r.h = (acc L L.length).d)) (fun r => by unfold sd; simp only []; congr 1; apply propext; omega)]; exact a4
theorem acc_any (L : List R4) (k : Nat) : (acc L k).any = (acc L k).any := rfl
end Go.Proofs.Ytekcheccelllcaa
