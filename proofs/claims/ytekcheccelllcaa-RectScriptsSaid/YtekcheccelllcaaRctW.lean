/- The statements' first helper of layer 7: wakes. -/
import Derived.Test.YtekcheccelllcaaRctN
namespace Go.Proofs.Ytekcheccelllcaa
open Go.RowKit
set_option linter.unusedVariables false
set_option linter.unusedSimpArgs false

theorem addr_add (g j : Nat) : (⟨g, 0, none⟩ : Addr).add j = ⟨g, j, none⟩ := by unfold Addr.add; split <;> simp_all
theorem wk_minus : minusR ⟨0, 0, 5, 5⟩ ⟨1, 1, 2, 2⟩ = [⟨0, 0, 5, 1⟩, ⟨0, 1, 1, 2⟩, ⟨3, 1, 2, 2⟩, ⟨0, 3, 5, 2⟩] := by rfl
theorem wk_meet : meetR ⟨0, 0, 4, 4⟩ ⟨2, 1, 9, 9⟩ = ⟨2, 1, 2, 3⟩ := by rfl
theorem wk_bound : boundR [⟨0, 0, 4, 4⟩, ⟨2, 1, 9, 9⟩] = ⟨0, 0, 11, 10⟩ := by rfl
theorem wk_move : moveR ⟨0, 0, 4, 4⟩ 1 (-1) = ⟨1, -1, 4, 4⟩ := by rfl
theorem wk_empty : okB 0 0 4 4 = true := by rfl
theorem wk_has : hasR ⟨0, 0, 4, 4⟩ 3 3 = true := by rfl

set_option maxHeartbeats 8000000 in
theorem wakes_any (w : World) : Calls Try.prog 16 #[] w fun e w' => e = .returned (.bool true) ∧ Below w.heap.size w w' := by
  go_enter Try.func16, Try.ntmps16
  go_wp2_with fail
  refine (rect_Minus_any _ _ _ _ _ _ _ _ _ (by decide) (by decide) (by decide) (by decide) (by decide) (by decide) (by decide) (by decide)).mono ?_
  rw [wk_minus]
  rintro e w1 ⟨v, rfl, hown, hb1⟩
  have B1 : Below w.heap.size w w1 := below_via hb1 (below_al (below_al (Below.refl _ _) _) _)
  have S1 := B1.size
  obtain ⟨g, cap, hv, hg, hcap, F0⟩ : ∃ g cap, v = .slice (some ⟨g, 0, none⟩) 4 cap ∧ g < w1.heap.size ∧ 4 ≤ cap ∧ (w1.cell? ⟨g, 8, none⟩ = some (.int .i64 3) ∧ w1.cell? ⟨g, 9, none⟩ = some (.int .i64 1) ∧ w1.cell? ⟨g, 10, none⟩ = some (.int .i64 2) ∧ w1.cell? ⟨g, 11, none⟩ = some (.int .i64 2)) := by
    have hc := hown.cells (g := v.ownBlock.getD 0)
    rcases hown.2 with ⟨_, h0⟩ | ⟨g, cap, cur, rfl, hb, hg, hcap, _, _, _⟩
    · simp at h0
    · refine ⟨g, cap, rfl, (Array.getElem?_eq_some_iff.1 hg).1, hcap, ?_⟩
      have hc := hc (by simp [Value.ownBlock])
      simp only [Value.ownBlock, Option.getD_some, addr_add] at hc
      exact ⟨hc 8 _ rfl, hc 9 _ rfl, hc 10 _ rfl, hc 11 _ rfl⟩
  rw [hv]
  clear hown hv
  have F1 : w.heap.size < w1.heap.size ∧ w.heap.size + 1 < w1.heap.size ∧ w1.cell? ⟨w.heap.size, 0, none⟩ = some (.int .i64 0) ∧ w1.cell? ⟨w.heap.size, 1, none⟩ = some (.int .i64 0) ∧ w1.cell? ⟨w.heap.size, 2, none⟩ = some (.int .i64 4) ∧ w1.cell? ⟨w.heap.size, 3, none⟩ = some (.int .i64 4) ∧ w1.cell? ⟨w.heap.size + 1, 0, none⟩ = some (.int .i64 2) ∧ w1.cell? ⟨w.heap.size + 1, 1, none⟩ = some (.int .i64 1) ∧ w1.cell? ⟨w.heap.size + 1, 2, none⟩ = some (.int .i64 9) ∧ w1.cell? ⟨w.heap.size + 1, 3, none⟩ = some (.int .i64 9) := by
    obtain ⟨hc, hf⟩ := bcell hb1
    have hz := hb1.size
    (try simp only [World.size_alloc, World.size_drew, World.size_setCell] at hz)
    (repeat' apply And.intro) <;> (first | omega | (rw [hc _ _ (by first | omega | (simp only [World.size_alloc, World.size_drew, World.size_setCell]; omega))]; first | (simp [go_sem]; done) | (simp [*]; done)) | (rw [hf _ _ (by first | omega | (simp only [World.size_alloc, World.size_drew, World.size_setCell]; omega))]; first | (simp [go_sem]; done) | (simp [*]; done)))
  clear hb1
  go_wp2_with fail
  refine (rect_Meet_any _ _ _ _ _ _ _ _ _ (by decide) (by decide) (by decide) (by decide) (by decide) (by decide) (by decide) (by decide)).mono ?_
  rw [wk_meet]
  rintro e w2 ⟨rfl, hb2⟩
  have B2 : Below w.heap.size w w2 := below_via hb2 B1
  have S2 := B2.size
  have F2 : w.heap.size < w2.heap.size ∧ w.heap.size + 1 < w2.heap.size ∧ g < w2.heap.size ∧ w2.cell? ⟨w.heap.size, 0, none⟩ = some (.int .i64 0) ∧ w2.cell? ⟨w.heap.size, 1, none⟩ = some (.int .i64 0) ∧ w2.cell? ⟨w.heap.size, 2, none⟩ = some (.int .i64 4) ∧ w2.cell? ⟨w.heap.size, 3, none⟩ = some (.int .i64 4) ∧ w2.cell? ⟨w.heap.size + 1, 0, none⟩ = some (.int .i64 2) ∧ w2.cell? ⟨w.heap.size + 1, 1, none⟩ = some (.int .i64 1) ∧ w2.cell? ⟨w.heap.size + 1, 2, none⟩ = some (.int .i64 9) ∧ w2.cell? ⟨w.heap.size + 1, 3, none⟩ = some (.int .i64 9) ∧ w2.cell? ⟨g, 8, none⟩ = some (.int .i64 3) ∧ w2.cell? ⟨g, 9, none⟩ = some (.int .i64 1) ∧ w2.cell? ⟨g, 10, none⟩ = some (.int .i64 2) ∧ w2.cell? ⟨g, 11, none⟩ = some (.int .i64 2) := by
    obtain ⟨hc, hf⟩ := bcell hb2
    have hz := hb2.size
    (try simp only [World.size_alloc, World.size_drew, World.size_setCell] at hz)
    (repeat' apply And.intro) <;> (first | omega | (rw [hc _ _ (by first | omega | (simp only [World.size_alloc, World.size_drew, World.size_setCell]; omega))]; first | (simp [go_sem, F1, F0]; done) | (simp [*]; done)) | (rw [hf _ _ (by first | omega | (simp only [World.size_alloc, World.size_drew, World.size_setCell]; omega))]; first | (simp [go_sem, F1, F0]; done) | (simp [*]; done)))
  clear hb2 F1 F0
  go_wp2_with fail
  refine (rect_Bound_any (some ⟨_, 0, none⟩) _ _ [⟨0, 0, 4, 4⟩, ⟨2, 1, 9, 9⟩] _ rfl (by decide) (fun _ => ⟨_, _, rfl, by simp, ?_⟩) ?_).mono ?_
  · intro i hi
    rcases i with _ | _ | i
    · simp [go_sem]
    · simp [go_sem]
    · simp at hi; omega
  · intro r hr
    simp at hr
    rcases hr with rfl | rfl
    · exact ⟨by decide, by decide, by decide, by decide⟩
    · exact ⟨by decide, by decide, by decide, by decide⟩
  rw [wk_bound]
  rintro e w3 ⟨rfl, hb3⟩
  have B3 : Below w.heap.size w w3 := below_via hb3 (below_al B2 _)
  have S3 := B3.size
  have F3 : w.heap.size < w3.heap.size ∧ g < w3.heap.size ∧ w3.cell? ⟨w.heap.size, 0, none⟩ = some (.int .i64 0) ∧ w3.cell? ⟨w.heap.size, 1, none⟩ = some (.int .i64 0) ∧ w3.cell? ⟨w.heap.size, 2, none⟩ = some (.int .i64 4) ∧ w3.cell? ⟨w.heap.size, 3, none⟩ = some (.int .i64 4) ∧ w3.cell? ⟨g, 8, none⟩ = some (.int .i64 3) ∧ w3.cell? ⟨g, 9, none⟩ = some (.int .i64 1) ∧ w3.cell? ⟨g, 10, none⟩ = some (.int .i64 2) ∧ w3.cell? ⟨g, 11, none⟩ = some (.int .i64 2) := by
    obtain ⟨hc, hf⟩ := bcell hb3
    have hz := hb3.size
    (try simp only [World.size_alloc, World.size_drew, World.size_setCell] at hz)
    (repeat' apply And.intro) <;> (first | omega | (rw [hc _ _ (by first | omega | (simp only [World.size_alloc, World.size_drew, World.size_setCell]; omega))]; first | (simp [go_sem, F2]; done) | (simp [*]; done)) | (rw [hf _ _ (by first | omega | (simp only [World.size_alloc, World.size_drew, World.size_setCell]; omega))]; first | (simp [go_sem, F2]; done) | (simp [*]; done)))
  clear hb3 F2
  go_wp2_with fail
  refine (rect_Move_any _ _ _ _ _ _ _ (by decide) (by decide) (by decide) (by decide)).mono ?_
  rw [wk_move]
  rintro e w4 ⟨rfl, hb4⟩
  have B4 : Below w.heap.size w w4 := below_via hb4 B3
  have S4 := B4.size
  have F4 : w.heap.size < w4.heap.size ∧ w4.cell? ⟨w.heap.size, 0, none⟩ = some (.int .i64 0) ∧ w4.cell? ⟨w.heap.size, 1, none⟩ = some (.int .i64 0) ∧ w4.cell? ⟨w.heap.size, 2, none⟩ = some (.int .i64 4) ∧ w4.cell? ⟨w.heap.size, 3, none⟩ = some (.int .i64 4) := by
    obtain ⟨hc, hf⟩ := bcell hb4
    have hz := hb4.size
    (try simp only [World.size_alloc, World.size_drew, World.size_setCell] at hz)
    (repeat' apply And.intro) <;> (first | omega | (rw [hc _ _ (by first | omega | (simp only [World.size_alloc, World.size_drew, World.size_setCell]; omega))]; first | (simp [go_sem, F3]; done) | (simp [*]; done)) | (rw [hf _ _ (by first | omega | (simp only [World.size_alloc, World.size_drew, World.size_setCell]; omega))]; first | (simp [go_sem, F3]; done) | (simp [*]; done)))
  clear hb4 F3
  go_wp2_with fail
  refine (rect_Empty_any _ _ _ _ _ (by decide) (by decide) (by decide) (by decide)).mono ?_
  rw [wk_empty]
  rintro e w5 ⟨rfl, hb5⟩
  have B5 : Below w.heap.size w w5 := below_via hb5 B4
  have S5 := B5.size
  have F5 : w.heap.size < w5.heap.size ∧ w5.cell? ⟨w.heap.size, 0, none⟩ = some (.int .i64 0) ∧ w5.cell? ⟨w.heap.size, 1, none⟩ = some (.int .i64 0) ∧ w5.cell? ⟨w.heap.size, 2, none⟩ = some (.int .i64 4) ∧ w5.cell? ⟨w.heap.size, 3, none⟩ = some (.int .i64 4) := by
    obtain ⟨hc, hf⟩ := bcell hb5
    have hz := hb5.size
    (try simp only [World.size_alloc, World.size_drew, World.size_setCell] at hz)
    (repeat' apply And.intro) <;> (first | omega | (rw [hc _ _ (by first | omega | (simp only [World.size_alloc, World.size_drew, World.size_setCell]; omega))]; first | (simp [go_sem, F4]; done) | (simp [*]; done)) | (rw [hf _ _ (by first | omega | (simp only [World.size_alloc, World.size_drew, World.size_setCell]; omega))]; first | (simp [go_sem, F4]; done) | (simp [*]; done)))
  clear hb5 F4
  go_wp2_with fail
  refine (rect_Has_any _ _ _ _ _ _ _ (by decide) (by decide) (by decide) (by decide)).mono ?_
  rw [wk_has]
  rintro e w6 ⟨rfl, hb6⟩
  have B6 : Below w.heap.size w w6 := below_via hb6 B5
  clear hb6 F5
  go_wp2
  go_ret
  exact ⟨rfl, B6⟩

set_option maxHeartbeats 4000000 in
theorem RectHas_walk (rx ry rw_ rh x y : Int) (w : World) (hrx : -9223372036854775808 ≤ rx ∧ rx ≤ 9223372036854775807) (hry : -9223372036854775808 ≤ ry ∧ ry ≤ 9223372036854775807) (hrw_ : -9223372036854775808 ≤ rw_ ∧ rw_ ≤ 9223372036854775807) (hrh : -9223372036854775808 ≤ rh ∧ rh ≤ 9223372036854775807) : Calls Try.prog 3 #[.agg #[.int .i64 rx, .int .i64 ry, .int .i64 rw_, .int .i64 rh], .int .i64 x, .int .i64 y] w fun e w' => e = .returned (.bool true) ∧ Below w.heap.size w w' := by
  go_enter Try.func3, Try.ntmps3
  go_wp2
  go_region_held3 (fun w' => w.heap.size < w'.heap.size ∧ w'.cell? ⟨w.heap.size, 0, none⟩ = some (.int .i64 rx) ∧ w'.cell? ⟨w.heap.size, 1, none⟩ = some (.int .i64 ry) ∧ w'.cell? ⟨w.heap.size, 2, none⟩ = some (.int .i64 rw_) ∧ w'.cell? ⟨w.heap.size, 3, none⟩ = some (.int .i64 rh)) (first | (simp [go_sem]; done) | (go_split_ands; refine ⟨by omega, ?_⟩; ((repeat' apply And.intro) <;> (rw [hc _ _ (by omega)]; assumption))))
    (first | (go_at_call 14; refine (rect_Has_any _ _ _ _ _ _ _ hrx hry hrw_ hrh).mono ?_; rintro e w1 ⟨rfl, hb⟩; obtain ⟨hc, hf⟩ := bcell hb; have hz := hb.size) | (go_at_call 15; refine (ref_Has_any _ _ _ _ _ _ _ hrx hry hrw_ hrh).mono ?_; rintro e w1 ⟨rfl, hb⟩; obtain ⟨hc, hf⟩ := bcell hb; have hz := hb.size) | (go_at_call 16; refine (wakes_any _).mono ?_; rintro e w1 ⟨rfl, hb⟩; obtain ⟨hc, hf⟩ := bcell hb; have hz := hb.size))
  all_goals go_wp2
  all_goals go_ret
  all_goals exact ⟨rfl, below_via (by assumption) (below_via (by assumption) (below_via (by assumption) (Below.drew (below_al (Below.refl _ _) _))))⟩
end Go.Proofs.Ytekcheccelllcaa
