/- Layer 07: the walk of RectPieces, part 1. -/
import Derived.Test.YtekcheccelllcaaRctPa
namespace Go.Proofs.Ytekcheccelllcaa
open Go.RowKit
set_option linter.unusedVariables false
set_option linter.unusedSimpArgs false
set_option maxRecDepth 100000 in
set_option maxHeartbeats 32000000 in
theorem RectPieces_B1 (ax ay aw ah bx b2 bw bh cx cy : Int) (w : World) (hax : -9223372036854775808 ≤ ax ∧ ax ≤ 9223372036854775807) (hay : -9223372036854775808 ≤ ay ∧ ay ≤ 9223372036854775807) (haw : -9223372036854775808 ≤ aw ∧ aw ≤ 9223372036854775807) (hah : -9223372036854775808 ≤ ah ∧ ah ≤ 9223372036854775807) (hbx : -9223372036854775808 ≤ bx ∧ bx ≤ 9223372036854775807) (hb2 : -9223372036854775808 ≤ b2 ∧ b2 ≤ 9223372036854775807) (hbw : -9223372036854775808 ≤ bw ∧ bw ≤ 9223372036854775807) (hbh : -9223372036854775808 ≤ bh ∧ bh ≤ 9223372036854775807) : (RectPieces_A ax ay aw ah bx b2 bw bh cx cy w hax hay haw hah hbx hb2 hbw hbh).1.2.1 := by
  unfold RectPieces_A
  set_option tactic.hygienic false in intro
  set_option tactic.hygienic false in intros
  have hMC := HM.out
  rw [← meet_comm] at hMC
  have HMC := Lib.hid hMC
  have HOM := Lib.hid (HO.out.trans (move_zero _).symm)
  have HOI := Lib.hid (HO.out.trans (inset_zero _).symm)
  clear hMC
  have hn7 : decide ((4 : Int) < (L.length : Int)) = false := by rw [decide_eq_false_iff_not]; omega
  cases ok : okB ax ay aw ah
  · have z := HO.out
    rw [self_none _ (show okR4 ⟨ax, ay, aw, ah⟩ = false from ok)] at z
    unfold zR at z
    injection z with z1 z2 z3 z4
    subst z1 z2 z3 z4
    go_region_held3 (fun w' => w.heap.size < w'.heap.size ∧ w.heap.size + 1 < w'.heap.size ∧ w.heap.size + 2 < w'.heap.size ∧ bm < w'.heap.size ∧ bo < w'.heap.size ∧ w'.cell? ⟨w.heap.size, 0, none⟩ = some (.int .i64 ax) ∧ w'.cell? ⟨w.heap.size, 1, none⟩ = some (.int .i64 ay) ∧ w'.cell? ⟨w.heap.size, 2, none⟩ = some (.int .i64 aw) ∧ w'.cell? ⟨w.heap.size, 3, none⟩ = some (.int .i64 ah) ∧ w'.cell? ⟨w.heap.size + 1, 0, none⟩ = some (.int .i64 bx) ∧ w'.cell? ⟨w.heap.size + 1, 1, none⟩ = some (.int .i64 b2) ∧ w'.cell? ⟨w.heap.size + 1, 2, none⟩ = some (.int .i64 bw) ∧ w'.cell? ⟨w.heap.size + 1, 3, none⟩ = some (.int .i64 bh) ∧ w'.cell? ⟨w.heap.size + 2, 0, none⟩ = some (.int .i64 cx) ∧ w'.cell? ⟨w.heap.size + 2, 1, none⟩ = some (.int .i64 cy) ∧ w'.cell? ⟨bm, 0, none⟩ = some (.int .i64 mx) ∧ w'.cell? ⟨bm, 1, none⟩ = some (.int .i64 my) ∧ w'.cell? ⟨bm, 2, none⟩ = some (.int .i64 mw) ∧ w'.cell? ⟨bm, 3, none⟩ = some (.int .i64 mh) ∧ w'.cell? ⟨bo, 0, none⟩ = some (.int .i64 0) ∧ w'.cell? ⟨bo, 1, none⟩ = some (.int .i64 0) ∧ w'.cell? ⟨bo, 2, none⟩ = some (.int .i64 0) ∧ w'.cell? ⟨bo, 3, none⟩ = some (.int .i64 0)) (first | (go_split_ands; (repeat' apply And.intro) <;> assumption) | (simp [go_sem, FX]; done) | (go_split_ands; (repeat' apply And.intro) <;> (first | omega | (simp only [World.size_alloc, World.size_drew]; omega) | assumption | (rw [hc _ _ (by first | omega | (simp only [World.size_alloc, World.size_drew]; omega))]; first | assumption | (simp [go_sem, FX]; done)) | (simp [go_sem, *]; done))))
      (first | (go_at_call 24; with_reducible refine (rect_Meet_any _ _ _ _ _ _ _ _ _ hbx hb2 hbw hbh hax hay haw hah).mono ?_; rw [← HMC.out]; rintro e w5 ⟨rfl, hb⟩; obtain ⟨hc, hf⟩ := bcell hb; have hz := hb.size; (try simp only [World.size_alloc, World.size_drew] at hz)) | (go_at_call 30; with_reducible refine (rect_Move_any _ _ _ _ _ _ _ hax hay haw hah).mono ?_; rw [← HOM.out]; rintro e w5 ⟨rfl, hb⟩; obtain ⟨hc, hf⟩ := bcell hb; have hz := hb.size; (try simp only [World.size_alloc, World.size_drew] at hz)) | (go_at_call 28; with_reducible refine (rect_Inset_any _ _ _ _ _ _ _ _ _ hax hay haw hah).mono ?_; rw [← HOI.out]; rintro e w5 ⟨rfl, hb⟩; obtain ⟨hc, hf⟩ := bcell hb; have hz := hb.size; (try simp only [World.size_alloc, World.size_drew] at hz)) | (go_at_call 25; with_reducible refine (rect_Empty_any _ _ _ _ _ hax hay haw hah).mono ?_; rw [ok]; rintro e w5 ⟨rfl, hb⟩; obtain ⟨hc, hf⟩ := bcell hb; have hz := hb.size; (try simp only [World.size_alloc, World.size_drew] at hz)))
    all_goals go_wp2
    all_goals go_meet
    all_goals refine ⟨rfl, ?_, ?_⟩
    all_goals first | (go_split_ands; (repeat' apply And.intro) <;> assumption) | (repeat (first | exact BX | exact Below.refl _ _ | (refine below_via (by assumption) ?_) | (refine Below.drew ?_) | (refine below_al ?_ _)))
  · have z : ow ≠ 0 := by
      have := self_zero _ (show okR4 ⟨ax, ay, aw, ah⟩ = true from ok)
      rw [← HO.out] at this
      exact this
    go_region_held3 (fun w' => w.heap.size < w'.heap.size ∧ w.heap.size + 1 < w'.heap.size ∧ w.heap.size + 2 < w'.heap.size ∧ bm < w'.heap.size ∧ bo < w'.heap.size ∧ w'.cell? ⟨w.heap.size, 0, none⟩ = some (.int .i64 ax) ∧ w'.cell? ⟨w.heap.size, 1, none⟩ = some (.int .i64 ay) ∧ w'.cell? ⟨w.heap.size, 2, none⟩ = some (.int .i64 aw) ∧ w'.cell? ⟨w.heap.size, 3, none⟩ = some (.int .i64 ah) ∧ w'.cell? ⟨w.heap.size + 1, 0, none⟩ = some (.int .i64 bx) ∧ w'.cell? ⟨w.heap.size + 1, 1, none⟩ = some (.int .i64 b2) ∧ w'.cell? ⟨w.heap.size + 1, 2, none⟩ = some (.int .i64 bw) ∧ w'.cell? ⟨w.heap.size + 1, 3, none⟩ = some (.int .i64 bh) ∧ w'.cell? ⟨w.heap.size + 2, 0, none⟩ = some (.int .i64 cx) ∧ w'.cell? ⟨w.heap.size + 2, 1, none⟩ = some (.int .i64 cy) ∧ w'.cell? ⟨bm, 0, none⟩ = some (.int .i64 mx) ∧ w'.cell? ⟨bm, 1, none⟩ = some (.int .i64 my) ∧ w'.cell? ⟨bm, 2, none⟩ = some (.int .i64 mw) ∧ w'.cell? ⟨bm, 3, none⟩ = some (.int .i64 mh) ∧ w'.cell? ⟨bo, 0, none⟩ = some (.int .i64 ox) ∧ w'.cell? ⟨bo, 1, none⟩ = some (.int .i64 oy) ∧ w'.cell? ⟨bo, 2, none⟩ = some (.int .i64 ow) ∧ w'.cell? ⟨bo, 3, none⟩ = some (.int .i64 oh)) (first | (go_split_ands; (repeat' apply And.intro) <;> assumption) | (simp [go_sem, FX]; done) | (go_split_ands; (repeat' apply And.intro) <;> (first | omega | (simp only [World.size_alloc, World.size_drew]; omega) | assumption | (rw [hc _ _ (by first | omega | (simp only [World.size_alloc, World.size_drew]; omega))]; first | assumption | (simp [go_sem, FX]; done)) | (simp [go_sem, *]; done))))
      (first | (go_at_call 24; with_reducible refine (rect_Meet_any _ _ _ _ _ _ _ _ _ hbx hb2 hbw hbh hax hay haw hah).mono ?_; rw [← HMC.out]; rintro e w5 ⟨rfl, hb⟩; obtain ⟨hc, hf⟩ := bcell hb; have hz := hb.size; (try simp only [World.size_alloc, World.size_drew] at hz)) | (go_at_call 30; with_reducible refine (rect_Move_any _ _ _ _ _ _ _ hax hay haw hah).mono ?_; rw [← HOM.out]; rintro e w5 ⟨rfl, hb⟩; obtain ⟨hc, hf⟩ := bcell hb; have hz := hb.size; (try simp only [World.size_alloc, World.size_drew] at hz)) | (go_at_call 28; with_reducible refine (rect_Inset_any _ _ _ _ _ _ _ _ _ hax hay haw hah).mono ?_; rw [← HOI.out]; rintro e w5 ⟨rfl, hb⟩; obtain ⟨hc, hf⟩ := bcell hb; have hz := hb.size; (try simp only [World.size_alloc, World.size_drew] at hz)) | (go_at_call 25; with_reducible refine (rect_Empty_any _ _ _ _ _ hax hay haw hah).mono ?_; rw [ok]; rintro e w5 ⟨rfl, hb⟩; obtain ⟨hc, hf⟩ := bcell hb; have hz := hb.size; (try simp only [World.size_alloc, World.size_drew] at hz)))
    all_goals go_wp2
    all_goals go_meet
    all_goals refine ⟨rfl, ?_, ?_⟩
    all_goals first | (go_split_ands; (repeat' apply And.intro) <;> assumption) | (repeat (first | exact BX | exact Below.refl _ _ | (refine below_via (by assumption) ?_) | (refine Below.drew ?_) | (refine below_al ?_ _)))
end Go.Proofs.Ytekcheccelllcaa
