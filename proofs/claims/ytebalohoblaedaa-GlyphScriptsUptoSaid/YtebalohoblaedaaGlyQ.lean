/- Layer 13: the walks of GlyphNames, GlyphRune, GlyphOf, GlyphNew. -/
import Derived.Test.YtebalohoblaedaaGlyP
namespace Go.Proofs.Ytebalohoblaedaa
open Go.RowKit
set_option linter.unusedVariables false
set_option linter.unusedSimpArgs false

theorem GlyphNames_walk (w : World) : Calls Try.prog 8 #[] w fun e w' => e = .returned (.bool true) ∧ Below w.heap.size w w' := by
  go_enter Try.func8, Try.ntmps8
  go_wp2_with fail
  refine (wakes_any _).mono ?_
  rintro e w1 ⟨rfl, hb⟩
  go_wp2
  go_ret
  exact ⟨rfl, hb⟩
theorem rune4r (a b c d : Int) (w : World) : Calls Try.prog 14 #[.agg #[.int .i8 a, .int .i8 b, .int .i8 c, .int .i8 d]] w fun e w' => e = .returned (.int .i32 (rruneA ⟨a, b, c, d⟩)) ∧ Below w.heap.size w w' := by
  rw [← rune_eq]; exact rune4 a b c d w
theorem rrune4 (a b c d : Int) (w : World) : Calls Try.prog 15 #[.agg #[.int .i8 a, .int .i8 b, .int .i8 c, .int .i8 d]] w fun e w' => e = .returned (.int .i32 (rruneA ⟨a, b, c, d⟩)) ∧ Below w.heap.size w w' := rrune_any ⟨a, b, c, d⟩ w
set_option maxHeartbeats 4000000 in
theorem GlyphRune_walk (a b c d : Int) (w : World) : Calls Try.prog 3 #[.agg #[.int .i8 a, .int .i8 b, .int .i8 c, .int .i8 d]] w fun e w' => e = .returned (.bool true) ∧ Below w.heap.size w w' := by
  go_enter Try.func3, Try.ntmps3
  go_wp2
  go_region_held3 (fun w' => w.heap.size < w'.heap.size ∧ w'.cell? ⟨w.heap.size, 0, none⟩ = some (.int .i8 a) ∧ w'.cell? ⟨w.heap.size, 1, none⟩ = some (.int .i8 b) ∧ w'.cell? ⟨w.heap.size, 2, none⟩ = some (.int .i8 c) ∧ w'.cell? ⟨w.heap.size, 3, none⟩ = some (.int .i8 d)) (first | (simp [go_sem]; done) | (go_split_ands; refine ⟨by omega, ?_⟩; ((repeat' apply And.intro) <;> (rw [hc _ _ (by omega)]; assumption))))
    (first | (go_at_call 14; refine (rune4r _ _ _ _ _).mono ?_; rintro e w1 ⟨rfl, hb⟩; obtain ⟨hc, hf⟩ := bcell hb; have hz := hb.size) | (go_at_call 15; refine (rrune4 _ _ _ _ _).mono ?_; rintro e w1 ⟨rfl, hb⟩; obtain ⟨hc, hf⟩ := bcell hb; have hz := hb.size) | (go_at_call 16; refine (wakes_any _).mono ?_; rintro e w1 ⟨rfl, hb⟩; obtain ⟨hc, hf⟩ := bcell hb; have hz := hb.size))
  all_goals go_wp2
  all_goals go_ret
  all_goals exact ⟨rfl, below_via (by assumption) (below_via (by assumption) (below_via (by assumption) (Below.drew (below_al (Below.refl _ _) _))))⟩
set_option maxHeartbeats 4000000 in
theorem GlyphOf_walk (r : Int) (w : World) : Calls Try.prog 5 #[.int .i32 r] w fun e w' => e = .returned (.bool true) ∧ Below w.heap.size w w' := by
  have eqs := eqArms
  go_enter Try.func5, Try.ntmps5
  go_wp2_with fail
  refine (of_any r _).mono ?_
  rw [of_eq]
  rintro e w1 ⟨rfl, hb1⟩
  have B1 : Below w.heap.size w w1 := hb1
  have HR : RowKit.Hid (∃ q, q = rof r) := Lib.hid ⟨_, rfl⟩
  obtain ⟨q, hq⟩ := HR.out
  rw [← hq]
  obtain ⟨⟨q0, q1, q2, q3⟩, qb⟩ := q
  have HQ := Lib.hid hq
  clear hq hb1 HR
  go_wp2_with fail
  refine (rof_any r _).mono ?_
  rw [← HQ.out]
  rintro e w2 ⟨rfl, hb2⟩
  have B2 := below_via hb2 (below_al B1 _)
  have F2 : w1.heap.size < w2.heap.size ∧ w2.cell? ⟨w1.heap.size, 0, none⟩ = some (.int .i8 q0) ∧ w2.cell? ⟨w1.heap.size, 1, none⟩ = some (.int .i8 q1) ∧ w2.cell? ⟨w1.heap.size, 2, none⟩ = some (.int .i8 q2) ∧ w2.cell? ⟨w1.heap.size, 3, none⟩ = some (.int .i8 q3) := by
    obtain ⟨hc, hf⟩ := bcell hb2
    have hz := hb2.size
    simp only [World.size_alloc] at hz
    refine ⟨by omega, ?_, ?_, ?_, ?_⟩ <;> (rw [hc _ _ (by simp)]; simp [go_sem])
  clear hb2
  have ee : (q0 == q0 && q1 == q1 && q2 == q2 && q3 == q3) = true := by simp
  go_wp2_with fail
  refine (wakes_any _).mono ?_
  rintro e w3 ⟨rfl, hb3⟩
  have B3 := below_via hb3 (below_al B2 _)
  clear hb3 F2
  go_wp2
  go_ret
  exact ⟨rfl, B3⟩
end Go.Proofs.Ytebalohoblaedaa
