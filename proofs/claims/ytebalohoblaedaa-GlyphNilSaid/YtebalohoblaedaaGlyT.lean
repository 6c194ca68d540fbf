/- Layer 13: the walk of GlyphNil. -/
import Derived.Test.YtebalohoblaedaaGlyR
namespace Go.Proofs.Ytebalohoblaedaa
open Go.RowKit
set_option linter.unusedVariables false
set_option linter.unusedSimpArgs false

theorem box_nil (a b c d k : Int) (w : World) : Calls Try.prog 24 #[.pointer none, .agg #[.int .i64 a, .int .i64 b, .int .i64 c, .int .i64 d], .int .i8 k] w fun e w' => e = .returned (.int .i64 1) ∧ Below w.heap.size w w' := by
  go_enter Try.func24, Try.ntmps24
  go_wp2
  go_ret
  exact ⟨rfl, by go_grown⟩
theorem rows_nil (w : World) : Calls Try.prog 30 #[.pointer none] w fun e w' => e = .returned (.slice none 0 0) ∧ w = w' := by
  go_enter Try.func30, Try.ntmps30
  go_wp2
  go_ret
  exact ⟨rfl, rfl⟩
set_option maxRecDepth 100000 in
set_option maxHeartbeats 4000000 in
theorem GlyphNil_walk (o x0 y0 x1 y1 a b c d k : Int) (w : World) : Calls Try.prog 12 #[.agg #[.int .i64 o, .int .i64 x0, .int .i64 y0, .int .i64 x1, .int .i64 y1, .int .i64 a, .int .i64 b, .int .i64 c, .int .i64 d, .int .i8 k]] w fun e w' => e = .returned (.bool true) ∧ Below w.heap.size w w' := by
  go_enter Try.func12, Try.ntmps12
  go_wp2_with fail
  refine (at_nil _ _ _).mono ?_
  rintro e w1 ⟨rfl, hb1⟩
  have B1 : Below w.heap.size w w1 := below_via hb1 (by go_grown)
  have F1 : w.heap.size < w1.heap.size ∧ w1.cell? ⟨w.heap.size, 0, none⟩ = some (.int .i64 o) ∧ w1.cell? ⟨w.heap.size, 1, none⟩ = some (.int .i64 x0) ∧ w1.cell? ⟨w.heap.size, 2, none⟩ = some (.int .i64 y0) ∧ w1.cell? ⟨w.heap.size, 3, none⟩ = some (.int .i64 x1) ∧ w1.cell? ⟨w.heap.size, 4, none⟩ = some (.int .i64 y1) ∧ w1.cell? ⟨w.heap.size, 5, none⟩ = some (.int .i64 a) ∧ w1.cell? ⟨w.heap.size, 6, none⟩ = some (.int .i64 b) ∧ w1.cell? ⟨w.heap.size, 7, none⟩ = some (.int .i64 c) ∧ w1.cell? ⟨w.heap.size, 8, none⟩ = some (.int .i64 d) ∧ w1.cell? ⟨w.heap.size, 9, none⟩ = some (.int .i8 k) := by
    obtain ⟨hc, hf⟩ := bcell hb1
    have hz := hb1.size
    (try simp only [World.size_alloc, World.size_drew, World.size_setCell] at hz)
    (repeat' apply And.intro) <;> (first | omega | (rw [hc _ _ (by first | omega | (simp only [World.size_alloc, World.size_drew, World.size_setCell]; omega))]; first | (simp [go_sem]; done) | (simp [*]; done)) | (rw [hf _ _ (by first | omega | (simp only [World.size_alloc, World.size_drew, World.size_setCell]; omega))]; first | (simp [go_sem]; done) | (simp [*]; done)))
  clear hb1
  go_wp2_with fail
  refine (line_nil _ _ _ _ _ _).mono ?_
  rintro e w2 ⟨rfl, rfl⟩
  go_wp2_with fail
  refine (box_nil _ _ _ _ _ _).mono ?_
  rintro e w2 ⟨rfl, hb2⟩
  have B2 : Below w.heap.size w w2 := below_via hb2 B1
  clear hb2 F1
  go_wp2_with fail
  refine (rows_nil _).mono ?_
  rintro e w3 ⟨rfl, rfl⟩
  go_wp2_with fail
  refine (wakes_any _).mono ?_
  rintro e w3 ⟨rfl, hb3⟩
  have B3 : Below w.heap.size w w3 := below_via hb3 B2
  go_wp2
  go_ret
  exact ⟨rfl, B3⟩
end Go.Proofs.Ytebalohoblaedaa
