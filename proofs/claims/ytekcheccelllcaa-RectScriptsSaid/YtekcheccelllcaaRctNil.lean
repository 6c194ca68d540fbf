/- RectNil: a nil region. -/
import Derived.Test.YtekcheccelllcaaRctS
import Derived.LoopN
namespace Go.Proofs.Ytekcheccelllcaa
open Go.RowKit
set_option linter.unusedVariables false
set_option linter.unusedSimpArgs false

set_option maxRecDepth 100000 in
theorem change_nil (v : Value) (a b c d : Int) (w : World) : Calls Try.prog 54 #[.pointer none, .agg #[.int .i64 a, .int .i64 b, .int .i64 c, .int .i64 d], v] w fun e w' => e = .returned (.int .i64 1) ∧ Below w.heap.size w w' := by
  go_enter Try.func54, Try.ntmps54
  go_wp2
  go_ret
  exact ⟨rfl, by go_grown⟩
theorem add_nil (a b c d : Int) (w : World) : Calls Try.prog 35 #[.pointer none, .agg #[.int .i64 a, .int .i64 b, .int .i64 c, .int .i64 d]] w fun e w' => e = .returned (.int .i64 1) ∧ Below w.heap.size w w' := by
  go_enter Try.func35, Try.ntmps35
  go_wp2_with fail
  refine (change_nil _ _ _ _ _ _).mono ?_
  rintro e w1 ⟨rfl, hb⟩
  go_wp2
  go_ret
  exact ⟨rfl, below_via hb (by go_grown)⟩
theorem cut_nil (a b c d : Int) (w : World) : Calls Try.prog 39 #[.pointer none, .agg #[.int .i64 a, .int .i64 b, .int .i64 c, .int .i64 d]] w fun e w' => e = .returned (.int .i64 1) ∧ Below w.heap.size w w' := by
  go_enter Try.func39, Try.ntmps39
  go_wp2_with fail
  refine (change_nil _ _ _ _ _ _).mono ?_
  rintro e w1 ⟨rfl, hb⟩
  go_wp2
  go_ret
  exact ⟨rfl, below_via hb (by go_grown)⟩
theorem clip_nil (a b c d : Int) (w : World) : Calls Try.prog 40 #[.pointer none, .agg #[.int .i64 a, .int .i64 b, .int .i64 c, .int .i64 d]] w fun e w' => e = .returned (.int .i64 1) ∧ Below w.heap.size w w' := by
  go_enter Try.func40, Try.ntmps40
  go_wp2_with fail
  refine (change_nil _ _ _ _ _ _).mono ?_
  rintro e w1 ⟨rfl, hb⟩
  go_wp2
  go_ret
  exact ⟨rfl, below_via hb (by go_grown)⟩
theorem rects_nil (w : World) : Calls Try.prog 37 #[.pointer none] w fun e w' => e = .returned (.slice none 0 0) ∧ w = w' := by
  go_enter Try.func37, Try.ntmps37
  go_wp2
  go_ret
  exact ⟨rfl, rfl⟩
theorem area_nil (w : World) : Calls Try.prog 38 #[.pointer none] w fun e w' => e = .returned (.int .i64 0) ∧ Below w.heap.size w w' := by
  go_enter Try.func38, Try.ntmps38
  go_wp2_with fail
  refine (rects_nil _).mono ?_
  rintro e w1 ⟨rfl, rfl⟩
  go_wp2
  refine wp_loop_rounds 1 ?_
  rw [rounds_succ]
  go_wp2
  go_ret
  exact ⟨rfl, Below.refl _ _⟩
theorem has_nil (x y : Int) (w : World) : Calls Try.prog 41 #[.pointer none, .int .i64 x, .int .i64 y] w fun e w' => e = .returned (.bool false) ∧ Below w.heap.size w w' := by
  go_enter Try.func41, Try.ntmps41
  go_wp2_with fail
  refine (rects_nil _).mono ?_
  rintro e w1 ⟨rfl, rfl⟩
  go_wp2
  refine wp_loop_rounds 1 ?_
  rw [rounds_succ]
  go_wp2
  go_ret
  exact ⟨rfl, Below.refl _ _⟩

set_option maxRecDepth 100000 in
set_option maxHeartbeats 4000000 in
theorem RectNil_walk (rx ry rw_ rh : Int) (w : World) : Calls Try.prog 11 #[.agg #[.int .i64 rx, .int .i64 ry, .int .i64 rw_, .int .i64 rh]] w fun e w' => e = .returned (.bool true) ∧ Below w.heap.size w w' := by
  go_enter Try.func11, Try.ntmps11
  go_wp2_with fail
  refine (add_nil _ _ _ _ _).mono ?_
  rintro e w1 ⟨rfl, hb1⟩
  have B1 : Below w.heap.size w w1 := below_via hb1 (by go_grown)
  have F1 : w.heap.size < w1.heap.size ∧ w1.cell? ⟨w.heap.size, 0, none⟩ = some (.int .i64 rx) ∧ w1.cell? ⟨w.heap.size, 1, none⟩ = some (.int .i64 ry) ∧ w1.cell? ⟨w.heap.size, 2, none⟩ = some (.int .i64 rw_) ∧ w1.cell? ⟨w.heap.size, 3, none⟩ = some (.int .i64 rh) := by
    obtain ⟨hc, hf⟩ := bcell hb1
    have hz := hb1.size
    (try simp only [World.size_alloc, World.size_drew, World.size_setCell] at hz)
    (repeat' apply And.intro) <;> (first | omega | (rw [hc _ _ (by first | omega | (simp only [World.size_alloc, World.size_drew, World.size_setCell]; omega))]; first | (simp [go_sem]; done) | (simp [*]; done)) | (rw [hf _ _ (by first | omega | (simp only [World.size_alloc, World.size_drew, World.size_setCell]; omega))]; first | (simp [go_sem]; done) | (simp [*]; done)))
  clear hb1
  go_wp2_with fail
  refine (cut_nil _ _ _ _ _).mono ?_
  rintro e w2 ⟨rfl, hb2⟩
  have B2 : Below w.heap.size w w2 := below_via hb2 (B1)
  have F2 : w.heap.size < w2.heap.size ∧ w2.cell? ⟨w.heap.size, 0, none⟩ = some (.int .i64 rx) ∧ w2.cell? ⟨w.heap.size, 1, none⟩ = some (.int .i64 ry) ∧ w2.cell? ⟨w.heap.size, 2, none⟩ = some (.int .i64 rw_) ∧ w2.cell? ⟨w.heap.size, 3, none⟩ = some (.int .i64 rh) := by
    obtain ⟨hc, hf⟩ := bcell hb2
    have hz := hb2.size
    (try simp only [World.size_alloc, World.size_drew, World.size_setCell] at hz)
    (repeat' apply And.intro) <;> (first | omega | (rw [hc _ _ (by first | omega | (simp only [World.size_alloc, World.size_drew, World.size_setCell]; omega))]; first | (simp [go_sem, F1]; done) | (simp [*]; done)) | (rw [hf _ _ (by first | omega | (simp only [World.size_alloc, World.size_drew, World.size_setCell]; omega))]; first | (simp [go_sem, F1]; done) | (simp [*]; done)))
  clear hb2 F1
  go_wp2_with fail
  refine (clip_nil _ _ _ _ _).mono ?_
  rintro e w3 ⟨rfl, hb3⟩
  have B3 : Below w.heap.size w w3 := below_via hb3 (B2)
  have F3 : w.heap.size < w3.heap.size ∧ w3.cell? ⟨w.heap.size, 0, none⟩ = some (.int .i64 rx) ∧ w3.cell? ⟨w.heap.size, 1, none⟩ = some (.int .i64 ry) ∧ w3.cell? ⟨w.heap.size, 2, none⟩ = some (.int .i64 rw_) ∧ w3.cell? ⟨w.heap.size, 3, none⟩ = some (.int .i64 rh) := by
    obtain ⟨hc, hf⟩ := bcell hb3
    have hz := hb3.size
    (try simp only [World.size_alloc, World.size_drew, World.size_setCell] at hz)
    (repeat' apply And.intro) <;> (first | omega | (rw [hc _ _ (by first | omega | (simp only [World.size_alloc, World.size_drew, World.size_setCell]; omega))]; first | (simp [go_sem, F2]; done) | (simp [*]; done)) | (rw [hf _ _ (by first | omega | (simp only [World.size_alloc, World.size_drew, World.size_setCell]; omega))]; first | (simp [go_sem, F2]; done) | (simp [*]; done)))
  clear hb3 F2
  go_wp2_with fail
  refine (has_nil _ _ _).mono ?_
  rintro e w4 ⟨rfl, hb4⟩
  have B4 : Below w.heap.size w w4 := below_via hb4 (B3)
  have F4 : w.heap.size < w4.heap.size ∧ w4.cell? ⟨w.heap.size, 0, none⟩ = some (.int .i64 rx) ∧ w4.cell? ⟨w.heap.size, 1, none⟩ = some (.int .i64 ry) ∧ w4.cell? ⟨w.heap.size, 2, none⟩ = some (.int .i64 rw_) ∧ w4.cell? ⟨w.heap.size, 3, none⟩ = some (.int .i64 rh) := by
    obtain ⟨hc, hf⟩ := bcell hb4
    have hz := hb4.size
    (try simp only [World.size_alloc, World.size_drew, World.size_setCell] at hz)
    (repeat' apply And.intro) <;> (first | omega | (rw [hc _ _ (by first | omega | (simp only [World.size_alloc, World.size_drew, World.size_setCell]; omega))]; first | (simp [go_sem, F3]; done) | (simp [*]; done)) | (rw [hf _ _ (by first | omega | (simp only [World.size_alloc, World.size_drew, World.size_setCell]; omega))]; first | (simp [go_sem, F3]; done) | (simp [*]; done)))
  clear hb4 F3
  go_wp2_with fail
  refine (area_nil _).mono ?_
  rintro e w5 ⟨rfl, hb5⟩
  have B5 : Below w.heap.size w w5 := below_via hb5 (B4)
  have F5 : w.heap.size < w5.heap.size ∧ w5.cell? ⟨w.heap.size, 0, none⟩ = some (.int .i64 rx) ∧ w5.cell? ⟨w.heap.size, 1, none⟩ = some (.int .i64 ry) ∧ w5.cell? ⟨w.heap.size, 2, none⟩ = some (.int .i64 rw_) ∧ w5.cell? ⟨w.heap.size, 3, none⟩ = some (.int .i64 rh) := by
    obtain ⟨hc, hf⟩ := bcell hb5
    have hz := hb5.size
    (try simp only [World.size_alloc, World.size_drew, World.size_setCell] at hz)
    (repeat' apply And.intro) <;> (first | omega | (rw [hc _ _ (by first | omega | (simp only [World.size_alloc, World.size_drew, World.size_setCell]; omega))]; first | (simp [go_sem, F4]; done) | (simp [*]; done)) | (rw [hf _ _ (by first | omega | (simp only [World.size_alloc, World.size_drew, World.size_setCell]; omega))]; first | (simp [go_sem, F4]; done) | (simp [*]; done)))
  clear hb5 F4
  go_wp2_with fail
  refine (rects_nil _).mono ?_
  rintro e w6 ⟨rfl, rfl⟩
  go_wp2_with fail
  refine (wakes_any _).mono ?_
  rintro e w7 ⟨rfl, hb7⟩
  have B7 := below_via hb7 B5
  go_wp2
  go_ret
  exact ⟨rfl, B7⟩
end Go.Proofs.Ytekcheccelllcaa
