/- Layer 13: wakes. -/
import Derived.Test.YtebalohoblaedaaGlyO
namespace Go.Proofs.Ytebalohoblaedaa
open Go.RowKit
set_option linter.unusedVariables false
set_option linter.unusedSimpArgs false

theorem wk_of : ofA 9538 = (⟨2, 1, 2, 1⟩, true) := by decide +kernel
theorem wk_rune : runeA ⟨0, 1, 1, 0⟩ = 9484 := by decide +kernel
theorem wk_merge : mergeA [⟨2, 1, 2, 1⟩, ⟨0, 3, 0, 0⟩] = ⟨2, 3, 2, 1⟩ := by decide +kernel
theorem wk_cell : (linS 2 (min (-9) 9) (min 0 0) (max (-9) 9) (max 0 0) 3 (2 * 1) (List.replicate (2 * 1) zA)).getD (0 * 2 + 1) zA = ⟨0, 3, 0, 3⟩ := by decide +kernel
theorem wk_at : runeA ⟨0, 3, 0, 3⟩ = 9552 := by decide +kernel
theorem cell_grown {w w' : World} {row : Option Nat} (h : w.grownBy w' row) {b : Nat} (hb : b < w.heap.size) (hr : some b ≠ row) (o : Nat) : w'.cell? ⟨b, o, none⟩ = w.cell? ⟨b, o, none⟩ := World.cell?_of_block (h.block b hb hr)

set_option maxRecDepth 100000 in
set_option maxHeartbeats 8000000 in
theorem wakes_any (w : World) : Calls Try.prog 16 #[] w fun e w' => e = .returned (.bool true) ∧ Below w.heap.size w w' := by
  have eqs := eqArms
  go_enter Try.func16, Try.ntmps16
  go_wp2_with fail
  refine (of_any 9538 _).mono ?_
  rw [wk_of]
  rintro e w1 ⟨rfl, hb1⟩
  have B1 : Below w.heap.size w w1 := hb1
  clear hb1
  go_wp2_with fail
  refine (new_yes 2 1 (by decide) (by decide) (by decide) _).mono ?_
  rintro e w2 ⟨rfl, hb2, hp⟩
  have F2 : w1.heap.size < w2.heap.size ∧ w2.cell? ⟨w1.heap.size, 0, none⟩ = some (.int .i8 2) ∧ w2.cell? ⟨w1.heap.size, 1, none⟩ = some (.int .i8 1) ∧ w2.cell? ⟨w1.heap.size, 2, none⟩ = some (.int .i8 2) ∧ w2.cell? ⟨w1.heap.size, 3, none⟩ = some (.int .i8 1) := by
    obtain ⟨hc, hf⟩ := bcell hb2
    have hz := hb2.size
    (try simp only [World.size_alloc, World.size_drew, World.size_setCell] at hz)
    (repeat' apply And.intro) <;> (first | omega | (rw [hc _ _ (by first | omega | (simp only [World.size_alloc, World.size_drew, World.size_setCell]; omega))]; first | (simp [go_sem, go_sem]; done) | (simp [*]; done)) | (rw [hf _ _ (by first | omega | (simp only [World.size_alloc, World.size_drew, World.size_setCell]; omega))]; first | (simp [go_sem, go_sem]; done) | (simp [*]; done)))
  have B2 : Below w.heap.size w w2 := below_via hb2 (below_al B1 _)
  have hz2 : w1.heap.size + 1 ≤ w2.heap.size := by have := hb2.size; simpa using this
  clear hb2
  simp only [World.size_alloc] at hp ⊢
  go_wp2_with fail
  refine (line_ok _ _ 2 1 _ (-9) 0 9 0 3 (by decide) _ hp).mono ?_
  rintro e w3 ⟨rfl, gr3, hp3⟩
  have F3 : w1.heap.size < w3.heap.size ∧ w3.cell? ⟨w1.heap.size, 0, none⟩ = some (.int .i8 2) ∧ w3.cell? ⟨w1.heap.size, 1, none⟩ = some (.int .i8 1) ∧ w3.cell? ⟨w1.heap.size, 2, none⟩ = some (.int .i8 2) ∧ w3.cell? ⟨w1.heap.size, 3, none⟩ = some (.int .i8 1) := by
    have hz := gr3.size
    have hlt : w1.heap.size < w2.heap.size := F2.1
    refine ⟨by omega, ?_, ?_, ?_, ?_⟩ <;> (rw [cell_grown gr3 hlt (by simp)]; simp [F2])
  have B3 : Below w.heap.size w w3 := Below.grown B2 gr3 (by have := B2.size; omega) (fun k hk => by have := B1.size; cases hk; omega)
  clear gr3 F2 hp
  go_wp2_with fail
  refine (at_in _ _ 2 1 _ 1 0 (by decide) (by decide) _ hp3).mono ?_
  rw [wk_cell]
  rw [if_neg (by decide), wk_at]
  rintro e w4 ⟨rfl, hb4⟩
  have F4 : w1.heap.size < w4.heap.size ∧ w4.cell? ⟨w1.heap.size, 0, none⟩ = some (.int .i8 2) ∧ w4.cell? ⟨w1.heap.size, 1, none⟩ = some (.int .i8 1) ∧ w4.cell? ⟨w1.heap.size, 2, none⟩ = some (.int .i8 2) ∧ w4.cell? ⟨w1.heap.size, 3, none⟩ = some (.int .i8 1) := by
    obtain ⟨hc, hf⟩ := bcell hb4
    have hz := hb4.size
    (try simp only [World.size_alloc, World.size_drew, World.size_setCell] at hz)
    (repeat' apply And.intro) <;> (first | omega | (rw [hc _ _ (by first | omega | (simp only [World.size_alloc, World.size_drew, World.size_setCell]; omega))]; first | (simp [go_sem, F3]; done) | (simp [*]; done)) | (rw [hf _ _ (by first | omega | (simp only [World.size_alloc, World.size_drew, World.size_setCell]; omega))]; first | (simp [go_sem, F3]; done) | (simp [*]; done)))
  have B4 : Below w.heap.size w w4 := below_via hb4 B3
  clear hb4 F3 hp3
  go_wp2_with fail
  refine (rune4 0 1 1 0 _).mono ?_
  rw [wk_rune]
  rintro e w5 ⟨rfl, hb5⟩
  have F5 : w1.heap.size < w5.heap.size ∧ w5.cell? ⟨w1.heap.size, 0, none⟩ = some (.int .i8 2) ∧ w5.cell? ⟨w1.heap.size, 1, none⟩ = some (.int .i8 1) ∧ w5.cell? ⟨w1.heap.size, 2, none⟩ = some (.int .i8 2) ∧ w5.cell? ⟨w1.heap.size, 3, none⟩ = some (.int .i8 1) := by
    obtain ⟨hc, hf⟩ := bcell hb5
    have hz := hb5.size
    (try simp only [World.size_alloc, World.size_drew, World.size_setCell] at hz)
    (repeat' apply And.intro) <;> (first | omega | (rw [hc _ _ (by first | omega | (simp only [World.size_alloc, World.size_drew, World.size_setCell]; omega))]; first | (simp [go_sem, F4]; done) | (simp [*]; done)) | (rw [hf _ _ (by first | omega | (simp only [World.size_alloc, World.size_drew, World.size_setCell]; omega))]; first | (simp [go_sem, F4]; done) | (simp [*]; done)))
  have B5 : Below w.heap.size w w5 := below_via hb5 B4
  clear hb5 F4
  go_wp2_with fail
  refine (merge2 2 1 2 1 0 3 0 0 _ _ (by simp) (by simp [go_sem])).mono ?_
  rw [wk_merge]
  rintro e w6 ⟨rfl, hb6⟩
  have B6 : Below w.heap.size w w6 := below_via hb6 (below_al B5 _)
  clear hb6 F5
  go_wp2
  go_ret
  exact ⟨rfl, B6⟩
end Go.Proofs.Ytebalohoblaedaa
