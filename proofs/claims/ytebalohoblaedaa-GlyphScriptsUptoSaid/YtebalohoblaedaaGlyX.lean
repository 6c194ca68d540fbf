/- Layer 13: Box. -/
import Derived.Test.YtebalohoblaedaaGlyW
import Derived.Test.YtebalohoblaedaaGlyP
import Derived.Test.YtebalohoblaedaaGrtC
namespace Go.Proofs.Ytebalohoblaedaa
open Go.RowKit
set_option linter.unusedVariables false
set_option linter.unusedSimpArgs false

theorem box_arg (g : Addr) (x y w_ h k : Int) (hk : k < 0 ∨ 4 < k) (w : World) : Calls Try.prog 24 #[.pointer (some g), .agg #[.int .i64 x, .int .i64 y, .int .i64 w_, .int .i64 h], .int .i8 k] w fun e w' => e = .returned (.int .i64 2) ∧ Below w.heap.size w w' := by
  rcases hk with hk | hk
  · go_enter Try.func24, Try.ntmps24
    go_wp2
    go_ret
    exact ⟨rfl, by go_grown⟩
  · have hk0 : 0 ≤ k := by omega
    go_enter Try.func24, Try.ntmps24
    go_wp2
    go_ret
    exact ⟨rfl, by go_grown⟩
set_option maxHeartbeats 4000000 in
theorem box_no (g : Addr) (x y w_ h k : Int) (hk : 0 ≤ k ∧ k ≤ 4) (hx : -9223372036854775808 ≤ x ∧ x ≤ 9223372036854775807) (hy : -9223372036854775808 ≤ y ∧ y ≤ 9223372036854775807) (hw_ : -9223372036854775808 ≤ w_ ∧ w_ ≤ 9223372036854775807) (hh : -9223372036854775808 ≤ h ∧ h ≤ 9223372036854775807) (hn : okB x y w_ h = false) (w : World) : Calls Try.prog 24 #[.pointer (some g), .agg #[.int .i64 x, .int .i64 y, .int .i64 w_, .int .i64 h], .int .i8 k] w fun e w' => e = .returned (.int .i64 160) ∧ Below w.heap.size w w' := by
  have hN := Lib.hid hn
  obtain ⟨hk0, hk4⟩ := hk
  clear hn
  go_enter Try.func24, Try.ntmps24
  go_wp2_with fail
  refine (rect_Meet_any _ _ _ _ _ _ _ _ _ hx hy hw_ hh hx hy hw_ hh).mono ?_
  rw [meet_no (r := ⟨x, y, w_, h⟩) (s := ⟨x, y, w_, h⟩) (.inl hN.out)]
  rintro e w1 ⟨rfl, hb1⟩
  have B1 : Below w.heap.size w w1 := below_via hb1 (by go_grown)
  have S1 := B1.size
  have F1 : w.heap.size < w1.heap.size ∧ w1.cell? ⟨w.heap.size, 0, none⟩ = some (.int .i64 x) ∧ w1.cell? ⟨w.heap.size, 1, none⟩ = some (.int .i64 y) ∧ w1.cell? ⟨w.heap.size, 2, none⟩ = some (.int .i64 w_) ∧ w1.cell? ⟨w.heap.size, 3, none⟩ = some (.int .i64 h) ∧ w1.frozen? ⟨w.heap.size, 0, none⟩ = false ∧ w1.frozen? ⟨w.heap.size, 1, none⟩ = false ∧ w1.frozen? ⟨w.heap.size, 2, none⟩ = false ∧ w1.frozen? ⟨w.heap.size, 3, none⟩ = false := by
    obtain ⟨hc, hf⟩ := bcell hb1
    have hz := hb1.size
    (try simp only [World.size_alloc, World.size_drew, World.size_setCell] at hz)
    (repeat' apply And.intro) <;> (first | omega | (rw [hc _ _ (by first | omega | (simp only [World.size_alloc, World.size_drew, World.size_setCell]; omega))]; first | (simp [go_sem]; done) | (simp [*]; done)) | (rw [hf _ _ (by first | omega | (simp only [World.size_alloc, World.size_drew, World.size_setCell]; omega))]; first | (simp [go_sem]; done) | (simp [*]; done)))
  clear hb1
  simp only [zR]
  go_wp2_with fail
  refine (rect_Empty_any _ _ _ _ _ (by omega) (by omega) (by omega) (by omega)).mono ?_
  rw [show okB 0 0 0 0 = false by rfl]
  rintro e w2 ⟨rfl, hb2⟩
  have B2 : Below w.heap.size w w2 := below_via hb2 (by go_grown)
  clear hb2
  go_wp2
  go_ret
  exact ⟨rfl, B2⟩
theorem idxL0 (w : World) (a0 a1 a2 a3 b0 b1 b2 b3 c0 c1 c2 c3 d0 d1 d2 d3 : Int) : (Instr.index 91 (.agg #[.int .i64 a0, .int .i64 a1, .int .i64 a2, .int .i64 a3, .int .i64 b0, .int .i64 b1, .int .i64 b2, .int .i64 b3, .int .i64 c0, .int .i64 c1, .int .i64 c2, .int .i64 c3, .int .i64 d0, .int .i64 d1, .int .i64 d2, .int .i64 d3]) (.int .i64 0)).run Try.prog w = .ok (.agg #[.int .i64 a0, .int .i64 a1, .int .i64 a2, .int .i64 a3]) w := by kernel_rfl
theorem idxL1 (w : World) (a0 a1 a2 a3 b0 b1 b2 b3 c0 c1 c2 c3 d0 d1 d2 d3 : Int) : (Instr.index 91 (.agg #[.int .i64 a0, .int .i64 a1, .int .i64 a2, .int .i64 a3, .int .i64 b0, .int .i64 b1, .int .i64 b2, .int .i64 b3, .int .i64 c0, .int .i64 c1, .int .i64 c2, .int .i64 c3, .int .i64 d0, .int .i64 d1, .int .i64 d2, .int .i64 d3]) (.int .i64 1)).run Try.prog w = .ok (.agg #[.int .i64 b0, .int .i64 b1, .int .i64 b2, .int .i64 b3]) w := by kernel_rfl
theorem idxL2 (w : World) (a0 a1 a2 a3 b0 b1 b2 b3 c0 c1 c2 c3 d0 d1 d2 d3 : Int) : (Instr.index 91 (.agg #[.int .i64 a0, .int .i64 a1, .int .i64 a2, .int .i64 a3, .int .i64 b0, .int .i64 b1, .int .i64 b2, .int .i64 b3, .int .i64 c0, .int .i64 c1, .int .i64 c2, .int .i64 c3, .int .i64 d0, .int .i64 d1, .int .i64 d2, .int .i64 d3]) (.int .i64 2)).run Try.prog w = .ok (.agg #[.int .i64 c0, .int .i64 c1, .int .i64 c2, .int .i64 c3]) w := by kernel_rfl
theorem idxL3 (w : World) (a0 a1 a2 a3 b0 b1 b2 b3 c0 c1 c2 c3 d0 d1 d2 d3 : Int) : (Instr.index 91 (.agg #[.int .i64 a0, .int .i64 a1, .int .i64 a2, .int .i64 a3, .int .i64 b0, .int .i64 b1, .int .i64 b2, .int .i64 b3, .int .i64 c0, .int .i64 c1, .int .i64 c2, .int .i64 c3, .int .i64 d0, .int .i64 d1, .int .i64 d2, .int .i64 d3]) (.int .i64 3)).run Try.prog w = .ok (.agg #[.int .i64 d0, .int .i64 d1, .int .i64 d2, .int .i64 d3]) w := by kernel_rfl
set_option maxRecDepth 100000 in
set_option maxHeartbeats 16000000 in
theorem box_ok (g gc W H : Nat) (L : List A4) (x y w_ h k : Int) (hk : 0 ≤ k ∧ k ≤ 4) (hx : -9223372036854775808 ≤ x ∧ x ≤ 9223372036854775807) (hy : -9223372036854775808 ≤ y ∧ y ≤ 9223372036854775807) (hw_ : -9223372036854775808 ≤ w_ ∧ w_ ≤ 9223372036854775807) (hh : -9223372036854775808 ≤ h ∧ h ≤ 9223372036854775807) (hn : okB x y w_ h = true) (w : World) (hp : PlanAt w g gc W H L) : Calls Try.prog 24 #[.pointer (some ⟨g, 0, none⟩), .agg #[.int .i64 x, .int .i64 y, .int .i64 w_, .int .i64 h], .int .i8 k] w fun e w' => e = .returned (.int .i64 0) ∧ w.grownBy w' (some gc) ∧ PlanAt w' g gc W H (boxS W H (rlo x) (rlo y) (rhi x w_ - 1) (rhi y h - 1) k L) := by
  have hN := Lib.hid hn
  obtain ⟨hk0, hk4⟩ := hk
  have kx := okB_spec.1 hn
  clear hn
  have HP := Lib.hid hp
  have hg1 := hp.cells.1
  have hg2 := hp.cells.2.1
  clear hp
  have b1 := rlo_bd x; have b2 := rlo_bd y; have b3 := rhi_bd x w_; have b4 := rhi_bd y h
  generalize hX0 : rlo x = X0 at *
  generalize hY0 : rlo y = Y0 at *
  generalize hX1 : rhi x w_ = X1 at *
  generalize hY1 : rhi y h = Y1 at *
  have HX0 := Lib.hid hX0; have HY0 := Lib.hid hY0; have HX1 := Lib.hid hX1; have HY1 := Lib.hid hY1
  clear hX0 hY0 hX1 hY1
  obtain ⟨kx, ky⟩ := kx
  go_enter Try.func24, Try.ntmps24
  go_wp2_with fail
  refine (rect_Meet_any _ _ _ _ _ _ _ _ _ hx hy hw_ hh hx hy hw_ hh).mono ?_
  rw [meet_self x y w_ h hN.out]
  rw [HX0.out, HY0.out, HX1.out, HY1.out]
  clear hN HX0 HX1 HY0 HY1
  rintro e w1 ⟨rfl, hb1⟩
  have B1 : Below w.heap.size w w1 := below_via hb1 (by go_grown)
  have S1 := B1.size
  have F1 : w.heap.size < w1.heap.size ∧ w1.cell? ⟨w.heap.size, 0, none⟩ = some (.int .i64 x) ∧ w1.cell? ⟨w.heap.size, 1, none⟩ = some (.int .i64 y) ∧ w1.cell? ⟨w.heap.size, 2, none⟩ = some (.int .i64 w_) ∧ w1.cell? ⟨w.heap.size, 3, none⟩ = some (.int .i64 h) ∧ w1.frozen? ⟨w.heap.size, 0, none⟩ = false ∧ w1.frozen? ⟨w.heap.size, 1, none⟩ = false ∧ w1.frozen? ⟨w.heap.size, 2, none⟩ = false ∧ w1.frozen? ⟨w.heap.size, 3, none⟩ = false := by
    obtain ⟨hc, hf⟩ := bcell hb1
    have hz := hb1.size
    (try simp only [World.size_alloc, World.size_drew, World.size_setCell] at hz)
    (repeat' apply And.intro) <;> (first | omega | (rw [hc _ _ (by first | omega | (simp only [World.size_alloc, World.size_drew, World.size_setCell]; omega))]; first | (simp [go_sem]; done) | (simp [*]; done)) | (rw [hf _ _ (by first | omega | (simp only [World.size_alloc, World.size_drew, World.size_setCell]; omega))]; first | (simp [go_sem]; done) | (simp [*]; done)))
  clear hb1
  have ok2 := Lib.hid (ok_in X0 Y0 X1 Y1 b1 kx b3 b2 ky b4)
  go_wp2_with fail
  refine (rect_Empty_any _ _ _ _ _ (by omega) (by omega) (by omega) (by omega)).mono ?_
  rw [ok2.out]
  clear ok2
  rintro e w2 ⟨rfl, hb2⟩
  have B2 : Below w.heap.size w w2 := below_via hb2 (by go_grown)
  have S2 := B2.size
  have F2 : w.heap.size < w2.heap.size ∧ w2.cell? ⟨w.heap.size, 0, none⟩ = some (.int .i64 X0) ∧ w2.cell? ⟨w.heap.size, 1, none⟩ = some (.int .i64 Y0) ∧ w2.cell? ⟨w.heap.size, 2, none⟩ = some (.int .i64 (X1 - X0)) ∧ w2.cell? ⟨w.heap.size, 3, none⟩ = some (.int .i64 (Y1 - Y0)) := by
    obtain ⟨hc, hf⟩ := bcell hb2
    have hz := hb2.size
    (try simp only [World.size_alloc, World.size_drew, World.size_setCell] at hz)
    (repeat' apply And.intro) <;> (first | omega | (rw [hc _ _ (by first | omega | (simp only [World.size_alloc, World.size_drew, World.size_setCell]; omega))]; first | (simp [go_sem, F1]; done) | (simp [*]; done)) | (rw [hf _ _ (by first | omega | (simp only [World.size_alloc, World.size_drew, World.size_setCell]; omega))]; first | (simp [go_sem, F1]; done) | (simp [*]; done)))
  clear hb2 F1
  go_wp2
  go_quiet (fail)
  generalize hq : w2.drewN nq = w3
  have B3 : Below w.heap.size w w3 := by rw [← hq]; exact below_drewN B2 nq
  have F3 : w.heap.size < w3.heap.size ∧ w3.cell? ⟨w.heap.size, 0, none⟩ = some (.int .i64 X0) ∧ w3.cell? ⟨w.heap.size, 1, none⟩ = some (.int .i64 Y0) ∧ w3.cell? ⟨w.heap.size, 2, none⟩ = some (.int .i64 (X1 - X0)) ∧ w3.cell? ⟨w.heap.size, 3, none⟩ = some (.int .i64 (Y1 - Y0)) := by rw [← hq]; simpa using F2
  have S3 := B3.size
  clear hq F2 B2 S2
  go_wp2
  clear F3
  have e1 : X0 + (X1 - X0) - 1 = X1 - 1 := by omega
  have e2 : Y0 + (Y1 - Y0) - 1 = Y1 - 1 := by omega
  rw [e1, e2]
  have P3 := Lib.hid (HP.out.later B3 hg1 hg2)
  have R3 := Lib.hid (only_of_below B3 (some gc))
  clear HP B3 e1 e2
  refine wp_loop_rounds 5 ?_
  rw [rounds_succ]
  have hi := idxL0
  go_wp2_with fail
  clear hi
  refine (line_ok g gc W H L _ _ _ _ k (by simp [lineOk]; omega) _ (P3.out.alloc _)).mono ?_
  rintro e w4 ⟨rfl, gr, hp⟩
  have P4 := Lib.hid (show PlanAt w4 g gc W H (lin2 W H X0 Y0 (X1 - 1) Y0 k L) from hp)
  have R4 := Lib.hid (grown_trans R3.out (grown_trans (only_of_below ((Below.refl w3.heap.size w3).alloc (Nat.le_refl _) _) (some gc)) gr))
  clear gr hp P3 R3
  go_wp2
  rw [rounds_succ]
  have hi := idxL1
  go_wp2_with fail
  clear hi
  refine (line_ok g gc W H (lin2 W H X0 Y0 (X1 - 1) Y0 k L) _ _ _ _ k (by simp [lineOk]; omega) _ (P4.out.alloc _)).mono ?_
  rintro e w5 ⟨rfl, gr, hp⟩
  have P5 := Lib.hid (show PlanAt w5 g gc W H (lin2 W H X0 (Y1 - 1) (X1 - 1) (Y1 - 1) k (lin2 W H X0 Y0 (X1 - 1) Y0 k L)) from hp)
  have R5 := Lib.hid (grown_trans R4.out (grown_trans (only_of_below ((Below.refl w4.heap.size w4).alloc (Nat.le_refl _) _) (some gc)) gr))
  clear gr hp P4 R4
  go_wp2
  rw [rounds_succ]
  have hi := idxL2
  go_wp2_with fail
  clear hi
  refine (line_ok g gc W H (lin2 W H X0 (Y1 - 1) (X1 - 1) (Y1 - 1) k (lin2 W H X0 Y0 (X1 - 1) Y0 k L)) _ _ _ _ k (by simp [lineOk]; omega) _ (P5.out.alloc _)).mono ?_
  rintro e w6 ⟨rfl, gr, hp⟩
  have P6 := Lib.hid (show PlanAt w6 g gc W H (lin2 W H X0 Y0 X0 (Y1 - 1) k (lin2 W H X0 (Y1 - 1) (X1 - 1) (Y1 - 1) k (lin2 W H X0 Y0 (X1 - 1) Y0 k L))) from hp)
  have R6 := Lib.hid (grown_trans R5.out (grown_trans (only_of_below ((Below.refl w5.heap.size w5).alloc (Nat.le_refl _) _) (some gc)) gr))
  clear gr hp P5 R5
  go_wp2
  rw [rounds_succ]
  have hi := idxL3
  go_wp2_with fail
  clear hi
  refine (line_ok g gc W H (lin2 W H X0 Y0 X0 (Y1 - 1) k (lin2 W H X0 (Y1 - 1) (X1 - 1) (Y1 - 1) k (lin2 W H X0 Y0 (X1 - 1) Y0 k L))) _ _ _ _ k (by simp [lineOk]; omega) _ (P6.out.alloc _)).mono ?_
  rintro e w7 ⟨rfl, gr, hp⟩
  have P7 := Lib.hid (show PlanAt w7 g gc W H (lin2 W H (X1 - 1) Y0 (X1 - 1) (Y1 - 1) k (lin2 W H X0 Y0 X0 (Y1 - 1) k (lin2 W H X0 (Y1 - 1) (X1 - 1) (Y1 - 1) k (lin2 W H X0 Y0 (X1 - 1) Y0 k L)))) from hp)
  have R7 := Lib.hid (grown_trans R6.out (grown_trans (only_of_below ((Below.refl w6.heap.size w6).alloc (Nat.le_refl _) _) (some gc)) gr))
  clear gr hp P6 R6
  go_wp2
  rw [rounds_succ]
  go_wp2
  go_ret
  exact ⟨rfl, R7.out, P7.out⟩
end Go.Proofs.Ytebalohoblaedaa
