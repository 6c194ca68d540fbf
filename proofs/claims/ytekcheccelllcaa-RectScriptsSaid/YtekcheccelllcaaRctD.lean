/- Contracts of rect.Move, Inset. -/
import Derived.Test.YtekcheccelllcaaRctC
namespace Go.Proofs.Ytekcheccelllcaa
open Go.RowKit
set_option linter.unusedVariables false
set_option linter.unusedSimpArgs false

def far_ (d : Int) : Int := min (max d (-8388608)) 8388608
theorem far_bd (d : Int) : -8388608 ≤ far_ d ∧ far_ d ≤ 8388608 := by unfold far_; omega
def moveR (r : R4) (dx dy : Int) : R4 := if okR4 r then mkR (rlo r.x + far_ dx) (rlo r.y + far_ dy) (rhi r.x r.w + far_ dx) (rhi r.y r.h + far_ dy) else zR
def insetR (r : R4) (a b c d : Int) : R4 := if okR4 r then mkR (rlo r.x + far_ d) (rlo r.y + far_ a) (rhi r.x r.w - far_ b) (rhi r.y r.h - far_ c) else zR
theorem rect_bring_far (n : Int) (w : World) : Calls Try.prog 51 #[.int .i64 n, .int .i64 (-8388608), .int .i64 8388608] w fun e w' => e = .returned (.int .i64 (far_ n)) ∧ w = w' := rect_bring_any n _ _ w

set_option maxHeartbeats 4000000 in
theorem rect_Move_any (rx ry rw_ rh dx dy : Int) (w : World) (hrx : -9223372036854775808 ≤ rx ∧ rx ≤ 9223372036854775807) (hry : -9223372036854775808 ≤ ry ∧ ry ≤ 9223372036854775807) (hrw_ : -9223372036854775808 ≤ rw_ ∧ rw_ ≤ 9223372036854775807) (hrh : -9223372036854775808 ≤ rh ∧ rh ≤ 9223372036854775807) : Calls Try.prog 30 #[.agg #[.int .i64 rx, .int .i64 ry, .int .i64 rw_, .int .i64 rh], .int .i64 dx, .int .i64 dy] w fun e w' => e = .returned (.agg #[.int .i64 (moveR ⟨rx, ry, rw_, rh⟩ dx dy).x, .int .i64 (moveR ⟨rx, ry, rw_, rh⟩ dx dy).y, .int .i64 (moveR ⟨rx, ry, rw_, rh⟩ dx dy).w, .int .i64 (moveR ⟨rx, ry, rw_, rh⟩ dx dy).h]) ∧ Below w.heap.size w w' := by
  cases ok1 : okB rx ry rw_ rh
  · rw [show moveR ⟨rx, ry, rw_, rh⟩ dx dy = zR by unfold moveR okR4; rw [ok1]; rfl]
    go_enter Try.func30, Try.ntmps30
    go_wp2_with fail
    refine (rect_ends_any _ _ _ _ _ hrx hry hrw_ hrh).mono ?_
    rw [ok1]
    rintro e w1 ⟨rfl, hb1⟩
    have B1 : Below w.heap.size w w1 := below_via hb1 (below_al (below_al (Below.refl _ _) _) _)
    have S1 := B1.size
    have F1 : w.heap.size < w1.heap.size ∧ w.heap.size + 1 < w1.heap.size ∧ w1.cell? ⟨w.heap.size + 1, 0, none⟩ = some (.int .i64 0) ∧ w1.cell? ⟨w.heap.size + 1, 1, none⟩ = some (.int .i64 0) ∧ w1.cell? ⟨w.heap.size + 1, 2, none⟩ = some (.int .i64 0) ∧ w1.cell? ⟨w.heap.size + 1, 3, none⟩ = some (.int .i64 0) ∧ w1.frozen? ⟨w.heap.size + 1, 0, none⟩ = false ∧ w1.frozen? ⟨w.heap.size + 1, 1, none⟩ = false ∧ w1.frozen? ⟨w.heap.size + 1, 2, none⟩ = false ∧ w1.frozen? ⟨w.heap.size + 1, 3, none⟩ = false := by
      obtain ⟨hc, hf⟩ := bcell hb1
      have hz := hb1.size
      (try simp only [World.size_alloc, World.size_drew, World.size_setCell] at hz)
      (repeat' apply And.intro) <;> (first | omega | (rw [hc _ _ (by first | omega | (simp only [World.size_alloc, World.size_drew, World.size_setCell]; omega))]; first | (simp [go_sem]; done) | (simp [*]; done)) | (rw [hf _ _ (by first | omega | (simp only [World.size_alloc, World.size_drew, World.size_setCell]; omega))]; first | (simp [go_sem]; done) | (simp [*]; done)))
    clear hb1
    go_wp2
    exact bodyPost_ret (v := .agg #[.int .i64 0, .int .i64 0, .int .i64 0, .int .i64 0]) (by simp [results, Try.results30, go_sem, F1]) rfl ⟨rfl, by go_grown⟩
  · rw [show moveR ⟨rx, ry, rw_, rh⟩ dx dy = mkR (rlo rx + far_ dx) (rlo ry + far_ dy) (rhi rx rw_ + far_ dx) (rhi ry rh + far_ dy) by unfold moveR okR4; rw [ok1]; rfl]
    have k1 := okB_spec.1 ok1
    have k2 := rlo_bd rx; have k3 := rlo_bd ry; have k4 := rhi_bd rx rw_; have k5 := rhi_bd ry rh; have k6 := far_bd dx; have k7 := far_bd dy
    go_enter Try.func30, Try.ntmps30
    go_wp2_with fail
    refine (rect_ends_any _ _ _ _ _ hrx hry hrw_ hrh).mono ?_
    rw [ok1]
    rintro e w1 ⟨rfl, hb1⟩
    have B1 : Below w.heap.size w w1 := below_via hb1 (below_al (below_al (Below.refl _ _) _) _)
    have S1 := B1.size
    have F1 : w.heap.size < w1.heap.size ∧ w.heap.size + 1 < w1.heap.size ∧ w1.cell? ⟨w.heap.size + 1, 0, none⟩ = some (.int .i64 0) ∧ w1.cell? ⟨w.heap.size + 1, 1, none⟩ = some (.int .i64 0) ∧ w1.cell? ⟨w.heap.size + 1, 2, none⟩ = some (.int .i64 0) ∧ w1.cell? ⟨w.heap.size + 1, 3, none⟩ = some (.int .i64 0) ∧ w1.frozen? ⟨w.heap.size + 1, 0, none⟩ = false ∧ w1.frozen? ⟨w.heap.size + 1, 1, none⟩ = false ∧ w1.frozen? ⟨w.heap.size + 1, 2, none⟩ = false ∧ w1.frozen? ⟨w.heap.size + 1, 3, none⟩ = false := by
      obtain ⟨hc, hf⟩ := bcell hb1
      have hz := hb1.size
      (try simp only [World.size_alloc, World.size_drew, World.size_setCell] at hz)
      (repeat' apply And.intro) <;> (first | omega | (rw [hc _ _ (by first | omega | (simp only [World.size_alloc, World.size_drew, World.size_setCell]; omega))]; first | (simp [go_sem]; done) | (simp [*]; done)) | (rw [hf _ _ (by first | omega | (simp only [World.size_alloc, World.size_drew, World.size_setCell]; omega))]; first | (simp [go_sem]; done) | (simp [*]; done)))
    clear hb1
    go_wp2_with (go_at_call 51; refine (rect_bring_far _ _).mono ?_; rintro e w' ⟨rfl, rfl⟩)
    refine (rect_rect_any _ _ _ _ _).mono ?_
    rintro e w3 ⟨rfl, hb3⟩
    have B3 : Below w.heap.size w w3 := below_via hb3 (below_al B1 _)
    have S3 := B3.size
    have F3 : w.heap.size + 1 < w3.heap.size ∧ w3.cell? ⟨w.heap.size + 1, 0, none⟩ = some (.int .i64 0) ∧ w3.cell? ⟨w.heap.size + 1, 1, none⟩ = some (.int .i64 0) ∧ w3.cell? ⟨w.heap.size + 1, 2, none⟩ = some (.int .i64 0) ∧ w3.cell? ⟨w.heap.size + 1, 3, none⟩ = some (.int .i64 0) ∧ w3.frozen? ⟨w.heap.size + 1, 0, none⟩ = false ∧ w3.frozen? ⟨w.heap.size + 1, 1, none⟩ = false ∧ w3.frozen? ⟨w.heap.size + 1, 2, none⟩ = false ∧ w3.frozen? ⟨w.heap.size + 1, 3, none⟩ = false := by
      obtain ⟨hc, hf⟩ := bcell hb3
      have hz := hb3.size
      (try simp only [World.size_alloc, World.size_drew, World.size_setCell] at hz)
      (repeat' apply And.intro) <;> (first | omega | (rw [hc _ _ (by first | omega | (simp only [World.size_alloc, World.size_drew, World.size_setCell]; omega))]; first | (simp [go_sem, F1]; done) | (simp [*]; done)) | (rw [hf _ _ (by first | omega | (simp only [World.size_alloc, World.size_drew, World.size_setCell]; omega))]; first | (simp [go_sem, F1]; done) | (simp [*]; done)))
    clear hb3 F1
    go_wp2
    exact bodyPost_ret (v := .agg #[.int .i64 (mkR (rlo rx + far_ dx) (rlo ry + far_ dy) (rhi rx rw_ + far_ dx) (rhi ry rh + far_ dy)).x, .int .i64 (mkR (rlo rx + far_ dx) (rlo ry + far_ dy) (rhi rx rw_ + far_ dx) (rhi ry rh + far_ dy)).y, .int .i64 (mkR (rlo rx + far_ dx) (rlo ry + far_ dy) (rhi rx rw_ + far_ dx) (rhi ry rh + far_ dy)).w, .int .i64 (mkR (rlo rx + far_ dx) (rlo ry + far_ dy) (rhi rx rw_ + far_ dx) (rhi ry rh + far_ dy)).h]) (by simp [results, Try.results30, go_sem, F3]) rfl ⟨rfl, by go_grown⟩

set_option maxHeartbeats 8000000 in
theorem rect_Inset_any (rx ry rw_ rh a b c d : Int) (w : World) (hrx : -9223372036854775808 ≤ rx ∧ rx ≤ 9223372036854775807) (hry : -9223372036854775808 ≤ ry ∧ ry ≤ 9223372036854775807) (hrw_ : -9223372036854775808 ≤ rw_ ∧ rw_ ≤ 9223372036854775807) (hrh : -9223372036854775808 ≤ rh ∧ rh ≤ 9223372036854775807) : Calls Try.prog 28 #[.agg #[.int .i64 rx, .int .i64 ry, .int .i64 rw_, .int .i64 rh], .agg #[.int .i64 a, .int .i64 b, .int .i64 c, .int .i64 d]] w fun e w' => e = .returned (.agg #[.int .i64 (insetR ⟨rx, ry, rw_, rh⟩ a b c d).x, .int .i64 (insetR ⟨rx, ry, rw_, rh⟩ a b c d).y, .int .i64 (insetR ⟨rx, ry, rw_, rh⟩ a b c d).w, .int .i64 (insetR ⟨rx, ry, rw_, rh⟩ a b c d).h]) ∧ Below w.heap.size w w' := by
  cases ok1 : okB rx ry rw_ rh
  · rw [show insetR ⟨rx, ry, rw_, rh⟩ a b c d = zR by unfold insetR okR4; rw [ok1]; rfl]
    go_enter Try.func28, Try.ntmps28
    go_wp2_with fail
    refine (rect_ends_any _ _ _ _ _ hrx hry hrw_ hrh).mono ?_
    rw [ok1]
    rintro e w1 ⟨rfl, hb1⟩
    have B1 : Below w.heap.size w w1 := below_via hb1 (below_al (below_al (below_al (Below.refl _ _) _) _) _)
    have S1 := B1.size
    have F1 : w.heap.size < w1.heap.size ∧ w.heap.size + 1 < w1.heap.size ∧ w.heap.size + 2 < w1.heap.size ∧ w1.cell? ⟨w.heap.size + 1, 0, none⟩ = some (.int .i64 a) ∧ w1.cell? ⟨w.heap.size + 1, 1, none⟩ = some (.int .i64 b) ∧ w1.cell? ⟨w.heap.size + 1, 2, none⟩ = some (.int .i64 c) ∧ w1.cell? ⟨w.heap.size + 1, 3, none⟩ = some (.int .i64 d) ∧ w1.cell? ⟨w.heap.size + 2, 0, none⟩ = some (.int .i64 0) ∧ w1.cell? ⟨w.heap.size + 2, 1, none⟩ = some (.int .i64 0) ∧ w1.cell? ⟨w.heap.size + 2, 2, none⟩ = some (.int .i64 0) ∧ w1.cell? ⟨w.heap.size + 2, 3, none⟩ = some (.int .i64 0) ∧ w1.frozen? ⟨w.heap.size + 1, 0, none⟩ = false ∧ w1.frozen? ⟨w.heap.size + 1, 1, none⟩ = false ∧ w1.frozen? ⟨w.heap.size + 1, 2, none⟩ = false ∧ w1.frozen? ⟨w.heap.size + 1, 3, none⟩ = false ∧ w1.frozen? ⟨w.heap.size + 2, 0, none⟩ = false ∧ w1.frozen? ⟨w.heap.size + 2, 1, none⟩ = false ∧ w1.frozen? ⟨w.heap.size + 2, 2, none⟩ = false ∧ w1.frozen? ⟨w.heap.size + 2, 3, none⟩ = false := by
      obtain ⟨hc, hf⟩ := bcell hb1
      have hz := hb1.size
      (try simp only [World.size_alloc, World.size_drew, World.size_setCell] at hz)
      (repeat' apply And.intro) <;> (first | omega | (rw [hc _ _ (by first | omega | (simp only [World.size_alloc, World.size_drew, World.size_setCell]; omega))]; first | (simp [go_sem]; done) | (simp [*]; done)) | (rw [hf _ _ (by first | omega | (simp only [World.size_alloc, World.size_drew, World.size_setCell]; omega))]; first | (simp [go_sem]; done) | (simp [*]; done)))
    clear hb1
    go_wp2
    exact bodyPost_ret (v := .agg #[.int .i64 0, .int .i64 0, .int .i64 0, .int .i64 0]) (by simp [results, Try.results28, go_sem, F1]) rfl ⟨rfl, by go_grown⟩
  · rw [show insetR ⟨rx, ry, rw_, rh⟩ a b c d = mkR (rlo rx + far_ d) (rlo ry + far_ a) (rhi rx rw_ - far_ b) (rhi ry rh - far_ c) by unfold insetR okR4; rw [ok1]; rfl]
    have k1 := okB_spec.1 ok1
    have k2 := rlo_bd rx; have k3 := rlo_bd ry; have k4 := rhi_bd rx rw_; have k5 := rhi_bd ry rh; have k6 := far_bd a; have k7 := far_bd b; have k8 := far_bd c; have k9 := far_bd d
    go_enter Try.func28, Try.ntmps28
    go_wp2_with fail
    refine (rect_ends_any _ _ _ _ _ hrx hry hrw_ hrh).mono ?_
    rw [ok1]
    rintro e w1 ⟨rfl, hb1⟩
    have B1 : Below w.heap.size w w1 := below_via hb1 (below_al (below_al (below_al (Below.refl _ _) _) _) _)
    have S1 := B1.size
    have F1 : w.heap.size < w1.heap.size ∧ w.heap.size + 1 < w1.heap.size ∧ w.heap.size + 2 < w1.heap.size ∧ w1.cell? ⟨w.heap.size + 1, 0, none⟩ = some (.int .i64 a) ∧ w1.cell? ⟨w.heap.size + 1, 1, none⟩ = some (.int .i64 b) ∧ w1.cell? ⟨w.heap.size + 1, 2, none⟩ = some (.int .i64 c) ∧ w1.cell? ⟨w.heap.size + 1, 3, none⟩ = some (.int .i64 d) ∧ w1.cell? ⟨w.heap.size + 2, 0, none⟩ = some (.int .i64 0) ∧ w1.cell? ⟨w.heap.size + 2, 1, none⟩ = some (.int .i64 0) ∧ w1.cell? ⟨w.heap.size + 2, 2, none⟩ = some (.int .i64 0) ∧ w1.cell? ⟨w.heap.size + 2, 3, none⟩ = some (.int .i64 0) ∧ w1.frozen? ⟨w.heap.size + 1, 0, none⟩ = false ∧ w1.frozen? ⟨w.heap.size + 1, 1, none⟩ = false ∧ w1.frozen? ⟨w.heap.size + 1, 2, none⟩ = false ∧ w1.frozen? ⟨w.heap.size + 1, 3, none⟩ = false ∧ w1.frozen? ⟨w.heap.size + 2, 0, none⟩ = false ∧ w1.frozen? ⟨w.heap.size + 2, 1, none⟩ = false ∧ w1.frozen? ⟨w.heap.size + 2, 2, none⟩ = false ∧ w1.frozen? ⟨w.heap.size + 2, 3, none⟩ = false := by
      obtain ⟨hc, hf⟩ := bcell hb1
      have hz := hb1.size
      (try simp only [World.size_alloc, World.size_drew, World.size_setCell] at hz)
      (repeat' apply And.intro) <;> (first | omega | (rw [hc _ _ (by first | omega | (simp only [World.size_alloc, World.size_drew, World.size_setCell]; omega))]; first | (simp [go_sem]; done) | (simp [*]; done)) | (rw [hf _ _ (by first | omega | (simp only [World.size_alloc, World.size_drew, World.size_setCell]; omega))]; first | (simp [go_sem]; done) | (simp [*]; done)))
    clear hb1
    go_wp2_with fail
    refine wp_loop_rounds 5 ?_
    iterate 5 (rw [rounds_succ]; go_wp2_with (go_at_call 51; refine (rect_bring_far _ _).mono ?_; rintro e w' ⟨rfl, rfl⟩))
    refine (rect_rect_any _ _ _ _ _).mono ?_
    rintro e w3 ⟨rfl, hb3⟩
    have B3 : Below w.heap.size w w3 := below_via hb3 (by have S1 := B1.size; go_grown)
    have S3 := B3.size
    have F3 : w.heap.size + 2 < w3.heap.size ∧ w3.cell? ⟨w.heap.size + 2, 0, none⟩ = some (.int .i64 0) ∧ w3.cell? ⟨w.heap.size + 2, 1, none⟩ = some (.int .i64 0) ∧ w3.cell? ⟨w.heap.size + 2, 2, none⟩ = some (.int .i64 0) ∧ w3.cell? ⟨w.heap.size + 2, 3, none⟩ = some (.int .i64 0) ∧ w3.frozen? ⟨w.heap.size + 2, 0, none⟩ = false ∧ w3.frozen? ⟨w.heap.size + 2, 1, none⟩ = false ∧ w3.frozen? ⟨w.heap.size + 2, 2, none⟩ = false ∧ w3.frozen? ⟨w.heap.size + 2, 3, none⟩ = false := by
      obtain ⟨hc, hf⟩ := bcell hb3
      have hz := hb3.size
      (try simp only [World.size_alloc, World.size_drew, World.size_setCell] at hz)
      (repeat' apply And.intro) <;> (first | omega | (rw [hc _ _ (by first | omega | (simp only [World.size_alloc, World.size_drew, World.size_setCell]; omega))]; first | (simp [go_sem, F1]; done) | (simp [*]; done)) | (rw [hf _ _ (by first | omega | (simp only [World.size_alloc, World.size_drew, World.size_setCell]; omega))]; first | (simp [go_sem, F1]; done) | (simp [*]; done)))
    clear hb3 F1
    go_wp2
    exact bodyPost_ret (v := .agg #[.int .i64 (mkR (rlo rx + far_ d) (rlo ry + far_ a) (rhi rx rw_ - far_ b) (rhi ry rh - far_ c)).x, .int .i64 (mkR (rlo rx + far_ d) (rlo ry + far_ a) (rhi rx rw_ - far_ b) (rhi ry rh - far_ c)).y, .int .i64 (mkR (rlo rx + far_ d) (rlo ry + far_ a) (rhi rx rw_ - far_ b) (rhi ry rh - far_ c)).w, .int .i64 (mkR (rlo rx + far_ d) (rlo ry + far_ a) (rhi rx rw_ - far_ b) (rhi ry rh - far_ c)).h]) (by simp [results, Try.results28, go_sem, F3]) rfl ⟨rfl, by go_grown⟩
end Go.Proofs.Ytekcheccelllcaa
