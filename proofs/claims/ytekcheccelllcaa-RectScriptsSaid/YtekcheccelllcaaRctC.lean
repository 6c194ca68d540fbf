/- Contracts of rect.Empty, Meet, Move, Inset. -/
import Derived.Test.YtekcheccelllcaaRctB
namespace Go.Proofs.Ytekcheccelllcaa
open Go.RowKit
set_option linter.unusedVariables false
set_option linter.unusedSimpArgs false
attribute [local go_sem ↓] Go.wp_at_zero Go.wp_at_succ

set_option maxHeartbeats 4000000 in
theorem rect_Empty_any (rx ry rw rh : Int) (w : World) (hrx : -9223372036854775808 ≤ rx ∧ rx ≤ 9223372036854775807) (hry : -9223372036854775808 ≤ ry ∧ ry ≤ 9223372036854775807) (hrw : -9223372036854775808 ≤ rw ∧ rw ≤ 9223372036854775807) (hrh : -9223372036854775808 ≤ rh ∧ rh ≤ 9223372036854775807) : Calls Try.prog 25 #[.agg #[.int .i64 rx, .int .i64 ry, .int .i64 rw, .int .i64 rh]] w fun e w' => e = .returned (.bool (!okB rx ry rw rh)) ∧ Below w.heap.size w w' := by
  cases ok : okB rx ry rw rh
  all_goals
    go_enter Try.func25, Try.ntmps25
    go_wp2_with fail
    refine (rect_ends_any _ _ _ _ _ hrx hry hrw hrh).mono ?_
    rw [ok]
    rintro e w1 ⟨rfl, hb⟩
    have B1 := below_via hb (below_al (Below.refl w.heap.size w) _)
    have S1 := B1.size
    go_wp2
    go_ret
    exact ⟨rfl, by go_grown⟩

theorem meet_ok {r s : R4} (h1 : okR4 r = true) (h2 : okR4 s = true) : meetR r s = mkR (max (rlo r.x) (rlo s.x)) (max (rlo r.y) (rlo s.y)) (min (rhi r.x r.w) (rhi s.x s.w)) (min (rhi r.y r.h) (rhi s.y s.h)) := by
  unfold meetR; rw [h1, h2]; rfl
theorem meet_no {r s : R4} (h : okR4 r = false ∨ okR4 s = false) : meetR r s = zR := by
  unfold meetR; rcases h with h | h <;> rw [h] <;> simp

set_option maxHeartbeats 4000000 in
theorem rect_Meet_any (ax ay aw ah bx b2 bw bh : Int) (w : World) (hax : -9223372036854775808 ≤ ax ∧ ax ≤ 9223372036854775807) (hay : -9223372036854775808 ≤ ay ∧ ay ≤ 9223372036854775807) (haw : -9223372036854775808 ≤ aw ∧ aw ≤ 9223372036854775807) (hah : -9223372036854775808 ≤ ah ∧ ah ≤ 9223372036854775807) (hbx : -9223372036854775808 ≤ bx ∧ bx ≤ 9223372036854775807) (hb2_ : -9223372036854775808 ≤ b2 ∧ b2 ≤ 9223372036854775807) (hbw : -9223372036854775808 ≤ bw ∧ bw ≤ 9223372036854775807) (hbh : -9223372036854775808 ≤ bh ∧ bh ≤ 9223372036854775807) : Calls Try.prog 24 #[.agg #[.int .i64 ax, .int .i64 ay, .int .i64 aw, .int .i64 ah], .agg #[.int .i64 bx, .int .i64 b2, .int .i64 bw, .int .i64 bh]] w fun e w' => e = .returned (.agg #[.int .i64 (meetR ⟨ax, ay, aw, ah⟩ ⟨bx, b2, bw, bh⟩).x, .int .i64 (meetR ⟨ax, ay, aw, ah⟩ ⟨bx, b2, bw, bh⟩).y, .int .i64 (meetR ⟨ax, ay, aw, ah⟩ ⟨bx, b2, bw, bh⟩).w, .int .i64 (meetR ⟨ax, ay, aw, ah⟩ ⟨bx, b2, bw, bh⟩).h]) ∧ Below w.heap.size w w' := by
  cases ok1 : okB ax ay aw ah
  · rw [meet_no (.inl (show okR4 ⟨ax, ay, aw, ah⟩ = false from ok1))]
    cases ok2 : okB bx b2 bw bh
    all_goals
      go_enter Try.func24, Try.ntmps24
      go_wp2_with fail
      refine (rect_ends_any _ _ _ _ _ hax hay haw hah).mono ?_
      rw [ok1]
      rintro e w1 ⟨rfl, hb1⟩
      have B1 : Below w.heap.size w w1 := below_via hb1 (below_al (below_al (below_al (Below.refl _ _) _) _) _)
      have S1 := B1.size
      have F1 : w.heap.size < w1.heap.size ∧ w.heap.size + 1 < w1.heap.size ∧ w.heap.size + 2 < w1.heap.size ∧ w1.cell? ⟨w.heap.size + 1, 0, none⟩ = some (.int .i64 bx) ∧ w1.cell? ⟨w.heap.size + 1, 1, none⟩ = some (.int .i64 b2) ∧ w1.cell? ⟨w.heap.size + 1, 2, none⟩ = some (.int .i64 bw) ∧ w1.cell? ⟨w.heap.size + 1, 3, none⟩ = some (.int .i64 bh) ∧ w1.cell? ⟨w.heap.size + 2, 0, none⟩ = some (.int .i64 0) ∧ w1.cell? ⟨w.heap.size + 2, 1, none⟩ = some (.int .i64 0) ∧ w1.cell? ⟨w.heap.size + 2, 2, none⟩ = some (.int .i64 0) ∧ w1.cell? ⟨w.heap.size + 2, 3, none⟩ = some (.int .i64 0) ∧ w1.frozen? ⟨w.heap.size + 2, 0, none⟩ = false ∧ w1.frozen? ⟨w.heap.size + 2, 1, none⟩ = false ∧ w1.frozen? ⟨w.heap.size + 2, 2, none⟩ = false ∧ w1.frozen? ⟨w.heap.size + 2, 3, none⟩ = false := by
        obtain ⟨hc, hf⟩ := bcell hb1
        have hz := hb1.size
        (try simp only [World.size_alloc, World.size_drew, World.size_setCell] at hz)
        (repeat' apply And.intro) <;> (first | omega | (rw [hc _ _ (by first | omega | (simp only [World.size_alloc, World.size_drew, World.size_setCell]; omega))]; first | (simp [go_sem]; done) | (simp [*]; done)) | (rw [hf _ _ (by first | omega | (simp only [World.size_alloc, World.size_drew, World.size_setCell]; omega))]; first | (simp [go_sem]; done) | (simp [*]; done)))
      clear hb1
      go_wp2_with fail
      refine (rect_ends_any _ _ _ _ _ hbx hb2_ hbw hbh).mono ?_
      rw [ok2]
      rintro e w2 ⟨rfl, hb2⟩
      have B2 : Below w.heap.size w w2 := below_via hb2 (below_al B1 _)
      have S2 := B2.size
      have F2 : w.heap.size < w2.heap.size ∧ w.heap.size + 1 < w2.heap.size ∧ w.heap.size + 2 < w2.heap.size ∧ w1.heap.size < w2.heap.size ∧ w2.cell? ⟨w.heap.size + 2, 0, none⟩ = some (.int .i64 0) ∧ w2.cell? ⟨w.heap.size + 2, 1, none⟩ = some (.int .i64 0) ∧ w2.cell? ⟨w.heap.size + 2, 2, none⟩ = some (.int .i64 0) ∧ w2.cell? ⟨w.heap.size + 2, 3, none⟩ = some (.int .i64 0) ∧ w2.cell? ⟨w1.heap.size, 0, none⟩ = some (.int .i64 (rlo ax)) ∧ w2.cell? ⟨w1.heap.size, 1, none⟩ = some (.int .i64 (rlo ay)) ∧ w2.cell? ⟨w1.heap.size, 2, none⟩ = some (.int .i64 (rhi ax aw)) ∧ w2.cell? ⟨w1.heap.size, 3, none⟩ = some (.int .i64 (rhi ay ah)) ∧ w2.frozen? ⟨w.heap.size + 2, 0, none⟩ = false ∧ w2.frozen? ⟨w.heap.size + 2, 1, none⟩ = false ∧ w2.frozen? ⟨w.heap.size + 2, 2, none⟩ = false ∧ w2.frozen? ⟨w.heap.size + 2, 3, none⟩ = false := by
        obtain ⟨hc, hf⟩ := bcell hb2
        have hz := hb2.size
        (try simp only [World.size_alloc, World.size_drew, World.size_setCell] at hz)
        (repeat' apply And.intro) <;> (first | omega | (rw [hc _ _ (by first | omega | (simp only [World.size_alloc, World.size_drew, World.size_setCell]; omega))]; first | (simp [go_sem, F1]; done) | (simp [*]; done)) | (rw [hf _ _ (by first | omega | (simp only [World.size_alloc, World.size_drew, World.size_setCell]; omega))]; first | (simp [go_sem, F1]; done) | (simp [*]; done)))
      clear hb2 F1
      go_wp2
      exact bodyPost_ret (v := .agg #[.int .i64 0, .int .i64 0, .int .i64 0, .int .i64 0]) (by simp [results, Try.results24, go_sem, F2]) rfl ⟨rfl, by go_grown⟩
  · cases ok2 : okB bx b2 bw bh
    · rw [meet_no (.inr (show okR4 ⟨bx, b2, bw, bh⟩ = false from ok2))]
      go_enter Try.func24, Try.ntmps24
      go_wp2_with fail
      refine (rect_ends_any _ _ _ _ _ hax hay haw hah).mono ?_
      rw [ok1]
      rintro e w1 ⟨rfl, hb1⟩
      have B1 : Below w.heap.size w w1 := below_via hb1 (below_al (below_al (below_al (Below.refl _ _) _) _) _)
      have S1 := B1.size
      have F1 : w.heap.size < w1.heap.size ∧ w.heap.size + 1 < w1.heap.size ∧ w.heap.size + 2 < w1.heap.size ∧ w1.cell? ⟨w.heap.size + 1, 0, none⟩ = some (.int .i64 bx) ∧ w1.cell? ⟨w.heap.size + 1, 1, none⟩ = some (.int .i64 b2) ∧ w1.cell? ⟨w.heap.size + 1, 2, none⟩ = some (.int .i64 bw) ∧ w1.cell? ⟨w.heap.size + 1, 3, none⟩ = some (.int .i64 bh) ∧ w1.cell? ⟨w.heap.size + 2, 0, none⟩ = some (.int .i64 0) ∧ w1.cell? ⟨w.heap.size + 2, 1, none⟩ = some (.int .i64 0) ∧ w1.cell? ⟨w.heap.size + 2, 2, none⟩ = some (.int .i64 0) ∧ w1.cell? ⟨w.heap.size + 2, 3, none⟩ = some (.int .i64 0) ∧ w1.frozen? ⟨w.heap.size + 2, 0, none⟩ = false ∧ w1.frozen? ⟨w.heap.size + 2, 1, none⟩ = false ∧ w1.frozen? ⟨w.heap.size + 2, 2, none⟩ = false ∧ w1.frozen? ⟨w.heap.size + 2, 3, none⟩ = false := by
        obtain ⟨hc, hf⟩ := bcell hb1
        have hz := hb1.size
        (try simp only [World.size_alloc, World.size_drew, World.size_setCell] at hz)
        (repeat' apply And.intro) <;> (first | omega | (rw [hc _ _ (by first | omega | (simp only [World.size_alloc, World.size_drew, World.size_setCell]; omega))]; first | (simp [go_sem]; done) | (simp [*]; done)) | (rw [hf _ _ (by first | omega | (simp only [World.size_alloc, World.size_drew, World.size_setCell]; omega))]; first | (simp [go_sem]; done) | (simp [*]; done)))
      clear hb1
      go_wp2_with fail
      refine (rect_ends_any _ _ _ _ _ hbx hb2_ hbw hbh).mono ?_
      rw [ok2]
      rintro e w2 ⟨rfl, hb2⟩
      have B2 : Below w.heap.size w w2 := below_via hb2 (below_al B1 _)
      have S2 := B2.size
      have F2 : w.heap.size < w2.heap.size ∧ w.heap.size + 1 < w2.heap.size ∧ w.heap.size + 2 < w2.heap.size ∧ w1.heap.size < w2.heap.size ∧ w2.cell? ⟨w.heap.size + 2, 0, none⟩ = some (.int .i64 0) ∧ w2.cell? ⟨w.heap.size + 2, 1, none⟩ = some (.int .i64 0) ∧ w2.cell? ⟨w.heap.size + 2, 2, none⟩ = some (.int .i64 0) ∧ w2.cell? ⟨w.heap.size + 2, 3, none⟩ = some (.int .i64 0) ∧ w2.cell? ⟨w1.heap.size, 0, none⟩ = some (.int .i64 (rlo ax)) ∧ w2.cell? ⟨w1.heap.size, 1, none⟩ = some (.int .i64 (rlo ay)) ∧ w2.cell? ⟨w1.heap.size, 2, none⟩ = some (.int .i64 (rhi ax aw)) ∧ w2.cell? ⟨w1.heap.size, 3, none⟩ = some (.int .i64 (rhi ay ah)) ∧ w2.frozen? ⟨w.heap.size + 2, 0, none⟩ = false ∧ w2.frozen? ⟨w.heap.size + 2, 1, none⟩ = false ∧ w2.frozen? ⟨w.heap.size + 2, 2, none⟩ = false ∧ w2.frozen? ⟨w.heap.size + 2, 3, none⟩ = false := by
        obtain ⟨hc, hf⟩ := bcell hb2
        have hz := hb2.size
        (try simp only [World.size_alloc, World.size_drew, World.size_setCell] at hz)
        (repeat' apply And.intro) <;> (first | omega | (rw [hc _ _ (by first | omega | (simp only [World.size_alloc, World.size_drew, World.size_setCell]; omega))]; first | (simp [go_sem, F1]; done) | (simp [*]; done)) | (rw [hf _ _ (by first | omega | (simp only [World.size_alloc, World.size_drew, World.size_setCell]; omega))]; first | (simp [go_sem, F1]; done) | (simp [*]; done)))
      clear hb2 F1
      go_wp2
      exact bodyPost_ret (v := .agg #[.int .i64 0, .int .i64 0, .int .i64 0, .int .i64 0]) (by simp [results, Try.results24, go_sem, F2]) rfl ⟨rfl, by go_grown⟩
    · rw [meet_ok (show okR4 ⟨ax, ay, aw, ah⟩ = true from ok1) (show okR4 ⟨bx, b2, bw, bh⟩ = true from ok2)]
      go_enter Try.func24, Try.ntmps24
      go_wp2_with fail
      refine (rect_ends_any _ _ _ _ _ hax hay haw hah).mono ?_
      rw [ok1]
      rintro e w1 ⟨rfl, hb1⟩
      have B1 : Below w.heap.size w w1 := below_via hb1 (below_al (below_al (below_al (Below.refl _ _) _) _) _)
      have S1 := B1.size
      have F1 : w.heap.size < w1.heap.size ∧ w.heap.size + 1 < w1.heap.size ∧ w.heap.size + 2 < w1.heap.size ∧ w1.cell? ⟨w.heap.size + 1, 0, none⟩ = some (.int .i64 bx) ∧ w1.cell? ⟨w.heap.size + 1, 1, none⟩ = some (.int .i64 b2) ∧ w1.cell? ⟨w.heap.size + 1, 2, none⟩ = some (.int .i64 bw) ∧ w1.cell? ⟨w.heap.size + 1, 3, none⟩ = some (.int .i64 bh) ∧ w1.cell? ⟨w.heap.size + 2, 0, none⟩ = some (.int .i64 0) ∧ w1.cell? ⟨w.heap.size + 2, 1, none⟩ = some (.int .i64 0) ∧ w1.cell? ⟨w.heap.size + 2, 2, none⟩ = some (.int .i64 0) ∧ w1.cell? ⟨w.heap.size + 2, 3, none⟩ = some (.int .i64 0) ∧ w1.frozen? ⟨w.heap.size + 2, 0, none⟩ = false ∧ w1.frozen? ⟨w.heap.size + 2, 1, none⟩ = false ∧ w1.frozen? ⟨w.heap.size + 2, 2, none⟩ = false ∧ w1.frozen? ⟨w.heap.size + 2, 3, none⟩ = false := by
        obtain ⟨hc, hf⟩ := bcell hb1
        have hz := hb1.size
        (try simp only [World.size_alloc, World.size_drew, World.size_setCell] at hz)
        (repeat' apply And.intro) <;> (first | omega | (rw [hc _ _ (by first | omega | (simp only [World.size_alloc, World.size_drew, World.size_setCell]; omega))]; first | (simp [go_sem]; done) | (simp [*]; done)) | (rw [hf _ _ (by first | omega | (simp only [World.size_alloc, World.size_drew, World.size_setCell]; omega))]; first | (simp [go_sem]; done) | (simp [*]; done)))
      clear hb1
      go_wp2_with fail
      refine (rect_ends_any _ _ _ _ _ hbx hb2_ hbw hbh).mono ?_
      rw [ok2]
      rintro e w2 ⟨rfl, hb2⟩
      have B2 : Below w.heap.size w w2 := below_via hb2 (below_al B1 _)
      have S2 := B2.size
      have F2 : w.heap.size < w2.heap.size ∧ w.heap.size + 1 < w2.heap.size ∧ w.heap.size + 2 < w2.heap.size ∧ w1.heap.size < w2.heap.size ∧ w2.cell? ⟨w.heap.size + 2, 0, none⟩ = some (.int .i64 0) ∧ w2.cell? ⟨w.heap.size + 2, 1, none⟩ = some (.int .i64 0) ∧ w2.cell? ⟨w.heap.size + 2, 2, none⟩ = some (.int .i64 0) ∧ w2.cell? ⟨w.heap.size + 2, 3, none⟩ = some (.int .i64 0) ∧ w2.cell? ⟨w1.heap.size, 0, none⟩ = some (.int .i64 (rlo ax)) ∧ w2.cell? ⟨w1.heap.size, 1, none⟩ = some (.int .i64 (rlo ay)) ∧ w2.cell? ⟨w1.heap.size, 2, none⟩ = some (.int .i64 (rhi ax aw)) ∧ w2.cell? ⟨w1.heap.size, 3, none⟩ = some (.int .i64 (rhi ay ah)) ∧ w2.frozen? ⟨w.heap.size + 2, 0, none⟩ = false ∧ w2.frozen? ⟨w.heap.size + 2, 1, none⟩ = false ∧ w2.frozen? ⟨w.heap.size + 2, 2, none⟩ = false ∧ w2.frozen? ⟨w.heap.size + 2, 3, none⟩ = false := by
        obtain ⟨hc, hf⟩ := bcell hb2
        have hz := hb2.size
        (try simp only [World.size_alloc, World.size_drew, World.size_setCell] at hz)
        (repeat' apply And.intro) <;> (first | omega | (rw [hc _ _ (by first | omega | (simp only [World.size_alloc, World.size_drew, World.size_setCell]; omega))]; first | (simp [go_sem, F1]; done) | (simp [*]; done)) | (rw [hf _ _ (by first | omega | (simp only [World.size_alloc, World.size_drew, World.size_setCell]; omega))]; first | (simp [go_sem, F1]; done) | (simp [*]; done)))
      clear hb2 F1
      have F2' := F2
      obtain ⟨G0, G1, G2, G3, G⟩ := F2'
      go_wp2_with fail
      refine (rect_rect_any _ _ _ _ _).mono ?_
      rintro e w3 ⟨rfl, hb3⟩
      have B3 : Below w.heap.size w w3 := below_via hb3 (below_al B2 _)
      have S3 := B3.size
      have F3 : w.heap.size + 2 < w3.heap.size ∧ w3.cell? ⟨w.heap.size + 2, 0, none⟩ = some (.int .i64 0) ∧ w3.cell? ⟨w.heap.size + 2, 1, none⟩ = some (.int .i64 0) ∧ w3.cell? ⟨w.heap.size + 2, 2, none⟩ = some (.int .i64 0) ∧ w3.cell? ⟨w.heap.size + 2, 3, none⟩ = some (.int .i64 0) ∧ w3.frozen? ⟨w.heap.size + 2, 0, none⟩ = false ∧ w3.frozen? ⟨w.heap.size + 2, 1, none⟩ = false ∧ w3.frozen? ⟨w.heap.size + 2, 2, none⟩ = false ∧ w3.frozen? ⟨w.heap.size + 2, 3, none⟩ = false := by
        obtain ⟨hc, hf⟩ := bcell hb3
        have hz := hb3.size
        (try simp only [World.size_alloc, World.size_drew, World.size_setCell] at hz)
        (repeat' apply And.intro) <;> (first | omega | (rw [hc _ _ (by first | omega | (simp only [World.size_alloc, World.size_drew, World.size_setCell]; omega))]; first | (simp [go_sem, F2]; done) | (simp [*]; done)) | (rw [hf _ _ (by first | omega | (simp only [World.size_alloc, World.size_drew, World.size_setCell]; omega))]; first | (simp [go_sem, F2]; done) | (simp [*]; done)))
      clear hb3 F2 G
      go_wp2
      exact bodyPost_ret (v := .agg #[.int .i64 (mkR (max (rlo ax) (rlo bx)) (max (rlo ay) (rlo b2)) (min (rhi ax aw) (rhi bx bw)) (min (rhi ay ah) (rhi b2 bh))).x, .int .i64 (mkR (max (rlo ax) (rlo bx)) (max (rlo ay) (rlo b2)) (min (rhi ax aw) (rhi bx bw)) (min (rhi ay ah) (rhi b2 bh))).y, .int .i64 (mkR (max (rlo ax) (rlo bx)) (max (rlo ay) (rlo b2)) (min (rhi ax aw) (rhi bx bw)) (min (rhi ay ah) (rhi b2 bh))).w, .int .i64 (mkR (max (rlo ax) (rlo bx)) (max (rlo ay) (rlo b2)) (min (rhi ax aw) (rhi bx bw)) (min (rhi ay ah) (rhi b2 bh))).h]) (by simp [results, Try.results24, go_sem, F3]) rfl ⟨rfl, by go_grown⟩
end Go.Proofs.Ytekcheccelllcaa
