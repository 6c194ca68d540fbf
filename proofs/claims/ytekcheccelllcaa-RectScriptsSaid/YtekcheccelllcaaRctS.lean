/- Contracts of the reference: off, back, Meet, Move, Inset; the walks of RectNames and RectForms. -/
import Derived.Test.YtekcheccelllcaaRctW
namespace Go.Proofs.Ytekcheccelllcaa
open Go.RowKit
set_option linter.unusedVariables false
set_option linter.unusedSimpArgs false
attribute [local go_sem ↓] Go.wp_at_zero Go.wp_at_succ

def offF (a b : Int) : Int := a + max (-4194304) (min b 4194304)
def backF (a b : Int) : Int := a - max (-4194304) (min b 4194304)
set_option maxHeartbeats 400000 in
theorem ref_off_any (a b : Int) (w : World) (ha : -1048576 ≤ a ∧ a ≤ 1048576) : Calls Try.prog 52 #[.int .i64 a, .int .i64 b] w fun e w' => e = .returned (.int .i64 (offF a b)) ∧ w = w' := by
  go_enter Try.func52, Try.ntmps52
  go_wp2
  go_ret
  exact ⟨ret_int (by unfold offF; omega), rfl⟩
set_option maxHeartbeats 400000 in
theorem ref_back_any (a b : Int) (w : World) (ha : -1048576 ≤ a ∧ a ≤ 1048576) : Calls Try.prog 53 #[.int .i64 a, .int .i64 b] w fun e w' => e = .returned (.int .i64 (backF a b)) ∧ w = w' := by
  go_enter Try.func53, Try.ntmps53
  go_wp2
  go_ret
  exact ⟨ret_int (by unfold backF; omega), rfl⟩

set_option maxHeartbeats 4000000 in
theorem ref_Meet_any (ax ay aw ah bx b2 bw bh : Int) (w : World) (hax : -9223372036854775808 ≤ ax ∧ ax ≤ 9223372036854775807) (hay : -9223372036854775808 ≤ ay ∧ ay ≤ 9223372036854775807) (haw : -9223372036854775808 ≤ aw ∧ aw ≤ 9223372036854775807) (hah : -9223372036854775808 ≤ ah ∧ ah ≤ 9223372036854775807) (hbx : -9223372036854775808 ≤ bx ∧ bx ≤ 9223372036854775807) (hb2 : -9223372036854775808 ≤ b2 ∧ b2 ≤ 9223372036854775807) (hbw : -9223372036854775808 ≤ bw ∧ bw ≤ 9223372036854775807) (hbh : -9223372036854775808 ≤ bh ∧ bh ≤ 9223372036854775807) : Calls Try.prog 27 #[.agg #[.int .i64 ax, .int .i64 ay, .int .i64 aw, .int .i64 ah], .agg #[.int .i64 bx, .int .i64 b2, .int .i64 bw, .int .i64 bh]] w fun e w' => e = .returned (.agg #[.int .i64 (meetR ⟨ax, ay, aw, ah⟩ ⟨bx, b2, bw, bh⟩).x, .int .i64 (meetR ⟨ax, ay, aw, ah⟩ ⟨bx, b2, bw, bh⟩).y, .int .i64 (meetR ⟨ax, ay, aw, ah⟩ ⟨bx, b2, bw, bh⟩).w, .int .i64 (meetR ⟨ax, ay, aw, ah⟩ ⟨bx, b2, bw, bh⟩).h]) ∧ Below w.heap.size w w' := by
  cases ok1 : okB ax ay aw ah
  · rw [meet_no (.inl (show okR4 ⟨ax, ay, aw, ah⟩ = false from ok1))]
    cases ok2 : okB bx b2 bw bh
    all_goals
      go_enter Try.func27, Try.ntmps27
      go_wp2_with fail
      refine (ref_Ends_any _ _ _ _ _ hax hay haw hah).mono ?_
      rw [ok_same, ok1]
      rintro e w1 ⟨rfl, hb1⟩
      have B1 : Below w.heap.size w w1 := below_via hb1 (below_al (below_al (below_al (Below.refl _ _) _) _) _)
      have S1 := B1.size
      have F1 : w.heap.size < w1.heap.size ∧ w.heap.size + 1 < w1.heap.size ∧ w.heap.size + 2 < w1.heap.size ∧ w1.cell? ⟨w.heap.size + 1, 0, none⟩ = some (.int .i64 bx) ∧ w1.cell? ⟨w.heap.size + 1, 1, none⟩ = some (.int .i64 b2) ∧ w1.cell? ⟨w.heap.size + 1, 2, none⟩ = some (.int .i64 bw) ∧ w1.cell? ⟨w.heap.size + 1, 3, none⟩ = some (.int .i64 bh) ∧ w1.cell? ⟨w.heap.size + 2, 0, none⟩ = some (.int .i64 0) ∧ w1.cell? ⟨w.heap.size + 2, 1, none⟩ = some (.int .i64 0) ∧ w1.cell? ⟨w.heap.size + 2, 2, none⟩ = some (.int .i64 0) ∧ w1.cell? ⟨w.heap.size + 2, 3, none⟩ = some (.int .i64 0) ∧ w1.frozen? ⟨w.heap.size + 2, 0, none⟩ = false ∧ w1.frozen? ⟨w.heap.size + 2, 1, none⟩ = false ∧ w1.frozen? ⟨w.heap.size + 2, 2, none⟩ = false ∧ w1.frozen? ⟨w.heap.size + 2, 3, none⟩ = false := by
        obtain ⟨hc, hf⟩ := bcell hb1
        have hz := hb1.size
        (try simp only [World.size_alloc, World.size_drew, World.size_setCell] at hz)
        (repeat' apply And.intro) <;> (first | omega | (rw [hc _ _ (by first | omega | (simp only [World.size_alloc, World.size_drew, World.size_setCell]; omega))]; first | (simp [go_sem]; done) | (simp [*]; done)) | (rw [hf _ _ (by first | omega | (simp only [World.size_alloc, World.size_drew, World.size_setCell]; omega))]; first | (simp [go_sem]; done) | (simp [*]; done)))
      clear hb1
      go_wp2_with fail
      refine (ref_Ends_any _ _ _ _ _ hbx hb2 hbw hbh).mono ?_
      rw [ok_same, ok2]
      rintro e w2 ⟨rfl, hb2⟩
      have B2 : Below w.heap.size w w2 := below_via hb2 B1
      have S2 := B2.size
      have F2 : w.heap.size < w2.heap.size ∧ w.heap.size + 1 < w2.heap.size ∧ w.heap.size + 2 < w2.heap.size ∧ w2.cell? ⟨w.heap.size + 2, 0, none⟩ = some (.int .i64 0) ∧ w2.cell? ⟨w.heap.size + 2, 1, none⟩ = some (.int .i64 0) ∧ w2.cell? ⟨w.heap.size + 2, 2, none⟩ = some (.int .i64 0) ∧ w2.cell? ⟨w.heap.size + 2, 3, none⟩ = some (.int .i64 0) ∧ w2.frozen? ⟨w.heap.size + 2, 0, none⟩ = false ∧ w2.frozen? ⟨w.heap.size + 2, 1, none⟩ = false ∧ w2.frozen? ⟨w.heap.size + 2, 2, none⟩ = false ∧ w2.frozen? ⟨w.heap.size + 2, 3, none⟩ = false := by
        obtain ⟨hc, hf⟩ := bcell hb2
        have hz := hb2.size
        (try simp only [World.size_alloc, World.size_drew, World.size_setCell] at hz)
        (repeat' apply And.intro) <;> (first | omega | (rw [hc _ _ (by first | omega | (simp only [World.size_alloc, World.size_drew, World.size_setCell]; omega))]; first | (simp [go_sem, F1]; done) | (simp [*]; done)) | (rw [hf _ _ (by first | omega | (simp only [World.size_alloc, World.size_drew, World.size_setCell]; omega))]; first | (simp [go_sem, F1]; done) | (simp [*]; done)))
      clear hb2 F1
      go_wp2
      exact bodyPost_ret (v := .agg #[.int .i64 0, .int .i64 0, .int .i64 0, .int .i64 0]) (by simp [results, Try.results27, go_sem, F2]) rfl ⟨rfl, by go_grown⟩
  · cases ok2 : okB bx b2 bw bh
    · rw [meet_no (.inr (show okR4 ⟨bx, b2, bw, bh⟩ = false from ok2))]
      go_enter Try.func27, Try.ntmps27
      go_wp2_with fail
      refine (ref_Ends_any _ _ _ _ _ hax hay haw hah).mono ?_
      rw [ok_same, ok1]
      rintro e w1 ⟨rfl, hb1⟩
      have B1 : Below w.heap.size w w1 := below_via hb1 (below_al (below_al (below_al (Below.refl _ _) _) _) _)
      have S1 := B1.size
      have F1 : w.heap.size < w1.heap.size ∧ w.heap.size + 1 < w1.heap.size ∧ w.heap.size + 2 < w1.heap.size ∧ w1.cell? ⟨w.heap.size + 1, 0, none⟩ = some (.int .i64 bx) ∧ w1.cell? ⟨w.heap.size + 1, 1, none⟩ = some (.int .i64 b2) ∧ w1.cell? ⟨w.heap.size + 1, 2, none⟩ = some (.int .i64 bw) ∧ w1.cell? ⟨w.heap.size + 1, 3, none⟩ = some (.int .i64 bh) ∧ w1.cell? ⟨w.heap.size + 2, 0, none⟩ = some (.int .i64 0) ∧ w1.cell? ⟨w.heap.size + 2, 1, none⟩ = some (.int .i64 0) ∧ w1.cell? ⟨w.heap.size + 2, 2, none⟩ = some (.int .i64 0) ∧ w1.cell? ⟨w.heap.size + 2, 3, none⟩ = some (.int .i64 0) ∧ w1.frozen? ⟨w.heap.size + 2, 0, none⟩ = false ∧ w1.frozen? ⟨w.heap.size + 2, 1, none⟩ = false ∧ w1.frozen? ⟨w.heap.size + 2, 2, none⟩ = false ∧ w1.frozen? ⟨w.heap.size + 2, 3, none⟩ = false := by
        obtain ⟨hc, hf⟩ := bcell hb1
        have hz := hb1.size
        (try simp only [World.size_alloc, World.size_drew, World.size_setCell] at hz)
        (repeat' apply And.intro) <;> (first | omega | (rw [hc _ _ (by first | omega | (simp only [World.size_alloc, World.size_drew, World.size_setCell]; omega))]; first | (simp [go_sem]; done) | (simp [*]; done)) | (rw [hf _ _ (by first | omega | (simp only [World.size_alloc, World.size_drew, World.size_setCell]; omega))]; first | (simp [go_sem]; done) | (simp [*]; done)))
      clear hb1
      go_wp2_with fail
      refine (ref_Ends_any _ _ _ _ _ hbx hb2 hbw hbh).mono ?_
      rw [ok_same, ok2]
      rintro e w2 ⟨rfl, hb2⟩
      have B2 : Below w.heap.size w w2 := below_via hb2 B1
      have S2 := B2.size
      have F2 : w.heap.size < w2.heap.size ∧ w.heap.size + 1 < w2.heap.size ∧ w.heap.size + 2 < w2.heap.size ∧ w2.cell? ⟨w.heap.size + 2, 0, none⟩ = some (.int .i64 0) ∧ w2.cell? ⟨w.heap.size + 2, 1, none⟩ = some (.int .i64 0) ∧ w2.cell? ⟨w.heap.size + 2, 2, none⟩ = some (.int .i64 0) ∧ w2.cell? ⟨w.heap.size + 2, 3, none⟩ = some (.int .i64 0) ∧ w2.frozen? ⟨w.heap.size + 2, 0, none⟩ = false ∧ w2.frozen? ⟨w.heap.size + 2, 1, none⟩ = false ∧ w2.frozen? ⟨w.heap.size + 2, 2, none⟩ = false ∧ w2.frozen? ⟨w.heap.size + 2, 3, none⟩ = false := by
        obtain ⟨hc, hf⟩ := bcell hb2
        have hz := hb2.size
        (try simp only [World.size_alloc, World.size_drew, World.size_setCell] at hz)
        (repeat' apply And.intro) <;> (first | omega | (rw [hc _ _ (by first | omega | (simp only [World.size_alloc, World.size_drew, World.size_setCell]; omega))]; first | (simp [go_sem, F1]; done) | (simp [*]; done)) | (rw [hf _ _ (by first | omega | (simp only [World.size_alloc, World.size_drew, World.size_setCell]; omega))]; first | (simp [go_sem, F1]; done) | (simp [*]; done)))
      clear hb2 F1
      go_wp2
      exact bodyPost_ret (v := .agg #[.int .i64 0, .int .i64 0, .int .i64 0, .int .i64 0]) (by simp [results, Try.results27, go_sem, F2]) rfl ⟨rfl, by go_grown⟩
    · rw [meet_ok (show okR4 ⟨ax, ay, aw, ah⟩ = true from ok1) (show okR4 ⟨bx, b2, bw, bh⟩ = true from ok2)]
      have s1 := side_same ax aw (okB_spec.1 ok1).1; have s2 := side_same ay ah (okB_spec.1 ok1).2; have s3 := side_same bx bw (okB_spec.1 ok2).1; have s4 := side_same b2 bh (okB_spec.1 ok2).2
      go_enter Try.func27, Try.ntmps27
      go_wp2_with fail
      refine (ref_Ends_any _ _ _ _ _ hax hay haw hah).mono ?_
      rw [ok_same, ok1, s1.1, s1.2, s2.1, s2.2]
      rintro e w1 ⟨rfl, hb1⟩
      have B1 : Below w.heap.size w w1 := below_via hb1 (below_al (below_al (below_al (Below.refl _ _) _) _) _)
      have S1 := B1.size
      have F1 : w.heap.size < w1.heap.size ∧ w.heap.size + 1 < w1.heap.size ∧ w.heap.size + 2 < w1.heap.size ∧ w1.cell? ⟨w.heap.size + 1, 0, none⟩ = some (.int .i64 bx) ∧ w1.cell? ⟨w.heap.size + 1, 1, none⟩ = some (.int .i64 b2) ∧ w1.cell? ⟨w.heap.size + 1, 2, none⟩ = some (.int .i64 bw) ∧ w1.cell? ⟨w.heap.size + 1, 3, none⟩ = some (.int .i64 bh) ∧ w1.cell? ⟨w.heap.size + 2, 0, none⟩ = some (.int .i64 0) ∧ w1.cell? ⟨w.heap.size + 2, 1, none⟩ = some (.int .i64 0) ∧ w1.cell? ⟨w.heap.size + 2, 2, none⟩ = some (.int .i64 0) ∧ w1.cell? ⟨w.heap.size + 2, 3, none⟩ = some (.int .i64 0) ∧ w1.frozen? ⟨w.heap.size + 2, 0, none⟩ = false ∧ w1.frozen? ⟨w.heap.size + 2, 1, none⟩ = false ∧ w1.frozen? ⟨w.heap.size + 2, 2, none⟩ = false ∧ w1.frozen? ⟨w.heap.size + 2, 3, none⟩ = false := by
        obtain ⟨hc, hf⟩ := bcell hb1
        have hz := hb1.size
        (try simp only [World.size_alloc, World.size_drew, World.size_setCell] at hz)
        (repeat' apply And.intro) <;> (first | omega | (rw [hc _ _ (by first | omega | (simp only [World.size_alloc, World.size_drew, World.size_setCell]; omega))]; first | (simp [go_sem]; done) | (simp [*]; done)) | (rw [hf _ _ (by first | omega | (simp only [World.size_alloc, World.size_drew, World.size_setCell]; omega))]; first | (simp [go_sem]; done) | (simp [*]; done)))
      clear hb1
      go_wp2_with fail
      refine (ref_Ends_any _ _ _ _ _ hbx hb2 hbw hbh).mono ?_
      rw [ok_same, ok2, s3.1, s3.2, s4.1, s4.2]
      clear s1 s2 s3 s4
      rintro e w2 ⟨rfl, hb2⟩
      have B2 : Below w.heap.size w w2 := below_via hb2 B1
      have S2 := B2.size
      have F2 : w.heap.size < w2.heap.size ∧ w.heap.size + 1 < w2.heap.size ∧ w.heap.size + 2 < w2.heap.size ∧ w2.cell? ⟨w.heap.size + 2, 0, none⟩ = some (.int .i64 0) ∧ w2.cell? ⟨w.heap.size + 2, 1, none⟩ = some (.int .i64 0) ∧ w2.cell? ⟨w.heap.size + 2, 2, none⟩ = some (.int .i64 0) ∧ w2.cell? ⟨w.heap.size + 2, 3, none⟩ = some (.int .i64 0) ∧ w2.frozen? ⟨w.heap.size + 2, 0, none⟩ = false ∧ w2.frozen? ⟨w.heap.size + 2, 1, none⟩ = false ∧ w2.frozen? ⟨w.heap.size + 2, 2, none⟩ = false ∧ w2.frozen? ⟨w.heap.size + 2, 3, none⟩ = false := by
        obtain ⟨hc, hf⟩ := bcell hb2
        have hz := hb2.size
        (try simp only [World.size_alloc, World.size_drew, World.size_setCell] at hz)
        (repeat' apply And.intro) <;> (first | omega | (rw [hc _ _ (by first | omega | (simp only [World.size_alloc, World.size_drew, World.size_setCell]; omega))]; first | (simp [go_sem, F1]; done) | (simp [*]; done)) | (rw [hf _ _ (by first | omega | (simp only [World.size_alloc, World.size_drew, World.size_setCell]; omega))]; first | (simp [go_sem, F1]; done) | (simp [*]; done)))
      clear hb2 F1
      go_wp2_with fail
      refine (ref_Rect_any _ _ _ _ _).mono ?_
      rintro e w3 ⟨rfl, hb3⟩
      have B3 : Below w.heap.size w w3 := below_via hb3 B2
      have S3 := B3.size
      have F3 : w.heap.size + 2 < w3.heap.size ∧ w3.cell? ⟨w.heap.size + 2, 0, none⟩ = some (.int .i64 0) ∧ w3.cell? ⟨w.heap.size + 2, 1, none⟩ = some (.int .i64 0) ∧ w3.cell? ⟨w.heap.size + 2, 2, none⟩ = some (.int .i64 0) ∧ w3.cell? ⟨w.heap.size + 2, 3, none⟩ = some (.int .i64 0) ∧ w3.frozen? ⟨w.heap.size + 2, 0, none⟩ = false ∧ w3.frozen? ⟨w.heap.size + 2, 1, none⟩ = false ∧ w3.frozen? ⟨w.heap.size + 2, 2, none⟩ = false ∧ w3.frozen? ⟨w.heap.size + 2, 3, none⟩ = false := by
        obtain ⟨hc, hf⟩ := bcell hb3
        have hz := hb3.size
        (try simp only [World.size_alloc, World.size_drew, World.size_setCell] at hz)
        (repeat' apply And.intro) <;> (first | omega | (rw [hc _ _ (by first | omega | (simp only [World.size_alloc, World.size_drew, World.size_setCell]; omega))]; first | (simp [go_sem, F2]; done) | (simp [*]; done)) | (rw [hf _ _ (by first | omega | (simp only [World.size_alloc, World.size_drew, World.size_setCell]; omega))]; first | (simp [go_sem, F2]; done) | (simp [*]; done)))
      clear hb3 F2
      go_wp2
      exact bodyPost_ret (v := .agg #[.int .i64 (mkR (max (rlo ax) (rlo bx)) (max (rlo ay) (rlo b2)) (min (rhi ax aw) (rhi bx bw)) (min (rhi ay ah) (rhi b2 bh))).x, .int .i64 (mkR (max (rlo ax) (rlo bx)) (max (rlo ay) (rlo b2)) (min (rhi ax aw) (rhi bx bw)) (min (rhi ay ah) (rhi b2 bh))).y, .int .i64 (mkR (max (rlo ax) (rlo bx)) (max (rlo ay) (rlo b2)) (min (rhi ax aw) (rhi bx bw)) (min (rhi ay ah) (rhi b2 bh))).w, .int .i64 (mkR (max (rlo ax) (rlo bx)) (max (rlo ay) (rlo b2)) (min (rhi ax aw) (rhi bx bw)) (min (rhi ay ah) (rhi b2 bh))).h]) (by simp [results, Try.results27, go_sem, F3]) rfl ⟨rfl, by go_grown⟩

theorem off_far (x d : Int) : offF x d = x + max (-4194304) (min d 4194304) := rfl
theorem mk_same {a b c d a' b' c' d' : Int} (hx : (max a (-1048576) < min c 1048576) ↔ (max a' (-1048576) < min c' 1048576)) (hx2 : max a (-1048576) < min c 1048576 → max a (-1048576) = max a' (-1048576) ∧ min c 1048576 = min c' 1048576)
    (hy : (max b (-1048576) < min d 1048576) ↔ (max b' (-1048576) < min d' 1048576)) (hy2 : max b (-1048576) < min d 1048576 → max b (-1048576) = max b' (-1048576) ∧ min d 1048576 = min d' 1048576) : mkR a b c d = mkR a' b' c' d' := by
  unfold mkR
  by_cases h1 : max a (-1048576) < min c 1048576
  · by_cases h2 : max b (-1048576) < min d 1048576
    · rw [if_pos ⟨h1, h2⟩, if_pos ⟨hx.1 h1, hy.1 h2⟩, (hx2 h1).1, (hx2 h1).2, (hy2 h2).1, (hy2 h2).2]
    · rw [if_neg (fun h => h2 h.2), if_neg (fun h => h2 (hy.2 h.2))]
  · rw [if_neg (fun h => h1 h.1), if_neg (fun h => h1 (hx.2 h.1))]
theorem ax_off (a c p : Int) (h : -1048576 ≤ a ∧ a < c ∧ c ≤ 1048576) : ((max (offF a p) (-1048576) < min (offF c p) 1048576) ↔ (max (a + far_ p) (-1048576) < min (c + far_ p) 1048576)) ∧ (max (offF a p) (-1048576) < min (offF c p) 1048576 → max (offF a p) (-1048576) = max (a + far_ p) (-1048576) ∧ min (offF c p) 1048576 = min (c + far_ p) 1048576) := by
  by_cases h1 : -4194304 ≤ p ∧ p ≤ 4194304
  · have e1 : max (-4194304) (min p 4194304) = p := by omega
    have e2 : min (max p (-8388608)) 8388608 = p := by omega
    unfold offF far_; rw [e1, e2]; exact ⟨Iff.rfl, fun _ => ⟨rfl, rfl⟩⟩
  · unfold offF far_; constructor
    · constructor <;> intro k <;> omega
    · intro k; omega
theorem ax_in (a c p s : Int) (h : -1048576 ≤ a ∧ a < c ∧ c ≤ 1048576) : ((max (offF a p) (-1048576) < min (backF c s) 1048576) ↔ (max (a + far_ p) (-1048576) < min (c - far_ s) 1048576)) ∧ (max (offF a p) (-1048576) < min (backF c s) 1048576 → max (offF a p) (-1048576) = max (a + far_ p) (-1048576) ∧ min (backF c s) 1048576 = min (c - far_ s) 1048576) := by
  unfold offF backF far_
  generalize hf : max (-4194304) (min p 4194304) = f
  generalize hg : min (max p (-8388608)) 8388608 = g
  generalize hu : max (-4194304) (min s 4194304) = u
  generalize hv : min (max s (-8388608)) 8388608 = v
  have q1 : f = g ∨ (f = 4194304 ∧ 4194304 ≤ g) ∨ (f = -4194304 ∧ g ≤ -4194304) := by omega
  have q2 : u = v ∨ (u = 4194304 ∧ 4194304 ≤ v) ∨ (u = -4194304 ∧ v ≤ -4194304) := by omega
  clear hf hg hu hv
  rcases q1 with q1 | q1 | q1 <;> rcases q2 with q2 | q2 | q2
  all_goals constructor
  all_goals first | (intro k; omega) | (constructor <;> intro k <;> omega)
theorem mk_move (a b c d p q : Int) (ha : -1048576 ≤ a ∧ a < c ∧ c ≤ 1048576) (hb : -1048576 ≤ b ∧ b < d ∧ d ≤ 1048576) : mkR (offF a p) (offF b q) (offF c p) (offF d q) = mkR (a + far_ p) (b + far_ q) (c + far_ p) (d + far_ q) :=
  mk_same (ax_off a c p ha).1 (ax_off a c p ha).2 (ax_off b d q hb).1 (ax_off b d q hb).2
theorem mk_inset (a b c d p q s t : Int) (ha : -1048576 ≤ a ∧ a < c ∧ c ≤ 1048576) (hb : -1048576 ≤ b ∧ b < d ∧ d ≤ 1048576) : mkR (offF a p) (offF b q) (backF c s) (backF d t) = mkR (a + far_ p) (b + far_ q) (c - far_ s) (d - far_ t) :=
  mk_same (ax_in a c p s ha).1 (ax_in a c p s ha).2 (ax_in b d q t hb).1 (ax_in b d q t hb).2

set_option maxHeartbeats 4000000 in
theorem ref_Move_any (rx ry rw_ rh dx dy : Int) (w : World) (hrx : -9223372036854775808 ≤ rx ∧ rx ≤ 9223372036854775807) (hry : -9223372036854775808 ≤ ry ∧ ry ≤ 9223372036854775807) (hrw_ : -9223372036854775808 ≤ rw_ ∧ rw_ ≤ 9223372036854775807) (hrh : -9223372036854775808 ≤ rh ∧ rh ≤ 9223372036854775807) : Calls Try.prog 31 #[.agg #[.int .i64 rx, .int .i64 ry, .int .i64 rw_, .int .i64 rh], .int .i64 dx, .int .i64 dy] w fun e w' => e = .returned (.agg #[.int .i64 (moveR ⟨rx, ry, rw_, rh⟩ dx dy).x, .int .i64 (moveR ⟨rx, ry, rw_, rh⟩ dx dy).y, .int .i64 (moveR ⟨rx, ry, rw_, rh⟩ dx dy).w, .int .i64 (moveR ⟨rx, ry, rw_, rh⟩ dx dy).h]) ∧ Below w.heap.size w w' := by
  cases ok1 : okB rx ry rw_ rh
  · rw [show moveR ⟨rx, ry, rw_, rh⟩ dx dy = zR by unfold moveR okR4; rw [ok1]; rfl]
    go_enter Try.func31, Try.ntmps31
    go_wp2_with fail
    refine (ref_Ends_any _ _ _ _ _ hrx hry hrw_ hrh).mono ?_
    rw [ok_same, ok1]
    rintro e w1 ⟨rfl, hb1⟩
    have B1 : Below w.heap.size w w1 := below_via hb1 (below_al (below_al (Below.refl _ _) _) _)
    have S1 := B1.size
    have F1 : w.heap.size + 1 < w1.heap.size ∧ w1.cell? ⟨w.heap.size + 1, 0, none⟩ = some (.int .i64 0) ∧ w1.cell? ⟨w.heap.size + 1, 1, none⟩ = some (.int .i64 0) ∧ w1.cell? ⟨w.heap.size + 1, 2, none⟩ = some (.int .i64 0) ∧ w1.cell? ⟨w.heap.size + 1, 3, none⟩ = some (.int .i64 0) ∧ w1.frozen? ⟨w.heap.size + 1, 0, none⟩ = false ∧ w1.frozen? ⟨w.heap.size + 1, 1, none⟩ = false ∧ w1.frozen? ⟨w.heap.size + 1, 2, none⟩ = false ∧ w1.frozen? ⟨w.heap.size + 1, 3, none⟩ = false := by
      obtain ⟨hc, hf⟩ := bcell hb1
      have hz := hb1.size
      (try simp only [World.size_alloc, World.size_drew, World.size_setCell] at hz)
      (repeat' apply And.intro) <;> (first | omega | (rw [hc _ _ (by first | omega | (simp only [World.size_alloc, World.size_drew, World.size_setCell]; omega))]; first | (simp [go_sem]; done) | (simp [*]; done)) | (rw [hf _ _ (by first | omega | (simp only [World.size_alloc, World.size_drew, World.size_setCell]; omega))]; first | (simp [go_sem]; done) | (simp [*]; done)))
    clear hb1
    go_wp2
    exact bodyPost_ret (v := .agg #[.int .i64 0, .int .i64 0, .int .i64 0, .int .i64 0]) (by simp [results, Try.results31, go_sem, F1]) rfl ⟨rfl, by go_grown⟩
  · rw [show moveR ⟨rx, ry, rw_, rh⟩ dx dy = mkR (rlo rx + far_ dx) (rlo ry + far_ dy) (rhi rx rw_ + far_ dx) (rhi ry rh + far_ dy) by unfold moveR okR4; rw [ok1]; rfl, ← mk_move _ _ _ _ _ _ ⟨rlo_bd rx, (okB_spec.1 ok1).1, rhi_bd rx rw_⟩ ⟨rlo_bd ry, (okB_spec.1 ok1).2, rhi_bd ry rh⟩]
    have k1 := okB_spec.1 ok1
    have k2 := rlo_bd rx; have k3 := rlo_bd ry; have k4 := rhi_bd rx rw_; have k5 := rhi_bd ry rh
    have s1 := side_same rx rw_ k1.1; have s2 := side_same ry rh k1.2
    go_enter Try.func31, Try.ntmps31
    go_wp2_with fail
    refine (ref_Ends_any _ _ _ _ _ hrx hry hrw_ hrh).mono ?_
    rw [ok_same, ok1, s1.1, s1.2, s2.1, s2.2]
    rintro e w1 ⟨rfl, hb1⟩
    have B1 : Below w.heap.size w w1 := below_via hb1 (below_al (below_al (Below.refl _ _) _) _)
    have S1 := B1.size
    have F1 : w.heap.size + 1 < w1.heap.size ∧ w1.cell? ⟨w.heap.size + 1, 0, none⟩ = some (.int .i64 0) ∧ w1.cell? ⟨w.heap.size + 1, 1, none⟩ = some (.int .i64 0) ∧ w1.cell? ⟨w.heap.size + 1, 2, none⟩ = some (.int .i64 0) ∧ w1.cell? ⟨w.heap.size + 1, 3, none⟩ = some (.int .i64 0) ∧ w1.frozen? ⟨w.heap.size + 1, 0, none⟩ = false ∧ w1.frozen? ⟨w.heap.size + 1, 1, none⟩ = false ∧ w1.frozen? ⟨w.heap.size + 1, 2, none⟩ = false ∧ w1.frozen? ⟨w.heap.size + 1, 3, none⟩ = false := by
      obtain ⟨hc, hf⟩ := bcell hb1
      have hz := hb1.size
      (try simp only [World.size_alloc, World.size_drew, World.size_setCell] at hz)
      (repeat' apply And.intro) <;> (first | omega | (rw [hc _ _ (by first | omega | (simp only [World.size_alloc, World.size_drew, World.size_setCell]; omega))]; first | (simp [go_sem]; done) | (simp [*]; done)) | (rw [hf _ _ (by first | omega | (simp only [World.size_alloc, World.size_drew, World.size_setCell]; omega))]; first | (simp [go_sem]; done) | (simp [*]; done)))
    clear hb1 s1 s2
    go_wp2_with (go_at_call 52; refine (ref_off_any _ _ _ (by omega)).mono ?_; rintro e w' ⟨rfl, rfl⟩)
    refine (ref_Rect_any _ _ _ _ _).mono ?_
    rintro e w3 ⟨rfl, hb3⟩
    have B3 : Below w.heap.size w w3 := below_via hb3 B1
    have S3 := B3.size
    have F3 : w.heap.size + 1 < w3.heap.size ∧ w3.cell? ⟨w.heap.size + 1, 0, none⟩ = some (.int .i64 0) ∧ w3.cell? ⟨w.heap.size + 1, 1, none⟩ = some (.int .i64 0) ∧ w3.cell? ⟨w.heap.size + 1, 2, none⟩ = some (.int .i64 0) ∧ w3.cell? ⟨w.heap.size + 1, 3, none⟩ = some (.int .i64 0) ∧ w3.frozen? ⟨w.heap.size + 1, 0, none⟩ = false ∧ w3.frozen? ⟨w.heap.size + 1, 1, none⟩ = false ∧ w3.frozen? ⟨w.heap.size + 1, 2, none⟩ = false ∧ w3.frozen? ⟨w.heap.size + 1, 3, none⟩ = false := by
      obtain ⟨hc, hf⟩ := bcell hb3
      have hz := hb3.size
      (try simp only [World.size_alloc, World.size_drew, World.size_setCell] at hz)
      (repeat' apply And.intro) <;> (first | omega | (rw [hc _ _ (by first | omega | (simp only [World.size_alloc, World.size_drew, World.size_setCell]; omega))]; first | (simp [go_sem, F1]; done) | (simp [*]; done)) | (rw [hf _ _ (by first | omega | (simp only [World.size_alloc, World.size_drew, World.size_setCell]; omega))]; first | (simp [go_sem, F1]; done) | (simp [*]; done)))
    clear hb3 F1
    go_wp2
    exact bodyPost_ret (v := .agg #[.int .i64 (mkR (offF (rlo rx) dx) (offF (rlo ry) dy) (offF (rhi rx rw_) dx) (offF (rhi ry rh) dy)).x, .int .i64 (mkR (offF (rlo rx) dx) (offF (rlo ry) dy) (offF (rhi rx rw_) dx) (offF (rhi ry rh) dy)).y, .int .i64 (mkR (offF (rlo rx) dx) (offF (rlo ry) dy) (offF (rhi rx rw_) dx) (offF (rhi ry rh) dy)).w, .int .i64 (mkR (offF (rlo rx) dx) (offF (rlo ry) dy) (offF (rhi rx rw_) dx) (offF (rhi ry rh) dy)).h]) (by simp [results, Try.results31, go_sem, F3]) rfl ⟨rfl, by go_grown⟩

set_option maxHeartbeats 8000000 in
theorem ref_Inset_any (rx ry rw_ rh a b c d : Int) (w : World) (hrx : -9223372036854775808 ≤ rx ∧ rx ≤ 9223372036854775807) (hry : -9223372036854775808 ≤ ry ∧ ry ≤ 9223372036854775807) (hrw_ : -9223372036854775808 ≤ rw_ ∧ rw_ ≤ 9223372036854775807) (hrh : -9223372036854775808 ≤ rh ∧ rh ≤ 9223372036854775807) : Calls Try.prog 29 #[.agg #[.int .i64 rx, .int .i64 ry, .int .i64 rw_, .int .i64 rh], .agg #[.int .i64 a, .int .i64 b, .int .i64 c, .int .i64 d]] w fun e w' => e = .returned (.agg #[.int .i64 (insetR ⟨rx, ry, rw_, rh⟩ a b c d).x, .int .i64 (insetR ⟨rx, ry, rw_, rh⟩ a b c d).y, .int .i64 (insetR ⟨rx, ry, rw_, rh⟩ a b c d).w, .int .i64 (insetR ⟨rx, ry, rw_, rh⟩ a b c d).h]) ∧ Below w.heap.size w w' := by
  cases ok1 : okB rx ry rw_ rh
  · rw [show insetR ⟨rx, ry, rw_, rh⟩ a b c d = zR by unfold insetR okR4; rw [ok1]; rfl]
    go_enter Try.func29, Try.ntmps29
    go_wp2_with fail
    refine (ref_Ends_any _ _ _ _ _ hrx hry hrw_ hrh).mono ?_
    rw [ok_same, ok1]
    rintro e w1 ⟨rfl, hb1⟩
    have B1 : Below w.heap.size w w1 := below_via hb1 (below_al (below_al (below_al (Below.refl _ _) _) _) _)
    have S1 := B1.size
    have F1 : w.heap.size + 1 < w1.heap.size ∧ w.heap.size + 2 < w1.heap.size ∧ w1.cell? ⟨w.heap.size + 1, 0, none⟩ = some (.int .i64 a) ∧ w1.cell? ⟨w.heap.size + 1, 1, none⟩ = some (.int .i64 b) ∧ w1.cell? ⟨w.heap.size + 1, 2, none⟩ = some (.int .i64 c) ∧ w1.cell? ⟨w.heap.size + 1, 3, none⟩ = some (.int .i64 d) ∧ w1.cell? ⟨w.heap.size + 2, 0, none⟩ = some (.int .i64 0) ∧ w1.cell? ⟨w.heap.size + 2, 1, none⟩ = some (.int .i64 0) ∧ w1.cell? ⟨w.heap.size + 2, 2, none⟩ = some (.int .i64 0) ∧ w1.cell? ⟨w.heap.size + 2, 3, none⟩ = some (.int .i64 0) ∧ w1.frozen? ⟨w.heap.size + 2, 0, none⟩ = false ∧ w1.frozen? ⟨w.heap.size + 2, 1, none⟩ = false ∧ w1.frozen? ⟨w.heap.size + 2, 2, none⟩ = false ∧ w1.frozen? ⟨w.heap.size + 2, 3, none⟩ = false := by
      obtain ⟨hc, hf⟩ := bcell hb1
      have hz := hb1.size
      (try simp only [World.size_alloc, World.size_drew, World.size_setCell] at hz)
      (repeat' apply And.intro) <;> (first | omega | (rw [hc _ _ (by first | omega | (simp only [World.size_alloc, World.size_drew, World.size_setCell]; omega))]; first | (simp [go_sem]; done) | (simp [*]; done)) | (rw [hf _ _ (by first | omega | (simp only [World.size_alloc, World.size_drew, World.size_setCell]; omega))]; first | (simp [go_sem]; done) | (simp [*]; done)))
    clear hb1
    go_wp2
    exact bodyPost_ret (v := .agg #[.int .i64 0, .int .i64 0, .int .i64 0, .int .i64 0]) (by simp [results, Try.results29, go_sem, F1]) rfl ⟨rfl, by go_grown⟩
  · rw [show insetR ⟨rx, ry, rw_, rh⟩ a b c d = mkR (rlo rx + far_ d) (rlo ry + far_ a) (rhi rx rw_ - far_ b) (rhi ry rh - far_ c) by unfold insetR okR4; rw [ok1]; rfl, ← mk_inset _ _ _ _ _ _ _ _ ⟨rlo_bd rx, (okB_spec.1 ok1).1, rhi_bd rx rw_⟩ ⟨rlo_bd ry, (okB_spec.1 ok1).2, rhi_bd ry rh⟩]
    have k1 := okB_spec.1 ok1
    have k2 := rlo_bd rx; have k3 := rlo_bd ry; have k4 := rhi_bd rx rw_; have k5 := rhi_bd ry rh
    have s1 := side_same rx rw_ k1.1; have s2 := side_same ry rh k1.2
    go_enter Try.func29, Try.ntmps29
    go_wp2_with fail
    refine (ref_Ends_any _ _ _ _ _ hrx hry hrw_ hrh).mono ?_
    rw [ok_same, ok1, s1.1, s1.2, s2.1, s2.2]
    rintro e w1 ⟨rfl, hb1⟩
    have B1 : Below w.heap.size w w1 := below_via hb1 (below_al (below_al (below_al (Below.refl _ _) _) _) _)
    have S1 := B1.size
    have F1 : w.heap.size + 1 < w1.heap.size ∧ w.heap.size + 2 < w1.heap.size ∧ w1.cell? ⟨w.heap.size + 1, 0, none⟩ = some (.int .i64 a) ∧ w1.cell? ⟨w.heap.size + 1, 1, none⟩ = some (.int .i64 b) ∧ w1.cell? ⟨w.heap.size + 1, 2, none⟩ = some (.int .i64 c) ∧ w1.cell? ⟨w.heap.size + 1, 3, none⟩ = some (.int .i64 d) ∧ w1.cell? ⟨w.heap.size + 2, 0, none⟩ = some (.int .i64 0) ∧ w1.cell? ⟨w.heap.size + 2, 1, none⟩ = some (.int .i64 0) ∧ w1.cell? ⟨w.heap.size + 2, 2, none⟩ = some (.int .i64 0) ∧ w1.cell? ⟨w.heap.size + 2, 3, none⟩ = some (.int .i64 0) ∧ w1.frozen? ⟨w.heap.size + 2, 0, none⟩ = false ∧ w1.frozen? ⟨w.heap.size + 2, 1, none⟩ = false ∧ w1.frozen? ⟨w.heap.size + 2, 2, none⟩ = false ∧ w1.frozen? ⟨w.heap.size + 2, 3, none⟩ = false := by
      obtain ⟨hc, hf⟩ := bcell hb1
      have hz := hb1.size
      (try simp only [World.size_alloc, World.size_drew, World.size_setCell] at hz)
      (repeat' apply And.intro) <;> (first | omega | (rw [hc _ _ (by first | omega | (simp only [World.size_alloc, World.size_drew, World.size_setCell]; omega))]; first | (simp [go_sem]; done) | (simp [*]; done)) | (rw [hf _ _ (by first | omega | (simp only [World.size_alloc, World.size_drew, World.size_setCell]; omega))]; first | (simp [go_sem]; done) | (simp [*]; done)))
    clear hb1 s1 s2
    go_wp2
    go_region_held3 (fun w' => w.heap.size + 2 < w'.heap.size ∧ w'.cell? ⟨w.heap.size + 1, 0, none⟩ = some (.int .i64 a) ∧ w'.cell? ⟨w.heap.size + 1, 1, none⟩ = some (.int .i64 b) ∧ w'.cell? ⟨w.heap.size + 1, 2, none⟩ = some (.int .i64 c) ∧ w'.cell? ⟨w.heap.size + 1, 3, none⟩ = some (.int .i64 d)) (first | (simp [go_sem, F1]; done) | (refine ⟨by omega, ?_⟩; ((repeat' apply And.intro) <;> (rw [hc _ _ (by simp only [World.size_drew]; omega)]; simp [F1]; done))) | (simp [go_sem, *]; done))
      (first | (go_at_call 52; refine (ref_off_any _ _ _ (by omega)).mono ?_; rintro e w' ⟨rfl, rfl⟩) | (go_at_call 53; refine (ref_back_any _ _ _ (by omega)).mono ?_; rintro e w' ⟨rfl, rfl⟩) | (go_at_call 49; refine (ref_Rect_any _ _ _ _ _).mono ?_; rintro e w3 ⟨rfl, hb3⟩; obtain ⟨hc, hf⟩ := bcell hb3; have hz := hb3.size; simp only [World.size_drew] at hz; have FT : w.heap.size + 2 < w3.heap.size ∧ w3.cell? ⟨w.heap.size + 2, 0, none⟩ = some (.int .i64 0) ∧ w3.cell? ⟨w.heap.size + 2, 1, none⟩ = some (.int .i64 0) ∧ w3.cell? ⟨w.heap.size + 2, 2, none⟩ = some (.int .i64 0) ∧ w3.cell? ⟨w.heap.size + 2, 3, none⟩ = some (.int .i64 0) ∧ w3.frozen? ⟨w.heap.size + 2, 0, none⟩ = false ∧ w3.frozen? ⟨w.heap.size + 2, 1, none⟩ = false ∧ w3.frozen? ⟨w.heap.size + 2, 2, none⟩ = false ∧ w3.frozen? ⟨w.heap.size + 2, 3, none⟩ = false := (by (refine ⟨by omega, ?_⟩; ((repeat' apply And.intro) <;> first | (rw [hc _ _ (by simp only [World.size_drew]; omega)]; simp [F1]; done) | (rw [hf _ _ (by simp only [World.size_drew]; omega)]; simp [F1]; done)))); have B3 : Below w.heap.size w w3 := below_via hb3 (Below.drew B1)))
    all_goals go_wp2
    all_goals exact bodyPost_ret (v := .agg #[.int .i64 (mkR (offF (rlo rx) d) (offF (rlo ry) a) (backF (rhi rx rw_) b) (backF (rhi ry rh) c)).x, .int .i64 (mkR (offF (rlo rx) d) (offF (rlo ry) a) (backF (rhi rx rw_) b) (backF (rhi ry rh) c)).y, .int .i64 (mkR (offF (rlo rx) d) (offF (rlo ry) a) (backF (rhi rx rw_) b) (backF (rhi ry rh) c)).w, .int .i64 (mkR (offF (rlo rx) d) (offF (rlo ry) a) (backF (rhi rx rw_) b) (backF (rhi ry rh) c)).h]) (by simp [results, Try.results29, go_sem, FT]) rfl ⟨rfl, by have S3 := B3.size; go_grown⟩

set_option maxHeartbeats 400000 in
theorem RectNames_walk (w : World) : Calls Try.prog 6 #[] w fun e w' => e = .returned (.bool true) ∧ Below w.heap.size w w' := by
  go_enter Try.func6, Try.ntmps6
  go_wp2_with fail
  refine (wakes_any _).mono ?_
  rintro e w1 ⟨rfl, hb⟩
  go_wp2
  go_ret
  exact ⟨rfl, hb⟩
end Go.Proofs.Ytekcheccelllcaa
