/- Rectangles, contracts of the reference's Ends, Rect, Empty, Own. -/
import Derived.Test.YtebalohoblaedaaGrtC
namespace Go.Proofs.Ytebalohoblaedaa
open Go.RowKit
set_option linter.unusedVariables false
set_option linter.unusedSimpArgs false

set_option maxHeartbeats 4000000 in
theorem ref_Ends_any (rx ry rw_ rh : Int) (w : World) (hrx : -9223372036854775808 ≤ rx ∧ rx ≤ 9223372036854775807) (hry : -9223372036854775808 ≤ ry ∧ ry ≤ 9223372036854775807) (hrw_ : -9223372036854775808 ≤ rw_ ∧ rw_ ≤ 9223372036854775807) (hrh : -9223372036854775808 ≤ rh ∧ rh ≤ 9223372036854775807) : Calls Try.prog 61 #[.agg #[.int .i64 rx, .int .i64 ry, .int .i64 rw_, .int .i64 rh]] w fun e w' => e = .returned (.tuple #[.int .i64 (sA rx rw_), .int .i64 (sA ry rh), .int .i64 (sB rx rw_), .int .i64 (sB ry rh), .bool (okR rx ry rw_ rh)]) ∧ Below w.heap.size w w' := by
  by_cases h1 : sA rx rw_ < sB rx rw_
  · by_cases h2 : sA ry rh < sB ry rh
    · rw [show okR rx ry rw_ rh = true by unfold okR; simp [h1, h2]]
      go_enter Try.func61, Try.ntmps61
      go_wp2_with fail
      refine (ref_side_any _ _ _ hrx hrw_).mono ?_
      rintro e w1 ⟨rfl, rfl⟩
      go_wp2_with fail
      refine (ref_side_any _ _ _ hry hrh).mono ?_
      rintro e w1 ⟨rfl, rfl⟩
      go_wp2
      exact bodyPost_ret (v := .tuple #[.int .i64 (sA rx rw_), .int .i64 (sA ry rh), .int .i64 (sB rx rw_), .int .i64 (sB ry rh), .bool true]) (by first | (simp [results, Try.results61, go_sem]; done) | (simp [results, Try.results61, go_sem]; omega)) rfl ⟨rfl, by go_grown⟩
    · rw [show okR rx ry rw_ rh = false by unfold okR; simp; omega]
      go_enter Try.func61, Try.ntmps61
      go_wp2_with fail
      refine (ref_side_any _ _ _ hrx hrw_).mono ?_
      rintro e w1 ⟨rfl, rfl⟩
      go_wp2_with fail
      refine (ref_side_any _ _ _ hry hrh).mono ?_
      rintro e w1 ⟨rfl, rfl⟩
      go_wp2
      exact bodyPost_ret (v := .tuple #[.int .i64 (sA rx rw_), .int .i64 (sA ry rh), .int .i64 (sB rx rw_), .int .i64 (sB ry rh), .bool false]) (by first | (simp [results, Try.results61, go_sem]; done) | (simp [results, Try.results61, go_sem]; omega)) rfl ⟨rfl, by go_grown⟩
  · rw [show okR rx ry rw_ rh = false by unfold okR; simp; omega]
    go_enter Try.func61, Try.ntmps61
    go_wp2_with fail
    refine (ref_side_any _ _ _ hrx hrw_).mono ?_
    rintro e w1 ⟨rfl, rfl⟩
    go_wp2_with fail
    refine (ref_side_any _ _ _ hry hrh).mono ?_
    rintro e w1 ⟨rfl, rfl⟩
    go_wp2
    exact bodyPost_ret (v := .tuple #[.int .i64 (sA rx rw_), .int .i64 (sA ry rh), .int .i64 (sB rx rw_), .int .i64 (sB ry rh), .bool false]) (by first | (simp [results, Try.results61, go_sem]; done) | (simp [results, Try.results61, go_sem]; omega)) rfl ⟨rfl, by go_grown⟩
set_option maxHeartbeats 4000000 in
theorem ref_Rect_any (a b c d : Int) (w : World) : Calls Try.prog 62 #[.int .i64 a, .int .i64 b, .int .i64 c, .int .i64 d] w fun e w' => e = .returned (.agg #[.int .i64 (mkR a b c d).x, .int .i64 (mkR a b c d).y, .int .i64 (mkR a b c d).w, .int .i64 (mkR a b c d).h]) ∧ Below w.heap.size w w' := by
  by_cases h1 : max a (-1048576) < min c 1048576
  · by_cases h2 : max b (-1048576) < min d 1048576
    · have e : mkR a b c d = ⟨max a (-1048576), max b (-1048576), min c 1048576 - max a (-1048576), min d 1048576 - max b (-1048576)⟩ := by unfold mkR; rw [if_pos ⟨h1, h2⟩]
      rw [e]
      clear e
      go_enter Try.func62, Try.ntmps62
      go_wp2
      exact bodyPost_ret (v := .agg #[.int .i64 (max a (-1048576)), .int .i64 (max b (-1048576)), .int .i64 (min c 1048576 - max a (-1048576)), .int .i64 (min d 1048576 - max b (-1048576))]) (by simp [results, Try.results62, go_sem]) rfl ⟨rfl, by go_grown⟩
    · rw [show mkR a b c d = zR by unfold mkR; rw [if_neg (by omega)]]
      go_enter Try.func62, Try.ntmps62
      go_wp2
      exact bodyPost_ret (v := .agg #[.int .i64 0, .int .i64 0, .int .i64 0, .int .i64 0]) (by simp [results, Try.results62, go_sem]) rfl ⟨rfl, by go_grown⟩
  · rw [show mkR a b c d = zR by unfold mkR; rw [if_neg (by omega)]]
    go_enter Try.func62, Try.ntmps62
    go_wp2
    exact bodyPost_ret (v := .agg #[.int .i64 0, .int .i64 0, .int .i64 0, .int .i64 0]) (by simp [results, Try.results62, go_sem]) rfl ⟨rfl, by go_grown⟩
def selfR (r : R4) : R4 := meetR r r
theorem selfR_ok {r : R4} (h : okR4 r = true) : selfR r = mkR (rlo r.x) (rlo r.y) (rhi r.x r.w) (rhi r.y r.h) := by
  unfold selfR
  rw [meet_ok h h]
  simp
theorem selfR_no {r : R4} (h : okR4 r = false) : selfR r = zR := meet_no (.inl h)
set_option maxHeartbeats 4000000 in
theorem ref_Own_any (rx ry rw_ rh : Int) (w : World) (hrx : -9223372036854775808 ≤ rx ∧ rx ≤ 9223372036854775807) (hry : -9223372036854775808 ≤ ry ∧ ry ≤ 9223372036854775807) (hrw_ : -9223372036854775808 ≤ rw_ ∧ rw_ ≤ 9223372036854775807) (hrh : -9223372036854775808 ≤ rh ∧ rh ≤ 9223372036854775807) : Calls Try.prog 55 #[.agg #[.int .i64 rx, .int .i64 ry, .int .i64 rw_, .int .i64 rh]] w fun e w' => e = .returned (.agg #[.int .i64 (selfR ⟨rx, ry, rw_, rh⟩).x, .int .i64 (selfR ⟨rx, ry, rw_, rh⟩).y, .int .i64 (selfR ⟨rx, ry, rw_, rh⟩).w, .int .i64 (selfR ⟨rx, ry, rw_, rh⟩).h]) ∧ Below w.heap.size w w' := by
  cases ok : okB rx ry rw_ rh
  · rw [selfR_no (r := ⟨rx, ry, rw_, rh⟩) ok]
    go_enter Try.func55, Try.ntmps55
    go_wp2_with fail
    refine (ref_Ends_any _ _ _ _ _ hrx hry hrw_ hrh).mono ?_
    rw [ok_same, ok]
    rintro e w1 ⟨rfl, hb⟩
    have B1 : Below w.heap.size w w1 := below_via hb (below_al (below_al (Below.refl w.heap.size w) _) _)
    have S1 : w.heap.size + 1 < w1.heap.size := by have := hb.size; simp at this; omega
    have HB1 := Lib.hid B1
    have hblk : w1.heap[w.heap.size + 1]? = some (.cells #[.int .i64 0, .int .i64 0, .int .i64 0, .int .i64 0] 52 (0, 0)) := by
      rw [hb.block _ (by simp)]
      have := heap_alloc_new (w.alloc (.cells #[.int .i64 rx, .int .i64 ry, .int .i64 rw_, .int .i64 rh] 52)) (.cells #[.int .i64 0, .int .i64 0, .int .i64 0, .int .i64 0] 52)
      rwa [World.size_alloc] at this
    have HC := Lib.hid hblk
    clear ok hb B1 hblk
    have c0 : w1.cell? ⟨w.heap.size + 1, 0, none⟩ = some (.int .i64 0) := by rw [cell_of_row _ _ _ _ _ _ HC.out]; rfl
    have c1 : w1.cell? ⟨w.heap.size + 1, 1, none⟩ = some (.int .i64 0) := by rw [cell_of_row _ _ _ _ _ _ HC.out]; rfl
    have c2 : w1.cell? ⟨w.heap.size + 1, 2, none⟩ = some (.int .i64 0) := by rw [cell_of_row _ _ _ _ _ _ HC.out]; rfl
    have c3 : w1.cell? ⟨w.heap.size + 1, 3, none⟩ = some (.int .i64 0) := by rw [cell_of_row _ _ _ _ _ _ HC.out]; rfl
    have f0 : w1.frozen? ⟨w.heap.size + 1, 0, none⟩ = false := frozen_of_row _ _ _ _ _ HC.out
    have f1 : w1.frozen? ⟨w.heap.size + 1, 1, none⟩ = false := frozen_of_row _ _ _ _ _ HC.out
    have f2 : w1.frozen? ⟨w.heap.size + 1, 2, none⟩ = false := frozen_of_row _ _ _ _ _ HC.out
    have f3 : w1.frozen? ⟨w.heap.size + 1, 3, none⟩ = false := frozen_of_row _ _ _ _ _ HC.out
    go_wp2
    exact bodyPost_ret (v := .agg #[.int .i64 0, .int .i64 0, .int .i64 0, .int .i64 0]) (by simp [results, Try.results55, go_sem, c0, c1, c2, c3]) rfl ⟨rfl, by have := HB1.out; go_grown⟩
  · have ok' := okB_spec.1 ok
    have s1 := side_same rx rw_ ok'.1
    have s2 := side_same ry rh ok'.2
    rw [selfR_ok (r := ⟨rx, ry, rw_, rh⟩) ok]
    obtain ⟨R, hR⟩ : ∃ R, R = mkR (rlo rx) (rlo ry) (rhi rx rw_) (rhi ry rh) := ⟨_, rfl⟩
    have HR := Lib.hid hR
    simp only [← hR]
    clear hR
    go_enter Try.func55, Try.ntmps55
    go_wp2_with fail
    refine (ref_Ends_any _ _ _ _ _ hrx hry hrw_ hrh).mono ?_
    rw [ok_same, ok, s1.1, s1.2, s2.1, s2.2]
    rintro e w1 ⟨rfl, hb⟩
    have B1 : Below w.heap.size w w1 := below_via hb (below_al (below_al (Below.refl w.heap.size w) _) _)
    have hblk : w1.heap[w.heap.size + 1]? = some (.cells #[.int .i64 0, .int .i64 0, .int .i64 0, .int .i64 0] 52 (0, 0)) := by
      rw [hb.block _ (by simp)]
      have := heap_alloc_new (w.alloc (.cells #[.int .i64 rx, .int .i64 ry, .int .i64 rw_, .int .i64 rh] 52)) (.cells #[.int .i64 0, .int .i64 0, .int .i64 0, .int .i64 0] 52)
      rwa [World.size_alloc] at this
    clear ok hb s1 s2 ok'
    go_wp2_with fail
    refine (ref_Rect_any _ _ _ _ _).mono ?_
    rw [← HR.out]
    rintro e w2 ⟨rfl, hb2⟩
    have S1 := Lib.hid (lt_of_block hblk)
    have HC := Lib.hid ((hb2.block _ S1.out).trans hblk)
    have S2 : w.heap.size + 1 < w2.heap.size := lt_of_block HC.out
    have HB1 := Lib.hid (below_via hb2 B1)
    clear hb2 B1 hblk
    have c0 : w2.cell? ⟨w.heap.size + 1, 0, none⟩ = some (.int .i64 0) := by rw [cell_of_row _ _ _ _ _ _ HC.out]; rfl
    have c1 : w2.cell? ⟨w.heap.size + 1, 1, none⟩ = some (.int .i64 0) := by rw [cell_of_row _ _ _ _ _ _ HC.out]; rfl
    have c2 : w2.cell? ⟨w.heap.size + 1, 2, none⟩ = some (.int .i64 0) := by rw [cell_of_row _ _ _ _ _ _ HC.out]; rfl
    have c3 : w2.cell? ⟨w.heap.size + 1, 3, none⟩ = some (.int .i64 0) := by rw [cell_of_row _ _ _ _ _ _ HC.out]; rfl
    have f0 : w2.frozen? ⟨w.heap.size + 1, 0, none⟩ = false := frozen_of_row _ _ _ _ _ HC.out
    have f1 : w2.frozen? ⟨w.heap.size + 1, 1, none⟩ = false := frozen_of_row _ _ _ _ _ HC.out
    have f2 : w2.frozen? ⟨w.heap.size + 1, 2, none⟩ = false := frozen_of_row _ _ _ _ _ HC.out
    have f3 : w2.frozen? ⟨w.heap.size + 1, 3, none⟩ = false := frozen_of_row _ _ _ _ _ HC.out
    go_wp2
    exact bodyPost_ret (v := .agg #[.int .i64 R.x, .int .i64 R.y, .int .i64 R.w, .int .i64 R.h]) (by simp [results, Try.results55, go_sem, c0, c1, c2, c3]) rfl ⟨rfl, by have := HB1.out; go_grown⟩
/-- how far two stretches are apart -/
def gapI (a n b m : Int) : Int := max 0 (max (b - a - n) (a - b - m))
end Go.Proofs.Ytebalohoblaedaa
