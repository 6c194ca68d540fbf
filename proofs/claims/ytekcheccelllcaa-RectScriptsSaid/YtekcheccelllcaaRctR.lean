/- Contracts of the reference: Ends, Rect, Has, Empty, Meet, Move, Inset. -/
import Derived.Test.YtekcheccelllcaaRctD
namespace Go.Proofs.Ytekcheccelllcaa
open Go.RowKit
set_option linter.unusedVariables false
set_option linter.unusedSimpArgs false

set_option maxHeartbeats 4000000 in
theorem ref_Ends_any (rx ry rw_ rh : Int) (w : World) (hrx : -9223372036854775808 ≤ rx ∧ rx ≤ 9223372036854775807) (hry : -9223372036854775808 ≤ ry ∧ ry ≤ 9223372036854775807) (hrw_ : -9223372036854775808 ≤ rw_ ∧ rw_ ≤ 9223372036854775807) (hrh : -9223372036854775808 ≤ rh ∧ rh ≤ 9223372036854775807) : Calls Try.prog 48 #[.agg #[.int .i64 rx, .int .i64 ry, .int .i64 rw_, .int .i64 rh]] w fun e w' => e = .returned (.tuple #[.int .i64 (sA rx rw_), .int .i64 (sA ry rh), .int .i64 (sB rx rw_), .int .i64 (sB ry rh), .bool (okR rx ry rw_ rh)]) ∧ Below w.heap.size w w' := by
  by_cases h1 : sA rx rw_ < sB rx rw_
  · by_cases h2 : sA ry rh < sB ry rh
    · rw [show okR rx ry rw_ rh = true by unfold okR; simp [h1, h2]]
      go_enter Try.func48, Try.ntmps48
      go_wp2_with fail
      refine (ref_side_any _ _ _ hrx hrw_).mono ?_
      rintro e w1 ⟨rfl, rfl⟩
      go_wp2_with fail
      refine (ref_side_any _ _ _ hry hrh).mono ?_
      rintro e w1 ⟨rfl, rfl⟩
      go_wp2
      exact bodyPost_ret (v := .tuple #[.int .i64 (sA rx rw_), .int .i64 (sA ry rh), .int .i64 (sB rx rw_), .int .i64 (sB ry rh), .bool true]) (by first | (simp [results, Try.results48, go_sem]; done) | (simp [results, Try.results48, go_sem]; omega)) rfl ⟨rfl, by go_grown⟩
    · rw [show okR rx ry rw_ rh = false by unfold okR; simp; omega]
      go_enter Try.func48, Try.ntmps48
      go_wp2_with fail
      refine (ref_side_any _ _ _ hrx hrw_).mono ?_
      rintro e w1 ⟨rfl, rfl⟩
      go_wp2_with fail
      refine (ref_side_any _ _ _ hry hrh).mono ?_
      rintro e w1 ⟨rfl, rfl⟩
      go_wp2
      exact bodyPost_ret (v := .tuple #[.int .i64 (sA rx rw_), .int .i64 (sA ry rh), .int .i64 (sB rx rw_), .int .i64 (sB ry rh), .bool false]) (by first | (simp [results, Try.results48, go_sem]; done) | (simp [results, Try.results48, go_sem]; omega)) rfl ⟨rfl, by go_grown⟩
  · rw [show okR rx ry rw_ rh = false by unfold okR; simp; omega]
    go_enter Try.func48, Try.ntmps48
    go_wp2_with fail
    refine (ref_side_any _ _ _ hrx hrw_).mono ?_
    rintro e w1 ⟨rfl, rfl⟩
    go_wp2_with fail
    refine (ref_side_any _ _ _ hry hrh).mono ?_
    rintro e w1 ⟨rfl, rfl⟩
    go_wp2
    exact bodyPost_ret (v := .tuple #[.int .i64 (sA rx rw_), .int .i64 (sA ry rh), .int .i64 (sB rx rw_), .int .i64 (sB ry rh), .bool false]) (by first | (simp [results, Try.results48, go_sem]; done) | (simp [results, Try.results48, go_sem]; omega)) rfl ⟨rfl, by go_grown⟩

set_option maxHeartbeats 4000000 in
theorem ref_Rect_any (a b c d : Int) (w : World) : Calls Try.prog 49 #[.int .i64 a, .int .i64 b, .int .i64 c, .int .i64 d] w fun e w' => e = .returned (.agg #[.int .i64 (mkR a b c d).x, .int .i64 (mkR a b c d).y, .int .i64 (mkR a b c d).w, .int .i64 (mkR a b c d).h]) ∧ Below w.heap.size w w' := by
  by_cases h1 : max a (-1048576) < min c 1048576
  · by_cases h2 : max b (-1048576) < min d 1048576
    · have e : mkR a b c d = ⟨max a (-1048576), max b (-1048576), min c 1048576 - max a (-1048576), min d 1048576 - max b (-1048576)⟩ := by unfold mkR; rw [if_pos ⟨h1, h2⟩]
      rw [e]
      clear e
      go_enter Try.func49, Try.ntmps49
      go_wp2
      exact bodyPost_ret (v := .agg #[.int .i64 (max a (-1048576)), .int .i64 (max b (-1048576)), .int .i64 (min c 1048576 - max a (-1048576)), .int .i64 (min d 1048576 - max b (-1048576))]) (by simp [results, Try.results49, go_sem]) rfl ⟨rfl, by go_grown⟩
    · rw [show mkR a b c d = zR by unfold mkR; rw [if_neg (by omega)]]
      go_enter Try.func49, Try.ntmps49
      go_wp2
      exact bodyPost_ret (v := .agg #[.int .i64 0, .int .i64 0, .int .i64 0, .int .i64 0]) (by simp [results, Try.results49, go_sem]) rfl ⟨rfl, by go_grown⟩
  · rw [show mkR a b c d = zR by unfold mkR; rw [if_neg (by omega)]]
    go_enter Try.func49, Try.ntmps49
    go_wp2
    exact bodyPost_ret (v := .agg #[.int .i64 0, .int .i64 0, .int .i64 0, .int .i64 0]) (by simp [results, Try.results49, go_sem]) rfl ⟨rfl, by go_grown⟩

set_option maxHeartbeats 4000000 in
theorem ref_Has_any (rx ry rw_ rh x y : Int) (w : World) (hrx : -9223372036854775808 ≤ rx ∧ rx ≤ 9223372036854775807) (hry : -9223372036854775808 ≤ ry ∧ ry ≤ 9223372036854775807) (hrw_ : -9223372036854775808 ≤ rw_ ∧ rw_ ≤ 9223372036854775807) (hrh : -9223372036854775808 ≤ rh ∧ rh ≤ 9223372036854775807) : Calls Try.prog 15 #[.agg #[.int .i64 rx, .int .i64 ry, .int .i64 rw_, .int .i64 rh], .int .i64 x, .int .i64 y] w fun e w' => e = .returned (.bool (hasR ⟨rx, ry, rw_, rh⟩ x y)) ∧ Below w.heap.size w w' := by
  cases ok : okB rx ry rw_ rh
  · rw [show hasR ⟨rx, ry, rw_, rh⟩ x y = false by unfold hasR okR4; rw [ok]; rfl]
    go_enter Try.func15, Try.ntmps15
    go_wp2_with fail
    refine (ref_Ends_any _ _ _ _ _ hrx hry hrw_ hrh).mono ?_
    rw [ok_same, ok]
    rintro e w1 ⟨rfl, hb⟩
    have B1 := below_via hb (below_al (Below.refl w.heap.size w) _)
    have S1 := B1.size
    clear ok
    go_wp2
    go_ret
    exact ⟨rfl, by go_grown⟩
  · have e : hasR ⟨rx, ry, rw_, rh⟩ x y = decide (rlo rx ≤ x ∧ x < rhi rx rw_ ∧ rlo ry ≤ y ∧ y < rhi ry rh) := by unfold hasR okR4; rw [ok]; rfl
    rw [e]
    clear e
    have ok' := okB_spec.1 ok
    have s1 := side_same rx rw_ ok'.1
    have s2 := side_same ry rh ok'.2
    rcases (show x < rlo rx ∨ (rlo rx ≤ x ∧ rhi rx rw_ ≤ x) ∨ (rlo rx ≤ x ∧ x < rhi rx rw_ ∧ y < rlo ry) ∨ (rlo rx ≤ x ∧ x < rhi rx rw_ ∧ rlo ry ≤ y ∧ rhi ry rh ≤ y) ∨ (rlo rx ≤ x ∧ x < rhi rx rw_ ∧ rlo ry ≤ y ∧ y < rhi ry rh) by omega) with k | k | k | k | k
    all_goals
      go_enter Try.func15, Try.ntmps15
      go_wp2_with fail
      refine (ref_Ends_any _ _ _ _ _ hrx hry hrw_ hrh).mono ?_
      rw [ok_same, ok, s1.1, s1.2, s2.1, s2.2]
      rintro e w1 ⟨rfl, hb⟩
      have B1 := below_via hb (below_al (Below.refl w.heap.size w) _)
      have S1 := B1.size
      clear s1 s2 ok
      go_wp2
      go_ret
      refine ⟨ret_bool ?_, by go_grown⟩
      first | (simp; omega) | (simp [*]; done)

set_option maxHeartbeats 4000000 in
theorem ref_Empty_any (rx ry rw_ rh : Int) (w : World) (hrx : -9223372036854775808 ≤ rx ∧ rx ≤ 9223372036854775807) (hry : -9223372036854775808 ≤ ry ∧ ry ≤ 9223372036854775807) (hrw_ : -9223372036854775808 ≤ rw_ ∧ rw_ ≤ 9223372036854775807) (hrh : -9223372036854775808 ≤ rh ∧ rh ≤ 9223372036854775807) : Calls Try.prog 26 #[.agg #[.int .i64 rx, .int .i64 ry, .int .i64 rw_, .int .i64 rh]] w fun e w' => e = .returned (.bool (!okB rx ry rw_ rh)) ∧ Below w.heap.size w w' := by
  cases ok : okB rx ry rw_ rh
  all_goals
    go_enter Try.func26, Try.ntmps26
    go_wp2_with fail
    refine (ref_Ends_any _ _ _ _ _ hrx hry hrw_ hrh).mono ?_
    rw [ok_same, ok]
    rintro e w1 ⟨rfl, hb⟩
    have B1 := below_via hb (below_al (Below.refl w.heap.size w) _)
    have S1 := B1.size
    go_wp2
    go_ret
    exact ⟨rfl, by go_grown⟩

end Go.Proofs.Ytekcheccelllcaa
