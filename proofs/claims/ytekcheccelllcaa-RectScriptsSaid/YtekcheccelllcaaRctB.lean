/- Contracts of package rect's plain functions. -/
import Derived.Test.YtekcheccelllcaaRctA
namespace Go.Proofs.Ytekcheccelllcaa
open Go.RowKit
set_option linter.unusedVariables false
set_option linter.unusedSimpArgs false
attribute [local go_sem ↓] Go.wp_at_zero Go.wp_at_succ

set_option maxHeartbeats 4000000 in
theorem rect_rect_any (a b c d : Int) (w : World) : Calls Try.prog 50 #[.agg #[.int .i64 a, .int .i64 b, .int .i64 c, .int .i64 d]] w fun e w' => e = .returned (.agg #[.int .i64 (mkR a b c d).x, .int .i64 (mkR a b c d).y, .int .i64 (mkR a b c d).w, .int .i64 (mkR a b c d).h]) ∧ Below w.heap.size w w' := by
  by_cases h1 : max a (-1048576) < min c 1048576
  · by_cases h2 : max b (-1048576) < min d 1048576
    · have e : mkR a b c d = ⟨max a (-1048576), max b (-1048576), min c 1048576 - max a (-1048576), min d 1048576 - max b (-1048576)⟩ := by unfold mkR; rw [if_pos ⟨h1, h2⟩]
      rw [e]
      clear e
      go_enter Try.func50, Try.ntmps50
      go_wp2
      exact bodyPost_ret (v := .agg #[.int .i64 (max a (-1048576)), .int .i64 (max b (-1048576)), .int .i64 (min c 1048576 - max a (-1048576)), .int .i64 (min d 1048576 - max b (-1048576))]) (by simp [results, Try.results50, go_sem]) rfl ⟨rfl, by go_grown⟩
    · have e : mkR a b c d = zR := by unfold mkR; rw [if_neg (by omega)]
      rw [e]
      clear e
      go_enter Try.func50, Try.ntmps50
      go_wp2
      exact bodyPost_ret (v := .agg #[.int .i64 0, .int .i64 0, .int .i64 0, .int .i64 0]) (by simp [results, Try.results50, go_sem]) rfl ⟨rfl, by go_grown⟩
  · have e : mkR a b c d = zR := by unfold mkR; rw [if_neg (by omega)]
    rw [e]
    clear e
    go_enter Try.func50, Try.ntmps50
    go_wp2
    exact bodyPost_ret (v := .agg #[.int .i64 0, .int .i64 0, .int .i64 0, .int .i64 0]) (by simp [results, Try.results50, go_sem]) rfl ⟨rfl, by go_grown⟩

set_option maxHeartbeats 4000000 in
theorem rect_Has_any (rx ry rw_ rh x y : Int) (w : World) (hrx : -9223372036854775808 ≤ rx ∧ rx ≤ 9223372036854775807) (hry : -9223372036854775808 ≤ ry ∧ ry ≤ 9223372036854775807) (hrw_ : -9223372036854775808 ≤ rw_ ∧ rw_ ≤ 9223372036854775807) (hrh : -9223372036854775808 ≤ rh ∧ rh ≤ 9223372036854775807) : Calls Try.prog 14 #[.agg #[.int .i64 rx, .int .i64 ry, .int .i64 rw_, .int .i64 rh], .int .i64 x, .int .i64 y] w fun e w' => e = .returned (.bool (hasR ⟨rx, ry, rw_, rh⟩ x y)) ∧ Below w.heap.size w w' := by
  cases ok : okB rx ry rw_ rh
  · have e : hasR ⟨rx, ry, rw_, rh⟩ x y = false := by unfold hasR okR4; rw [ok]; rfl
    rw [e]
    clear e
    go_enter Try.func14, Try.ntmps14
    go_wp2_with fail
    refine (rect_ends_any _ _ _ _ _ hrx hry hrw_ hrh).mono ?_
    rw [ok]
    rintro e w1 ⟨rfl, hb⟩
    have B1 := below_via hb (below_al (Below.refl w.heap.size w) _)
    clear ok
    go_wp2
    go_ret
    exact ⟨rfl, by have S1 := B1.size; go_grown⟩
  · have e : hasR ⟨rx, ry, rw_, rh⟩ x y = decide (rlo rx ≤ x ∧ x < rhi rx rw_ ∧ rlo ry ≤ y ∧ y < rhi ry rh) := by unfold hasR okR4; rw [ok]; rfl
    rw [e]
    clear e
    rcases (show x < rlo rx ∨ (rlo rx ≤ x ∧ rhi rx rw_ ≤ x) ∨ (rlo rx ≤ x ∧ x < rhi rx rw_ ∧ y < rlo ry) ∨ (rlo rx ≤ x ∧ x < rhi rx rw_ ∧ rlo ry ≤ y ∧ rhi ry rh ≤ y) ∨ (rlo rx ≤ x ∧ x < rhi rx rw_ ∧ rlo ry ≤ y ∧ y < rhi ry rh) by omega) with k | k | k | k | k
    all_goals
      go_enter Try.func14, Try.ntmps14
      go_wp2_with fail
      refine (rect_ends_any _ _ _ _ _ hrx hry hrw_ hrh).mono ?_
      rw [ok]
      rintro e w1 ⟨rfl, hb⟩
      have B1 := below_via hb (below_al (Below.refl w.heap.size w) _)
      go_wp2
      go_ret
      refine ⟨ret_bool ?_, by have S1 := B1.size; go_grown⟩
      first | (simp; omega) | (simp [*]; done)

end Go.Proofs.Ytekcheccelllcaa
