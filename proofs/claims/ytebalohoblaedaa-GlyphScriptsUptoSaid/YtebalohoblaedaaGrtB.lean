/- Contracts of package rect's plain functions. -/
import Derived.Test.YtebalohoblaedaaRctA
namespace Go.Proofs.Ytebalohoblaedaa
open Go.RowKit
set_option linter.unusedVariables false
set_option linter.unusedSimpArgs false
attribute [local go_sem ↓] Go.wp_at_zero Go.wp_at_succ

set_option maxHeartbeats 4000000 in
theorem rect_rect_any (a b c d : Int) (w : World) : Calls Try.prog 54 #[.agg #[.int .i64 a, .int .i64 b, .int .i64 c, .int .i64 d]] w fun e w' => e = .returned (.agg #[.int .i64 (mkR a b c d).x, .int .i64 (mkR a b c d).y, .int .i64 (mkR a b c d).w, .int .i64 (mkR a b c d).h]) ∧ Below w.heap.size w w' := by
  by_cases h1 : max a (-1048576) < min c 1048576
  · by_cases h2 : max b (-1048576) < min d 1048576
    · have e : mkR a b c d = ⟨max a (-1048576), max b (-1048576), min c 1048576 - max a (-1048576), min d 1048576 - max b (-1048576)⟩ := by unfold mkR; rw [if_pos ⟨h1, h2⟩]
      rw [e]
      clear e
      go_enter Try.func54, Try.ntmps54
      go_wp2
      exact bodyPost_ret (v := .agg #[.int .i64 (max a (-1048576)), .int .i64 (max b (-1048576)), .int .i64 (min c 1048576 - max a (-1048576)), .int .i64 (min d 1048576 - max b (-1048576))]) (by simp [results, Try.results54, go_sem]) rfl ⟨rfl, by go_grown⟩
    · have e : mkR a b c d = zR := by unfold mkR; rw [if_neg (by omega)]
      rw [e]
      clear e
      go_enter Try.func54, Try.ntmps54
      go_wp2
      exact bodyPost_ret (v := .agg #[.int .i64 0, .int .i64 0, .int .i64 0, .int .i64 0]) (by simp [results, Try.results54, go_sem]) rfl ⟨rfl, by go_grown⟩
  · have e : mkR a b c d = zR := by unfold mkR; rw [if_neg (by omega)]
    rw [e]
    clear e
    go_enter Try.func54, Try.ntmps54
    go_wp2
    exact bodyPost_ret (v := .agg #[.int .i64 0, .int .i64 0, .int .i64 0, .int .i64 0]) (by simp [results, Try.results54, go_sem]) rfl ⟨rfl, by go_grown⟩

end Go.Proofs.Ytebalohoblaedaa
