/- Contracts of the small functions of package scroll and of its reference (integers alone). -/
import Derived.Test.YtegdokchkblpiaaBase
import Derived.Deep.RegionHeld3
import Derived.Deep.DrawnRows
namespace Go.Proofs.Ytegdokchkblpiaa
open Go.RowKit


/-- a coordinate brought into the plane; a size -/
def ptF (n : Int) : Int := min (max n (-1048576)) 1048576
def szF (n : Int) : Int := min (max n 0) 1048576
def broughtF (n a b : Int) : Int := if (if n > b then b else n) < a then a else (if n > b then b else n)
def clampF (at_ most : Int) : Int := max 0 (min (ptF at_) (ptF most))
def alongF (view frm long at_ : Int) : Int := if szF view ≤ szF long then ptF frm else min (max (ptF at_) (ptF frm + szF long - szF view)) (ptF frm)
def revealF (v x w a : Int) : Int := if szF v ≤ szF w ∨ ptF x < ptF a then ptF x else if ptF a < ptF x + szF w - szF v then ptF x + szF w - szF v else ptF a

theorem ptF_bd (n : Int) : -1048576 ≤ ptF n ∧ ptF n ≤ 1048576 := by unfold ptF; omega
theorem szF_bd (n : Int) : 0 ≤ szF n ∧ szF n ≤ 1048576 := by unfold szF; omega

set_option maxHeartbeats 400000 in
theorem scroll_point_any (n : Int) (w : World) : Calls Try.prog 39 #[.int .i64 n] w fun e w' => e = .returned (.int .i64 (ptF n)) ∧ w = w' := by
  go_enter Try.func39, Try.ntmps39
  go_wp2
  all_goals go_ret
  all_goals exact ⟨ret_int (by unfold ptF; omega), rfl⟩

set_option maxHeartbeats 400000 in
theorem law_point_any (n : Int) (w : World) : Calls Try.prog 19 #[.int .i64 n] w fun e w' => e = .returned (.int .i64 (ptF n)) ∧ w = w' := by
  go_enter Try.func19, Try.ntmps19
  go_wp2
  all_goals go_ret
  all_goals exact ⟨ret_int (by unfold ptF; omega), rfl⟩

set_option maxHeartbeats 400000 in
theorem scroll_size_any (n : Int) (w : World) : Calls Try.prog 46 #[.int .i64 n] w fun e w' => e = .returned (.int .i64 (szF n)) ∧ w = w' := by
  go_enter Try.func46, Try.ntmps46
  go_wp2
  all_goals go_ret
  all_goals exact ⟨ret_int (by unfold szF; omega), rfl⟩

set_option maxHeartbeats 400000 in
theorem law_size_any (n : Int) (w : World) : Calls Try.prog 40 #[.int .i64 n] w fun e w' => e = .returned (.int .i64 (szF n)) ∧ w = w' := by
  go_enter Try.func40, Try.ntmps40
  go_wp2
  all_goals go_ret
  all_goals exact ⟨ret_int (by unfold szF; omega), rfl⟩

set_option maxHeartbeats 400000 in
theorem ref_brought_any (n a b : Int) (w : World) : Calls Try.prog 35 #[.int .i64 n, .int .i64 a, .int .i64 b] w fun e w' => e = .returned (.int .i64 (broughtF n a b)) ∧ w = w' := by
  go_enter Try.func35, Try.ntmps35
  go_wp2
  all_goals go_ret
  all_goals exact ⟨ret_int (by unfold broughtF; omega), rfl⟩

set_option maxHeartbeats 400000 in
theorem ref_point_any (n : Int) (w : World) : Calls Try.prog 36 #[.int .i64 n] w fun e w' => e = .returned (.int .i64 (ptF n)) ∧ w = w' := by
  go_enter Try.func36, Try.ntmps36
  go_wp2_with (go_at_call 35; refine (ref_brought_any _ _ _ _).mono ?_; rintro e w' ⟨rfl, rfl⟩)
  go_ret
  exact ⟨ret_int (by unfold broughtF ptF; omega), rfl⟩

set_option maxHeartbeats 400000 in
theorem ref_size_any (n : Int) (w : World) : Calls Try.prog 44 #[.int .i64 n] w fun e w' => e = .returned (.int .i64 (szF n)) ∧ w = w' := by
  go_enter Try.func44, Try.ntmps44
  go_wp2_with (go_at_call 35; refine (ref_brought_any _ _ _ _).mono ?_; rintro e w' ⟨rfl, rfl⟩)
  go_ret
  exact ⟨ret_int (by unfold broughtF szF; omega), rfl⟩

set_option maxHeartbeats 400000 in
theorem scroll_clamp_any (a m : Int) (w : World) : Calls Try.prog 34 #[.int .i64 a, .int .i64 m] w fun e w' => e = .returned (.int .i64 (clampF a m)) ∧ w = w' := by
  go_enter Try.func34, Try.ntmps34
  go_wp2_with (go_at_call 39; refine (scroll_point_any _ _).mono ?_; rintro e w' ⟨rfl, rfl⟩)
  all_goals go_ret
  all_goals exact ⟨ret_int (by unfold clampF; omega), rfl⟩

set_option maxHeartbeats 400000 in
theorem scroll_along_any (v x l a : Int) (w : World) : Calls Try.prog 37 #[.int .i64 v, .int .i64 x, .int .i64 l, .int .i64 a] w fun e w' => e = .returned (.int .i64 (alongF v x l a)) ∧ w = w' := by
  have h1 := ptF_bd x; have h2 := ptF_bd a; have h3 := szF_bd v; have h4 := szF_bd l
  go_enter Try.func37, Try.ntmps37
  go_wp2_with (first | (go_at_call 39; refine (scroll_point_any _ _).mono ?_; rintro e w' ⟨rfl, rfl⟩) | (go_at_call 46; refine (scroll_size_any _ _).mono ?_; rintro e w' ⟨rfl, rfl⟩))
  all_goals go_ret
  all_goals exact ⟨ret_int (by unfold alongF; omega), rfl⟩

set_option maxHeartbeats 400000 in
theorem ref_reveal_any (v x l a : Int) (w : World) : Calls Try.prog 38 #[.int .i64 v, .int .i64 x, .int .i64 l, .int .i64 a] w fun e w' => e = .returned (.int .i64 (revealF v x l a)) ∧ w = w' := by
  have h1 := ptF_bd x; have h2 := ptF_bd a; have h3 := szF_bd v; have h4 := szF_bd l
  go_enter Try.func38, Try.ntmps38
  go_wp2_with (first | (go_at_call 36; refine (ref_point_any _ _).mono ?_; rintro e w' ⟨rfl, rfl⟩) | (go_at_call 44; refine (ref_size_any _ _).mono ?_; rintro e w' ⟨rfl, rfl⟩))
  go_ways
  all_goals go_ret
  all_goals exact ⟨ret_int (by unfold revealF; omega), rfl⟩
end Go.Proofs.Ytegdokchkblpiaa
