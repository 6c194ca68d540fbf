/- Layer 13: letters, kinds, what counts. -/
import Derived.Test.YtebalohoblaedaaBase
import Derived.LoopN
namespace Go.Proofs.Ytebalohoblaedaa
open Go.RowKit
set_option linter.unusedVariables false
set_option linter.unusedSimpArgs false

/-- a kind of line as a letter -/
def letN (x : Int) : Int := if x = 1 then 76 else if x = 2 then 72 else if x = 3 then 68 else if x = 4 then 82 else 45
/-- a letter as a kind of line -/
def kinN (c : Int) : Int := if c = 76 then 1 else if c = 72 then 2 else if c = 68 then 3 else if c = 82 then 4 else 0
/-- what is no line is none -/
def cnt (x : Int) : Int := if x = 1 then 1 else if x = 2 then 2 else if x = 3 then 3 else if x = 4 then 4 else 0
theorem kinN_letN (x : Int) : kinN (letN x) = cnt x := by
  unfold kinN letN cnt
  repeat' split
  all_goals omega
theorem ret_u8 {a b : Int} (h : a = b) : Ending.returned (.int .u8 a) = .returned (.int .u8 b) := by rw [h]
theorem ret_i8 {a b : Int} (h : a = b) : Ending.returned (.int .i8 a) = .returned (.int .i8 b) := by rw [h]

theorem letter_any (x : Int) (w : World) : Calls Try.prog 43 #[.int .i8 x] w fun e w' => e = .returned (.int .u8 (letN x)) ∧ w = w' := by
  by_cases h1 : x = 1
  · subst h1
    go_enter Try.func43, Try.ntmps43
    go_wp2
    go_ret
    exact ⟨rfl, rfl⟩
  by_cases h2 : x = 2
  · subst h2
    go_enter Try.func43, Try.ntmps43
    go_wp2
    go_ret
    exact ⟨rfl, rfl⟩
  by_cases h3 : x = 3
  · subst h3
    go_enter Try.func43, Try.ntmps43
    go_wp2
    go_ret
    exact ⟨rfl, rfl⟩
  by_cases h4 : x = 4
  · subst h4
    go_enter Try.func43, Try.ntmps43
    go_wp2
    go_ret
    exact ⟨rfl, rfl⟩
  have b1 : (x == 1) = false := by simp [h1]
  have b2 : (x == 2) = false := by simp [h2]
  have b3 : (x == 3) = false := by simp [h3]
  have b4 : (x == 4) = false := by simp [h4]
  have e : letN x = 45 := by unfold letN; rw [if_neg h1, if_neg h2, if_neg h3, if_neg h4]
  rw [e]
  clear e h1 h2 h3 h4
  go_enter Try.func43, Try.ntmps43
  go_wp2
  go_ret
  exact ⟨rfl, rfl⟩

theorem kind_any (x : Int) (w : World) : Calls Try.prog 38 #[.int .u8 x] w fun e w' => e = .returned (.int .i8 (kinN x)) ∧ w = w' := by
  by_cases h1 : x = 76
  · subst h1
    go_enter Try.func38, Try.ntmps38
    go_wp2
    go_ret
    exact ⟨rfl, rfl⟩
  by_cases h2 : x = 72
  · subst h2
    go_enter Try.func38, Try.ntmps38
    go_wp2
    go_ret
    exact ⟨rfl, rfl⟩
  by_cases h3 : x = 68
  · subst h3
    go_enter Try.func38, Try.ntmps38
    go_wp2
    go_ret
    exact ⟨rfl, rfl⟩
  by_cases h4 : x = 82
  · subst h4
    go_enter Try.func38, Try.ntmps38
    go_wp2
    go_ret
    exact ⟨rfl, rfl⟩
  have b1 : (x == 76) = false := by simp [h1]
  have b2 : (x == 72) = false := by simp [h2]
  have b3 : (x == 68) = false := by simp [h3]
  have b4 : (x == 82) = false := by simp [h4]
  have e : kinN x = 0 := by unfold kinN; rw [if_neg h1, if_neg h2, if_neg h3, if_neg h4]
  rw [e]
  clear e h1 h2 h3 h4
  go_enter Try.func38, Try.ntmps38
  go_wp2
  go_ret
  exact ⟨rfl, rfl⟩

set_option maxHeartbeats 4000000 in
theorem counted_any (a b c d : Int) (w : World) : Calls Try.prog 33 #[.agg #[.int .i8 a, .int .i8 b, .int .i8 c, .int .i8 d]] w fun e w' => e = .returned (.agg #[.int .i8 (cnt a), .int .i8 (cnt b), .int .i8 (cnt c), .int .i8 (cnt d)]) ∧ Below w.heap.size w w' := by
  have ka := Lib.hid (kinN_letN a); have kb := Lib.hid (kinN_letN b); have kc := Lib.hid (kinN_letN c); have kd := Lib.hid (kinN_letN d)
  go_enter Try.func33, Try.ntmps33
  go_wp2
  refine wp_loop_rounds 5 ?_
  iterate 4
    rw [rounds_succ]
    go_wp2_with (first | (go_at_call 43; refine (letter_any _ _).mono ?_; rintro e w' ⟨rfl, rfl⟩) | (go_at_call 38; refine (kind_any _ _).mono ?_; rintro e w' ⟨rfl, rfl⟩))
  rw [rounds_succ]
  go_wp2
  rw [ka.out, kb.out, kc.out, kd.out]
  exact bodyPost_ret (v := .agg #[.int .i8 (cnt a), .int .i8 (cnt b), .int .i8 (cnt c), .int .i8 (cnt d)]) (by simp [results, Try.results33, go_sem]) rfl ⟨rfl, by go_grown⟩
end Go.Proofs.Ytebalohoblaedaa
