/- Layer 13: within, and what a box shows. -/
import Derived.Test.YtebalohoblaedaaGlyX
import Derived.Deep.CutRange
namespace Go.Proofs.Ytebalohoblaedaa
open Go.RowKit
set_option linter.unusedVariables false
set_option linter.unusedSimpArgs false

theorem within_is (x n q : Int) (hq : q = x % n) (hn : 0 < n ∧ n ≤ 64 ∧ -9223372036854775808 ≤ x ∧ x ≤ 9223372036854775807) (w : World) : Calls Try.prog 23 #[.int .i64 x, .int .i64 n] w fun e w' => e = .returned (.int .i64 q) ∧ w = w' := by
  obtain ⟨n0, n1, x0, x1⟩ := hn
  have hn0 : n ≠ 0 := by omega
  have e := Int.emod_nonneg x hn0
  have e' := Int.emod_lt_of_pos x n0
  have hnat : (n.natAbs : Int) = n := Int.natAbs_of_nonneg (by omega)
  have t : q = if x.tmod n < 0 then x.tmod n + n else x.tmod n := by
    rw [hq, Int.tmod_eq_emod]
    split
    · rw [if_neg (by omega)]; omega
    · split <;> omega
  have t1 : -64 < x.tmod n ∧ x.tmod n < 64 := by
    rw [Int.tmod_eq_emod]
    split <;> omega
  clear hq e e' hnat
  by_cases h : x.tmod n < 0
  · rw [if_pos h] at t
    subst t
    go_enter Try.func23, Try.ntmps23
    go_wp2
    go_ret
    exact ⟨rfl, rfl⟩
  · rw [if_neg h] at t
    subst t
    go_enter Try.func23, Try.ntmps23
    go_wp2
    go_ret
    exact ⟨rfl, rfl⟩
/-- the box's cell, by what the law asks -/
theorem want_is (X Y wv hv K : Int) (i j : Nat) (bi bl br bu bd : Bool) (h : bi = decide (X ≤ (i : Int) ∧ (i : Int) < X + wv ∧ Y ≤ (j : Int) ∧ (j : Int) < Y + hv)) (hl : bl = decide ((i : Int) = X)) (hr : br = decide ((i : Int) = X + wv - 1)) (hu : bu = decide ((j : Int) = Y)) (hd : bd = decide ((j : Int) = Y + hv - 1)) :
    wantB X Y (X + wv - 1) (Y + hv - 1) K i j = oneK K (bi && (bl || br) && !bu) (bi && (bu || bd) && !br) (bi && (bl || br) && !bd) (bi && (bu || bd) && !bl) := by
  subst h hl hr hu hd
  unfold wantB
  congr 1
  all_goals
    rw [Bool.eq_iff_iff]
    simp only [Bool.or_eq_true, Bool.and_eq_true, decide_eq_true_eq, Bool.not_eq_true', decide_eq_false_iff_not]
    omega
theorem within_any (x n : Int) (hn : 0 < n ∧ n ≤ 64 ∧ -9223372036854775808 ≤ x ∧ x ≤ 9223372036854775807) (w : World) : Calls Try.prog 23 #[.int .i64 x, .int .i64 n] w fun e w' => e = .returned (.int .i64 (x % n)) ∧ w = w' := within_is x n _ rfl hn w
end Go.Proofs.Ytebalohoblaedaa
