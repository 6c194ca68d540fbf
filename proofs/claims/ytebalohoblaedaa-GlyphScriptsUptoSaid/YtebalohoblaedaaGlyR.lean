/- Layer 13: the reference's New; the walk of GlyphNew. -/
import Derived.Test.YtebalohoblaedaaGlyQ
namespace Go.Proofs.Ytebalohoblaedaa
open Go.RowKit
set_option linter.unusedVariables false
set_option linter.unusedSimpArgs false

set_option maxRecDepth 100000 in
set_option maxHeartbeats 4000000 in
theorem rnew_no (x y : Int) (h : sizeOk x y = false) (w : World) : Calls Try.prog 22 #[.int .i64 x, .int .i64 y] w fun e w' => e = .returned (.tuple #[.pointer none, .int .i64 5]) ∧ w = w' := by
  unfold sizeOk at h
  simp only [decide_eq_false_iff_not] at h
  by_cases h1 : x < 0
  · clear h
    go_enter Try.func22, Try.ntmps22
    go_wp2
    go_ret2
    exact ⟨rfl, rfl⟩
  by_cases h2 : 4096 < x
  · clear h
    go_enter Try.func22, Try.ntmps22
    go_wp2
    go_ret2
    exact ⟨rfl, rfl⟩
  by_cases h3 : y < 0
  · clear h
    go_enter Try.func22, Try.ntmps22
    go_wp2
    go_ret2
    exact ⟨rfl, rfl⟩
  by_cases h4 : 4096 < y
  · clear h
    go_enter Try.func22, Try.ntmps22
    go_wp2
    go_ret2
    exact ⟨rfl, rfl⟩
  have h5 : 1048576 < x * y := by
    rcases Int.lt_or_le 1048576 (x * y) with h5 | h5
    · exact h5
    · exact absurd ⟨by omega, by omega, by omega, by omega, h5⟩ h
  clear h
  have h6 : 0 ≤ x * y ∧ x * y ≤ 16777216 := ⟨Int.mul_nonneg (by omega) (by omega), by
    have := Int.mul_le_mul (show x ≤ 4096 by omega) (show y ≤ 4096 by omega) (by omega) (by omega)
    omega⟩
  go_enter Try.func22, Try.ntmps22
  go_wp2
  go_ret2
  exact ⟨rfl, rfl⟩
set_option maxRecDepth 100000 in
set_option maxHeartbeats 4000000 in
theorem rnew_yes (W H : Nat) (h1 : W ≤ 4096) (h2 : H ≤ 4096) (h3 : W * H ≤ 1048576) (w : World) : Calls Try.prog 22 #[.int .i64 (W : Int), .int .i64 (H : Int)] w fun e w' => e = .returned (.tuple #[.pointer (some ⟨w.heap.size, 0, none⟩), .int .i64 0]) ∧ w' = w.alloc (.cells #[.int .i64 (W : Int), .int .i64 (H : Int), .slice none 0 0] 87) := by
  have h6 : 0 ≤ (W : Int) * (H : Int) ∧ (W : Int) * (H : Int) ≤ 1048576 := by
    rw [← Int.natCast_mul]; omega
  clear h3
  go_enter Try.func22, Try.ntmps22
  go_wp2
  go_ret2
  exact ⟨rfl, rfl⟩
theorem sizeOk_nat {x y : Int} (h : sizeOk x y = true) : ∃ W H : Nat, x = (W : Int) ∧ y = (H : Int) ∧ W ≤ 4096 ∧ H ≤ 4096 ∧ W * H ≤ 1048576 := by
  unfold sizeOk at h
  simp only [decide_eq_true_eq] at h
  obtain ⟨h1, h2, h3, h4, h5⟩ := h
  refine ⟨x.toNat, y.toNat, by omega, by omega, by omega, by omega, ?_⟩
  have e1 : x = (x.toNat : Int) := by omega
  have e2 : y = (y.toNat : Int) := by omega
  rw [e1, e2, ← Int.natCast_mul] at h5
  omega
set_option maxRecDepth 100000 in
set_option maxHeartbeats 4000000 in
theorem GlyphNew_walk (x y : Int) (w : World) : Calls Try.prog 7 #[.int .i64 x, .int .i64 y] w fun e w' => e = .returned (.bool true) ∧ Below w.heap.size w w' := by
  cases hs : sizeOk x y
  · have HS := Lib.hid hs
    clear hs
    go_enter Try.func7, Try.ntmps7
    go_wp2_with fail
    refine (new_no _ _ HS.out _).mono ?_
    rintro e w1 ⟨rfl, rfl⟩
    go_wp2_with fail
    refine (rnew_no _ _ HS.out _).mono ?_
    rintro e w1 ⟨rfl, rfl⟩
    go_wp2_with fail
    refine (wakes_any _).mono ?_
    rintro e w1 ⟨rfl, hb⟩
    go_wp2
    go_ret
    exact ⟨rfl, hb⟩
  · obtain ⟨W, H, rfl, rfl, h1, h2, h3⟩ := sizeOk_nat hs
    have H3 := Lib.hid h3
    clear hs h3
    go_enter Try.func7, Try.ntmps7
    go_wp2_with fail
    refine (new_yes W H h1 h2 H3.out _).mono ?_
    rintro e w1 ⟨rfl, hb1, _⟩
    go_wp2_with fail
    refine (rnew_yes W H h1 h2 H3.out _).mono ?_
    rintro e w2 ⟨rfl, rfl⟩
    go_wp2_with fail
    refine (wakes_any _).mono ?_
    rintro e w3 ⟨rfl, hb⟩
    have B3 := below_via hb (below_al hb1 _)
    clear hb hb1
    go_wp2
    go_ret
    exact ⟨rfl, B3⟩
end Go.Proofs.Ytebalohoblaedaa
