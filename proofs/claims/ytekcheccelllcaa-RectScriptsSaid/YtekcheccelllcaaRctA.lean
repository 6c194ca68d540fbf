/- Contracts of the numbers and ends of rectangles: the program's and the reference's. -/
import Derived.Test.YtekcheccelllcaaRctM
import Derived.Test.YtekcheccelllcaaTame
namespace Go.Proofs.Ytekcheccelllcaa
open Go.RowKit
set_option linter.unusedVariables false
set_option linter.unusedSimpArgs false
attribute [local go_sem ↓] Go.wp_at_zero Go.wp_at_succ

set_option maxHeartbeats 400000 in
theorem rect_bring_any (n a b : Int) (w : World) : Calls Try.prog 51 #[.int .i64 n, .int .i64 a, .int .i64 b] w fun e w' => e = .returned (.int .i64 (min (max n a) b)) ∧ w = w' := by
  go_enter Try.func51, Try.ntmps51
  go_wp2
  all_goals go_ret
  all_goals exact ⟨ret_int (by omega), rfl⟩

set_option maxHeartbeats 1000000 in
theorem rect_end_any (x l : Int) (w : World) (hx : -9223372036854775808 ≤ x ∧ x ≤ 9223372036854775807) (hl : -9223372036854775808 ≤ l ∧ l ≤ 9223372036854775807) : Calls Try.prog 63 #[.int .i64 x, .int .i64 l] w fun e w' => e = .returned (.int .i64 (endF x l)) ∧ w = w' := by
  rcases (show l ≤ 0 ∨ (0 < l ∧ x ≤ 0) ∨ (0 < l ∧ 0 < x ∧ 8388608 - min (max x 0) 8388608 < l) ∨ (0 < l ∧ 0 < x ∧ l ≤ 8388608 - min (max x 0) 8388608) by omega) with h | h | h | h
  all_goals
    go_enter Try.func63, Try.ntmps63
    go_wp2_with (go_at_call 51; refine (rect_bring_any _ _ _ _).mono ?_; rintro e w' ⟨rfl, rfl⟩)
    all_goals go_ret
    all_goals exact ⟨ret_int (by unfold endF; omega), rfl⟩

set_option maxHeartbeats 1000000 in
theorem ref_side_any (x l : Int) (w : World) (hx : -9223372036854775808 ≤ x ∧ x ≤ 9223372036854775807) (hl : -9223372036854775808 ≤ l ∧ l ≤ 9223372036854775807) : Calls Try.prog 64 #[.int .i64 x, .int .i64 l] w fun e w' => e = .returned (.tuple #[.int .i64 (sA x l), .int .i64 (sB x l)]) ∧ w = w' := by
  rcases (show l ≤ 0 ∨ (0 < l ∧ 1048576 ≤ x) ∨ (0 < l ∧ x < -1048576) ∨ (0 < l ∧ -1048576 ≤ x ∧ x < 1048576) by omega) with h | h | h | h
  all_goals
    go_enter Try.func64, Try.ntmps64
    go_wp2
    all_goals go_ret2
    all_goals exact ⟨ret_int2 (by unfold sA; omega) (by unfold sB; omega), rfl⟩


theorem okB_tt {x y w h : Int} (h1 : rlo x < rhi x w) (h2 : rlo y < rhi y h) : okB x y w h = true := okB_spec.2 ⟨h1, h2⟩
theorem okB_f1 {x y w h : Int} (h1 : ¬ rlo x < rhi x w) : okB x y w h = false := okB_not.2 (by omega)
theorem okB_f2 {x y w h : Int} (h2 : ¬ rlo y < rhi y h) : okB x y w h = false := okB_not.2 (by omega)

set_option maxHeartbeats 4000000 in
theorem rect_ends_any (x y l h : Int) (w : World) (hx : -9223372036854775808 ≤ x ∧ x ≤ 9223372036854775807) (hy : -9223372036854775808 ≤ y ∧ y ≤ 9223372036854775807) (hl : -9223372036854775808 ≤ l ∧ l ≤ 9223372036854775807) (hh : -9223372036854775808 ≤ h ∧ h ≤ 9223372036854775807) :
    Calls Try.prog 47 #[.agg #[.int .i64 x, .int .i64 y, .int .i64 l, .int .i64 h]] w fun e w' => e = .returned (.tuple #[.agg #[.int .i64 (rlo x), .int .i64 (rlo y), .int .i64 (rhi x l), .int .i64 (rhi y h)], .bool (okB x y l h)]) ∧ Below w.heap.size w w' := by
  go_enter Try.func47, Try.ntmps47
  go_wp2
  refine wp_region_tame (phase2 19 20 (fun s t => if s then (if t then (((w.alloc (.cells #[.int .i64 x, .int .i64 y, .int .i64 l, .int .i64 h] 23)).alloc (.cells #[.int .i64 0, .int .i64 0, .int .i64 0, .int .i64 0] 70)).alloc (.cells #[.int .i64 (rlo x), .int .i64 (rlo y), .int .i64 (rhi x l), .int .i64 (rhi y h)] 70)).drew else (((w.alloc (.cells #[.int .i64 x, .int .i64 y, .int .i64 l, .int .i64 h] 23)).alloc (.cells #[.int .i64 0, .int .i64 0, .int .i64 0, .int .i64 0] 70)).alloc (.cells #[.int .i64 0, .int .i64 0, .int .i64 0, .int .i64 0] 70)).drew) else ((w.alloc (.cells #[.int .i64 x, .int .i64 y, .int .i64 l, .int .i64 h] 23)).alloc (.cells #[.int .i64 0, .int .i64 0, .int .i64 0, .int .i64 0] 70)).drew)) (by kernel_rfl) (by kernel_rfl) (phase2_init _ rfl) ?_
  apply lexT_value2 (by decide) (by decide) (by rfl)
  · (rintro (_ | _) (_ | _) <;> go_simp <;> try rfl)
  simp only [Act.put, List.setIfInBounds_toArray, List.set_cons_zero, List.set_cons_succ]
  apply lexT_value2 (by decide) (by decide) (by rfl)
  · (rintro (_ | _) (_ | _) <;> go_simp <;> try rfl)
  simp only [Act.put, List.setIfInBounds_toArray, List.set_cons_zero, List.set_cons_succ]
  apply lexT_value2 (by decide) (by decide) (by rfl)
  · (rintro (_ | _) (_ | _) <;> go_simp <;> try rfl)
  simp only [Act.put, List.setIfInBounds_toArray, List.set_cons_zero, List.set_cons_succ]
  apply lexT_value2 (by decide) (by decide) (by rfl)
  · (rintro (_ | _) (_ | _) <;> go_simp <;> try rfl)
  simp only [Act.put, List.setIfInBounds_toArray, List.set_cons_zero, List.set_cons_succ]
  apply lexT_value2 (by decide) (by decide) (by rfl)
  · (rintro (_ | _) (_ | _) <;> go_simp <;> try rfl)
  simp only [Act.put, List.setIfInBounds_toArray, List.set_cons_zero, List.set_cons_succ]
  apply lexT_value2 (by decide) (by decide) (by rfl)
  · (rintro (_ | _) (_ | _) <;> go_simp <;> try rfl)
  simp only [Act.put, List.setIfInBounds_toArray, List.set_cons_zero, List.set_cons_succ]
  apply lexT_value2 (by decide) (by decide) (by rfl)
  · (rintro (_ | _) (_ | _) <;> go_simp <;> try rfl)
  simp only [Act.put, List.setIfInBounds_toArray, List.set_cons_zero, List.set_cons_succ]
  apply lexT_value2 (by decide) (by decide) (by rfl)
  · (rintro (_ | _) (_ | _) <;> go_simp <;> try rfl)
  simp only [Act.put, List.setIfInBounds_toArray, List.set_cons_zero, List.set_cons_succ]
  apply lexT_value2 (by decide) (by decide) (by rfl)
  · (rintro (_ | _) (_ | _) <;> go_simp <;> try rfl)
  simp only [Act.put, List.setIfInBounds_toArray, List.set_cons_zero, List.set_cons_succ]
  apply lexT_value2 (by decide) (by decide) (by rfl)
  · (rintro (_ | _) (_ | _) <;> go_simp <;> try rfl)
  simp only [Act.put, List.setIfInBounds_toArray, List.set_cons_zero, List.set_cons_succ]
  apply lexT_call2 (by decide) (by decide) (by rfl)
  · (rintro (_ | _) (_ | _) <;> go_simp <;> exact ⟨rfl, rfl⟩)
  · exact fun w => rect_end_any x l w hx hl
  simp only [Act.put, List.setIfInBounds_toArray, List.set_cons_zero, List.set_cons_succ]
  apply lexT_value2 (by decide) (by decide) (by rfl)
  · (rintro (_ | _) (_ | _) <;> go_simp <;> try rfl)
  simp only [Act.put, List.setIfInBounds_toArray, List.set_cons_zero, List.set_cons_succ]
  apply lexT_value2 (by decide) (by decide) (by rfl)
  · (rintro (_ | _) (_ | _) <;> go_simp <;> try rfl)
  simp only [Act.put, List.setIfInBounds_toArray, List.set_cons_zero, List.set_cons_succ]
  apply lexT_value2 (by decide) (by decide) (by rfl)
  · (rintro (_ | _) (_ | _) <;> go_simp <;> try rfl)
  simp only [Act.put, List.setIfInBounds_toArray, List.set_cons_zero, List.set_cons_succ]
  apply lexT_value2 (by decide) (by decide) (by rfl)
  · (rintro (_ | _) (_ | _) <;> go_simp <;> try rfl)
  simp only [Act.put, List.setIfInBounds_toArray, List.set_cons_zero, List.set_cons_succ]
  apply lexT_value2 (by decide) (by decide) (by rfl)
  · (rintro (_ | _) (_ | _) <;> go_simp <;> try rfl)
  simp only [Act.put, List.setIfInBounds_toArray, List.set_cons_zero, List.set_cons_succ]
  apply lexT_call2 (by decide) (by decide) (by rfl)
  · (rintro (_ | _) (_ | _) <;> go_simp <;> exact ⟨rfl, rfl⟩)
  · exact fun w => rect_end_any y h w hy hh
  simp only [Act.put, List.setIfInBounds_toArray, List.set_cons_zero, List.set_cons_succ]
  apply lexT_value2 (by decide) (by decide) (by rfl)
  · (rintro (_ | _) (_ | _) <;> go_simp <;> try rfl)
  simp only [Act.put, List.setIfInBounds_toArray, List.set_cons_zero, List.set_cons_succ]
  apply lexT_value2 (by decide) (by decide) (by rfl)
  · (rintro (_ | _) (_ | _) <;> go_simp <;> try rfl)
  simp only [Act.put, List.setIfInBounds_toArray, List.set_cons_zero, List.set_cons_succ]
  apply lexT_alloc2 (j := 20) (by decide) (by rfl)
  · (go_simp; try rfl)
  simp only [Act.put, List.setIfInBounds_toArray, List.set_cons_zero, List.set_cons_succ]
  apply lexT_store2 (i := 19) (by decide) (by kernel_rfl) (by rfl)
  · (go_simp; try rfl)
  simp only [Act.put, List.setIfInBounds_toArray, List.set_cons_zero, List.set_cons_succ]
  apply lexT_nil
  intro w' hw'
  have hw2 := phase2_end (by decide) (by decide) hw'
  simp only [if_true] at hw2
  subst hw2
  clear hw'
  go_wp2
  have EE : Below w.heap.size w ((((w.alloc (.cells #[.int .i64 x, .int .i64 y, .int .i64 l, .int .i64 h] 23)).alloc (.cells #[.int .i64 (rlo x), .int .i64 (rlo y), .int .i64 (rhi x l), .int .i64 (rhi y h)] 70)).alloc (.cells #[.int .i64 (rlo x), .int .i64 (rlo y), .int .i64 (rhi x l), .int .i64 (rhi y h)] 70)).drew.drew) := Below.drew (Below.drew (below_al (below_al (below_al (Below.refl _ _) _) _) _))
  by_cases h1 : rlo x < rhi x l
  · by_cases h2 : rlo y < rhi y h
    · have ok := okB_tt h1 h2
      refine wp_region_tame (phase1 13 (fun t => if t then (((w.alloc (.cells #[.int .i64 x, .int .i64 y, .int .i64 l, .int .i64 h] 23)).alloc (.cells #[.int .i64 (rlo x), .int .i64 (rlo y), .int .i64 (rhi x l), .int .i64 (rhi y h)] 70)).alloc (.cells #[.int .i64 (rlo x), .int .i64 (rlo y), .int .i64 (rhi x l), .int .i64 (rhi y h)] 70)).drew.drew else ((((w.alloc (.cells #[.int .i64 x, .int .i64 y, .int .i64 l, .int .i64 h] 23)).alloc (.cells #[.int .i64 0, .int .i64 0, .int .i64 0, .int .i64 0] 70)).alloc (.cells #[.int .i64 (rlo x), .int .i64 (rlo y), .int .i64 (rhi x l), .int .i64 (rhi y h)] 70)).drew).drew)) (by kernel_rfl) (by kernel_rfl) (phase1_init _ rfl) ?_
      apply lexT_value1 (by decide) (by rfl)
      · (rintro (_ | _) <;> go_simp <;> try rfl)
      simp only [Act.put, List.setIfInBounds_toArray, List.set_cons_zero, List.set_cons_succ]
      apply lexT_value1 (by decide) (by rfl)
      · (rintro (_ | _) <;> go_simp <;> try rfl)
      simp only [Act.put, List.setIfInBounds_toArray, List.set_cons_zero, List.set_cons_succ]
      apply lexT_value1 (by decide) (by rfl)
      · (rintro (_ | _) <;> go_simp <;> try rfl)
      simp only [Act.put, List.setIfInBounds_toArray, List.set_cons_zero, List.set_cons_succ]
      apply lexT_value1 (by decide) (by rfl)
      · (rintro (_ | _) <;> go_simp <;> try rfl)
      simp only [Act.put, List.setIfInBounds_toArray, List.set_cons_zero, List.set_cons_succ]
      apply lexT_value1 (by decide) (by rfl)
      · (rintro (_ | _) <;> go_simp <;> try rfl)
      simp only [Act.put, List.setIfInBounds_toArray, List.set_cons_zero, List.set_cons_succ]
      apply lexT_value1 (by decide) (by rfl)
      · (rintro (_ | _) <;> go_simp <;> try rfl)
      simp only [Act.put, List.setIfInBounds_toArray, List.set_cons_zero, List.set_cons_succ]
      apply lexT_value1 (by decide) (by rfl)
      · (rintro (_ | _) <;> go_simp <;> try rfl)
      simp only [Act.put, List.setIfInBounds_toArray, List.set_cons_zero, List.set_cons_succ]
      apply lexT_value1 (by decide) (by rfl)
      · (rintro (_ | _) <;> go_simp <;> try rfl)
      simp only [Act.put, List.setIfInBounds_toArray, List.set_cons_zero, List.set_cons_succ]
      apply lexT_value1 (by decide) (by rfl)
      · (rintro (_ | _) <;> go_simp <;> try rfl)
      simp only [Act.put, List.setIfInBounds_toArray, List.set_cons_zero, List.set_cons_succ]
      apply lexT_value1 (by decide) (by rfl)
      · (rintro (_ | _) <;> go_simp <;> try rfl)
      simp only [Act.put, List.setIfInBounds_toArray, List.set_cons_zero, List.set_cons_succ]
      apply lexT_value1 (by decide) (by rfl)
      · (rintro (_ | _) <;> go_simp <;> try rfl)
      simp only [Act.put, List.setIfInBounds_toArray, List.set_cons_zero, List.set_cons_succ]
      apply lexT_value1 (by decide) (by rfl)
      · (rintro (_ | _) <;> go_simp <;> try rfl)
      simp only [Act.put, List.setIfInBounds_toArray, List.set_cons_zero, List.set_cons_succ]
      apply lexT_value1 (by decide) (by rfl)
      · (rintro (_ | _) <;> go_simp <;> try rfl)
      simp only [Act.put, List.setIfInBounds_toArray, List.set_cons_zero, List.set_cons_succ]
      apply lexT_store1 (by rfl)
      · (go_simp; try rfl)
      simp only [Act.put, List.setIfInBounds_toArray, List.set_cons_zero, List.set_cons_succ]
      apply lexT_value1 (by decide) (by rfl)
      · (rintro (_ | _) <;> go_simp <;> try rfl)
      simp only [Act.put, List.setIfInBounds_toArray, List.set_cons_zero, List.set_cons_succ]
      apply lexT_nil
      intro w' hw'
      have hw2 := phase1_end (by decide) hw'
      simp only [if_true] at hw2
      subst hw2
      clear hw'
      go_wp2
      exact bodyPost_ret (v := .tuple #[.agg #[.int .i64 (rlo x), .int .i64 (rlo y), .int .i64 (rhi x l), .int .i64 (rhi y h)], .bool true]) (by simp [results, Try.results47, go_sem]) rfl ⟨by first | rfl | rw [ok], EE⟩
    · have ok := okB_f2 (x := x) (w := l) h2
      refine wp_region_tame (phase1 13 (fun t => if t then (((w.alloc (.cells #[.int .i64 x, .int .i64 y, .int .i64 l, .int .i64 h] 23)).alloc (.cells #[.int .i64 (rlo x), .int .i64 (rlo y), .int .i64 (rhi x l), .int .i64 (rhi y h)] 70)).alloc (.cells #[.int .i64 (rlo x), .int .i64 (rlo y), .int .i64 (rhi x l), .int .i64 (rhi y h)] 70)).drew.drew else ((((w.alloc (.cells #[.int .i64 x, .int .i64 y, .int .i64 l, .int .i64 h] 23)).alloc (.cells #[.int .i64 0, .int .i64 0, .int .i64 0, .int .i64 0] 70)).alloc (.cells #[.int .i64 (rlo x), .int .i64 (rlo y), .int .i64 (rhi x l), .int .i64 (rhi y h)] 70)).drew).drew)) (by kernel_rfl) (by kernel_rfl) (phase1_init _ rfl) ?_
      apply lexT_value1 (by decide) (by rfl)
      · (rintro (_ | _) <;> go_simp <;> try rfl)
      simp only [Act.put, List.setIfInBounds_toArray, List.set_cons_zero, List.set_cons_succ]
      apply lexT_value1 (by decide) (by rfl)
      · (rintro (_ | _) <;> go_simp <;> try rfl)
      simp only [Act.put, List.setIfInBounds_toArray, List.set_cons_zero, List.set_cons_succ]
      apply lexT_value1 (by decide) (by rfl)
      · (rintro (_ | _) <;> go_simp <;> try rfl)
      simp only [Act.put, List.setIfInBounds_toArray, List.set_cons_zero, List.set_cons_succ]
      apply lexT_value1 (by decide) (by rfl)
      · (rintro (_ | _) <;> go_simp <;> try rfl)
      simp only [Act.put, List.setIfInBounds_toArray, List.set_cons_zero, List.set_cons_succ]
      apply lexT_value1 (by decide) (by rfl)
      · (rintro (_ | _) <;> go_simp <;> try rfl)
      simp only [Act.put, List.setIfInBounds_toArray, List.set_cons_zero, List.set_cons_succ]
      apply lexT_value1 (by decide) (by rfl)
      · (rintro (_ | _) <;> go_simp <;> try rfl)
      simp only [Act.put, List.setIfInBounds_toArray, List.set_cons_zero, List.set_cons_succ]
      apply lexT_value1 (by decide) (by rfl)
      · (rintro (_ | _) <;> go_simp <;> try rfl)
      simp only [Act.put, List.setIfInBounds_toArray, List.set_cons_zero, List.set_cons_succ]
      apply lexT_value1 (by decide) (by rfl)
      · (rintro (_ | _) <;> go_simp <;> try rfl)
      simp only [Act.put, List.setIfInBounds_toArray, List.set_cons_zero, List.set_cons_succ]
      apply lexT_value1 (by decide) (by rfl)
      · (rintro (_ | _) <;> go_simp <;> try rfl)
      simp only [Act.put, List.setIfInBounds_toArray, List.set_cons_zero, List.set_cons_succ]
      apply lexT_value1 (by decide) (by rfl)
      · (rintro (_ | _) <;> go_simp <;> try rfl)
      simp only [Act.put, List.setIfInBounds_toArray, List.set_cons_zero, List.set_cons_succ]
      apply lexT_value1 (by decide) (by rfl)
      · (rintro (_ | _) <;> go_simp <;> try rfl)
      simp only [Act.put, List.setIfInBounds_toArray, List.set_cons_zero, List.set_cons_succ]
      apply lexT_value1 (by decide) (by rfl)
      · (rintro (_ | _) <;> go_simp <;> try rfl)
      simp only [Act.put, List.setIfInBounds_toArray, List.set_cons_zero, List.set_cons_succ]
      apply lexT_value1 (by decide) (by rfl)
      · (rintro (_ | _) <;> go_simp <;> try rfl)
      simp only [Act.put, List.setIfInBounds_toArray, List.set_cons_zero, List.set_cons_succ]
      apply lexT_store1 (by rfl)
      · (go_simp; try rfl)
      simp only [Act.put, List.setIfInBounds_toArray, List.set_cons_zero, List.set_cons_succ]
      apply lexT_value1 (by decide) (by rfl)
      · (rintro (_ | _) <;> go_simp <;> try rfl)
      simp only [Act.put, List.setIfInBounds_toArray, List.set_cons_zero, List.set_cons_succ]
      apply lexT_nil
      intro w' hw'
      have hw2 := phase1_end (by decide) hw'
      simp only [if_true] at hw2
      subst hw2
      clear hw'
      go_wp2
      exact bodyPost_ret (v := .tuple #[.agg #[.int .i64 (rlo x), .int .i64 (rlo y), .int .i64 (rhi x l), .int .i64 (rhi y h)], .bool false]) (by simp [results, Try.results47, go_sem]) rfl ⟨by first | rfl | rw [ok], EE⟩
  · have ok := okB_f1 (y := y) (h := h) h1
    refine wp_region_tame (phase1 13 (fun t => if t then (((w.alloc (.cells #[.int .i64 x, .int .i64 y, .int .i64 l, .int .i64 h] 23)).alloc (.cells #[.int .i64 (rlo x), .int .i64 (rlo y), .int .i64 (rhi x l), .int .i64 (rhi y h)] 70)).alloc (.cells #[.int .i64 (rlo x), .int .i64 (rlo y), .int .i64 (rhi x l), .int .i64 (rhi y h)] 70)).drew.drew else ((((w.alloc (.cells #[.int .i64 x, .int .i64 y, .int .i64 l, .int .i64 h] 23)).alloc (.cells #[.int .i64 0, .int .i64 0, .int .i64 0, .int .i64 0] 70)).alloc (.cells #[.int .i64 (rlo x), .int .i64 (rlo y), .int .i64 (rhi x l), .int .i64 (rhi y h)] 70)).drew).drew)) (by kernel_rfl) (by kernel_rfl) (phase1_init _ rfl) ?_
    apply lexT_value1 (by decide) (by rfl)
    · (rintro (_ | _) <;> go_simp <;> try rfl)
    simp only [Act.put, List.setIfInBounds_toArray, List.set_cons_zero, List.set_cons_succ]
    apply lexT_value1 (by decide) (by rfl)
    · (rintro (_ | _) <;> go_simp <;> try rfl)
    simp only [Act.put, List.setIfInBounds_toArray, List.set_cons_zero, List.set_cons_succ]
    apply lexT_value1 (by decide) (by rfl)
    · (rintro (_ | _) <;> go_simp <;> try rfl)
    simp only [Act.put, List.setIfInBounds_toArray, List.set_cons_zero, List.set_cons_succ]
    apply lexT_value1 (by decide) (by rfl)
    · (rintro (_ | _) <;> go_simp <;> try rfl)
    simp only [Act.put, List.setIfInBounds_toArray, List.set_cons_zero, List.set_cons_succ]
    apply lexT_value1 (by decide) (by rfl)
    · (rintro (_ | _) <;> go_simp <;> try rfl)
    simp only [Act.put, List.setIfInBounds_toArray, List.set_cons_zero, List.set_cons_succ]
    apply lexT_value1 (by decide) (by rfl)
    · (rintro (_ | _) <;> go_simp <;> try rfl)
    simp only [Act.put, List.setIfInBounds_toArray, List.set_cons_zero, List.set_cons_succ]
    apply lexT_value1 (by decide) (by rfl)
    · (rintro (_ | _) <;> go_simp <;> try rfl)
    simp only [Act.put, List.setIfInBounds_toArray, List.set_cons_zero, List.set_cons_succ]
    apply lexT_no1 (by decide) (by rfl)
    simp only [Act.put, List.setIfInBounds_toArray, List.set_cons_zero, List.set_cons_succ]
    apply lexT_no1 (by decide) (by rfl)
    simp only [Act.put, List.setIfInBounds_toArray, List.set_cons_zero, List.set_cons_succ]
    apply lexT_no1 (by decide) (by rfl)
    simp only [Act.put, List.setIfInBounds_toArray, List.set_cons_zero, List.set_cons_succ]
    apply lexT_no1 (by decide) (by rfl)
    simp only [Act.put, List.setIfInBounds_toArray, List.set_cons_zero, List.set_cons_succ]
    apply lexT_no1 (by decide) (by rfl)
    simp only [Act.put, List.setIfInBounds_toArray, List.set_cons_zero, List.set_cons_succ]
    apply lexT_value1 (by decide) (by rfl)
    · (rintro (_ | _) <;> go_simp <;> try rfl)
    simp only [Act.put, List.setIfInBounds_toArray, List.set_cons_zero, List.set_cons_succ]
    apply lexT_store1 (by rfl)
    · (go_simp; try rfl)
    simp only [Act.put, List.setIfInBounds_toArray, List.set_cons_zero, List.set_cons_succ]
    apply lexT_value1 (by decide) (by rfl)
    · (rintro (_ | _) <;> go_simp <;> try rfl)
    simp only [Act.put, List.setIfInBounds_toArray, List.set_cons_zero, List.set_cons_succ]
    apply lexT_nil
    intro w' hw'
    have hw2 := phase1_end (by decide) hw'
    simp only [if_true] at hw2
    subst hw2
    clear hw'
    go_wp2
    exact bodyPost_ret (v := .tuple #[.agg #[.int .i64 (rlo x), .int .i64 (rlo y), .int .i64 (rhi x l), .int .i64 (rhi y h)], .bool false]) (by simp [results, Try.results47, go_sem]) rfl ⟨by first | rfl | rw [ok], EE⟩
end Go.Proofs.Ytekcheccelllcaa
