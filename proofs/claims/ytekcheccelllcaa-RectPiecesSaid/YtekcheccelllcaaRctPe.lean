/- Layer 07: the walk of RectPieces, part 3. -/
import Derived.Test.YtekcheccelllcaaRctPa
namespace Go.Proofs.Ytekcheccelllcaa
open Go.RowKit
set_option linter.unusedVariables false
set_option linter.unusedSimpArgs false
set_option maxRecDepth 100000 in
set_option maxHeartbeats 32000000 in
theorem RectPieces_B3 (ax ay aw ah bx b2 bw bh cx cy : Int) (w : World) (hax : -9223372036854775808 ≤ ax ∧ ax ≤ 9223372036854775807) (hay : -9223372036854775808 ≤ ay ∧ ay ≤ 9223372036854775807) (haw : -9223372036854775808 ≤ aw ∧ aw ≤ 9223372036854775807) (hah : -9223372036854775808 ≤ ah ∧ ah ≤ 9223372036854775807) (hbx : -9223372036854775808 ≤ bx ∧ bx ≤ 9223372036854775807) (hb2 : -9223372036854775808 ≤ b2 ∧ b2 ≤ 9223372036854775807) (hbw : -9223372036854775808 ≤ bw ∧ bw ≤ 9223372036854775807) (hbh : -9223372036854775808 ≤ bh ∧ bh ≤ 9223372036854775807) : (RectPieces_A ax ay aw ah bx b2 bw bh cx cy w hax hay haw hah hbx hb2 hbw hbh).1.2.2.2 := by
  unfold RectPieces_A
  set_option tactic.hygienic false in intro
  set_option tactic.hygienic false in intros
  cases ia
  all_goals cases ib
  all_goals have HOV := Lib.hid HOX.out
  all_goals have HMV := Lib.hid HMX.out
  all_goals (first | obtain rfl : cn = 1 := HN.out | obtain rfl : cn = 0 := HN.out)
  all_goals clear HOX HMX HN
  · refine wp_region_tame (fun _ w => Below w12.heap.size w12 w) (by as_aux_lemma => kernel_rfl) (by as_aux_lemma => kernel_rfl) (Below.drew (Below.refl _ _)) ?_
    apply lexT_value (by rfl) (fun l w _ h => h)
    · (intro l w h; go_simp; try rfl)
    simp only [Act.put, List.setIfInBounds_toArray, List.set_cons_zero, List.set_cons_succ]
    apply lexT_value (by rfl) (fun l w _ h => h)
    · (intro l w h; have FK := KF.out w h; clear h; go_split_ands; go_simp; try rfl)
    simp only [Act.put, List.setIfInBounds_toArray, List.set_cons_zero, List.set_cons_succ]
    apply lexT_value (by rfl) (fun l w _ h => h)
    · (intro l w h; go_simp; try rfl)
    simp only [Act.put, List.setIfInBounds_toArray, List.set_cons_zero, List.set_cons_succ]
    apply lexT_value (by rfl) (fun l w _ h => h)
    · (intro l w h; go_simp; try rfl)
    simp only [Act.put, List.setIfInBounds_toArray, List.set_cons_zero, List.set_cons_succ]
    apply lexT_value (by rfl) (fun l w _ h => h)
    · (intro l w h; go_simp; try rfl)
    simp only [Act.put, List.setIfInBounds_toArray, List.set_cons_zero, List.set_cons_succ]
    apply lexT_value (by rfl) (fun l w _ h => h)
    · (intro l w h; go_simp; try rfl)
    simp only [Act.put, List.setIfInBounds_toArray, List.set_cons_zero, List.set_cons_succ]
    apply lexT_value (by rfl) (fun l w _ h => h)
    · (intro l w h; have FK := KF.out w h; clear h; go_split_ands; go_simp; try rfl)
    simp only [Act.put, List.setIfInBounds_toArray, List.set_cons_zero, List.set_cons_succ]
    apply lexT_value (by rfl) (fun l w _ h => h)
    · (intro l w h; go_simp; try rfl)
    simp only [Act.put, List.setIfInBounds_toArray, List.set_cons_zero, List.set_cons_succ]
    apply lexT_value (by rfl) (fun l w _ h => h)
    · (intro l w h; go_simp; try rfl)
    simp only [Act.put, List.setIfInBounds_toArray, List.set_cons_zero, List.set_cons_succ]
    apply lexT_value (by rfl) (fun l w _ h => h)
    · (intro l w h; go_simp; try rfl)
    simp only [Act.put, List.setIfInBounds_toArray, List.set_cons_zero, List.set_cons_succ]
    apply lexT_value (by rfl) (fun l w _ h => h)
    · (intro l w h; go_simp; try rfl)
    simp only [Act.put, List.setIfInBounds_toArray, List.set_cons_zero, List.set_cons_succ]
    apply lexT_value (by rfl) (fun l w _ h => h)
    · (intro l w h; have FK := KF.out w h; clear h; go_split_ands; go_simp; try rfl)
    simp only [Act.put, List.setIfInBounds_toArray, List.set_cons_zero, List.set_cons_succ]
    apply lexT_call (by rfl)
    · (intro l w h; go_simp; first | exact ⟨rfl, rfl⟩ | rfl)
    · (intro l w _ h; refine (rect_Has_any ox oy ow oh px py _ o1 o2 o3 o4).mono ?_; rw [HOV.out]; rintro e w2 ⟨rfl, hb⟩; exact ⟨rfl, below_via2 hb h⟩)
    simp only [Act.put, List.setIfInBounds_toArray, List.set_cons_zero, List.set_cons_succ]
    apply lexT_value (by rfl) (fun l w _ h => h)
    · (intro l w h; go_simp; try rfl)
    simp only [Act.put, List.setIfInBounds_toArray, List.set_cons_zero, List.set_cons_succ]
    apply lexT_value (by rfl) (fun l w _ h => h)
    · (intro l w h; go_simp; try rfl)
    simp only [Act.put, List.setIfInBounds_toArray, List.set_cons_zero, List.set_cons_succ]
    apply lexT_value (by rfl) (fun l w _ h => h)
    · (intro l w h; have FK := KF.out w h; clear h; go_split_ands; go_simp; try rfl)
    simp only [Act.put, List.setIfInBounds_toArray, List.set_cons_zero, List.set_cons_succ]
    apply lexT_value (by rfl) (fun l w _ h => h)
    · (intro l w h; go_simp; try rfl)
    simp only [Act.put, List.setIfInBounds_toArray, List.set_cons_zero, List.set_cons_succ]
    apply lexT_value (by rfl) (fun l w _ h => h)
    · (intro l w h; go_simp; try rfl)
    simp only [Act.put, List.setIfInBounds_toArray, List.set_cons_zero, List.set_cons_succ]
    apply lexT_value (by rfl) (fun l w _ h => h)
    · (intro l w h; go_simp; try rfl)
    simp only [Act.put, List.setIfInBounds_toArray, List.set_cons_zero, List.set_cons_succ]
    apply lexT_value (by rfl) (fun l w _ h => h)
    · (intro l w h; go_simp; try rfl)
    simp only [Act.put, List.setIfInBounds_toArray, List.set_cons_zero, List.set_cons_succ]
    apply lexT_value (by rfl) (fun l w _ h => h)
    · (intro l w h; have FK := KF.out w h; clear h; go_split_ands; go_simp; try rfl)
    simp only [Act.put, List.setIfInBounds_toArray, List.set_cons_zero, List.set_cons_succ]
    apply lexT_value (by rfl) (fun l w _ h => h)
    · (intro l w h; go_simp; try rfl)
    simp only [Act.put, List.setIfInBounds_toArray, List.set_cons_zero, List.set_cons_succ]
    apply lexT_value (by rfl) (fun l w _ h => h)
    · (intro l w h; go_simp; try rfl)
    simp only [Act.put, List.setIfInBounds_toArray, List.set_cons_zero, List.set_cons_succ]
    apply lexT_value (by rfl) (fun l w _ h => h)
    · (intro l w h; go_simp; try rfl)
    simp only [Act.put, List.setIfInBounds_toArray, List.set_cons_zero, List.set_cons_succ]
    apply lexT_value (by rfl) (fun l w _ h => h)
    · (intro l w h; go_simp; try rfl)
    simp only [Act.put, List.setIfInBounds_toArray, List.set_cons_zero, List.set_cons_succ]
    apply lexT_value (by rfl) (fun l w _ h => h)
    · (intro l w h; have FK := KF.out w h; clear h; go_split_ands; go_simp; try rfl)
    simp only [Act.put, List.setIfInBounds_toArray, List.set_cons_zero, List.set_cons_succ]
    apply lexT_call (by rfl)
    · (intro l w h; go_simp; first | exact ⟨rfl, rfl⟩ | rfl)
    · (intro l w _ h; refine (rect_Has_any mx my mw mh px py _ m1 m2 m3 m4).mono ?_; rw [HMV.out]; rintro e w2 ⟨rfl, hb⟩; exact ⟨rfl, below_via2 hb h⟩)
    simp only [Act.put, List.setIfInBounds_toArray, List.set_cons_zero, List.set_cons_succ]
    apply lexT_value (by rfl) (fun l w _ h => h)
    · (intro l w h; go_simp; try rfl)
    simp only [Act.put, List.setIfInBounds_toArray, List.set_cons_zero, List.set_cons_succ]
    apply lexT_value (by rfl) (fun l w _ h => h)
    · (intro l w h; go_simp; try rfl)
    simp only [Act.put, List.setIfInBounds_toArray, List.set_cons_zero, List.set_cons_succ]
    apply lexT_no (by rfl) (fun l w _ h => h)
    simp only [Act.put, List.setIfInBounds_toArray, List.set_cons_zero, List.set_cons_succ]
    apply lexT_value (by rfl) (fun l w _ h => h)
    · (intro l w h; go_simp; try rfl)
    simp only [Act.put, List.setIfInBounds_toArray, List.set_cons_zero, List.set_cons_succ]
    apply lexT_value (by rfl) (fun l w _ h => h)
    · (intro l w h; go_simp; try rfl)
    simp only [Act.put, List.setIfInBounds_toArray, List.set_cons_zero, List.set_cons_succ]
    apply lexT_value (by rfl) (fun l w _ h => h)
    · (intro l w h; go_simp; try rfl)
    simp only [Act.put, List.setIfInBounds_toArray, List.set_cons_zero, List.set_cons_succ]
    apply lexT_value (by rfl) (fun l w _ h => h)
    · (intro l w h; go_simp; try rfl)
    simp only [Act.put, List.setIfInBounds_toArray, List.set_cons_zero, List.set_cons_succ]
    apply lexT_value (by rfl) (fun l w _ h => h)
    · (intro l w h; go_simp; try rfl)
    simp only [Act.put, List.setIfInBounds_toArray, List.set_cons_zero, List.set_cons_succ]
    apply lexT_value (by rfl) (fun l w _ h => h)
    · (intro l w h; go_simp; try rfl)
    simp only [Act.put, List.setIfInBounds_toArray, List.set_cons_zero, List.set_cons_succ]
    apply lexT_value (by rfl) (fun l w _ h => h)
    · (intro l w h; go_simp; try rfl)
    simp only [Act.put, List.setIfInBounds_toArray, List.set_cons_zero, List.set_cons_succ]
    apply lexT_value (by rfl) (fun l w _ h => h)
    · (intro l w h; go_simp; try rfl)
    simp only [Act.put, List.setIfInBounds_toArray, List.set_cons_zero, List.set_cons_succ]
    apply lexT_no (by rfl) (fun l w _ h => h)
    simp only [Act.put, List.setIfInBounds_toArray, List.set_cons_zero, List.set_cons_succ]
    apply lexT_no (by rfl) (fun l w _ h => h)
    simp only [Act.put, List.setIfInBounds_toArray, List.set_cons_zero, List.set_cons_succ]
    apply lexT_value (by rfl) (fun l w _ h => h)
    · (intro l w h; go_simp; try rfl)
    simp only [Act.put, List.setIfInBounds_toArray, List.set_cons_zero, List.set_cons_succ]
    apply lexT_value (by rfl) (fun l w _ h => h)
    · (intro l w h; go_simp; try rfl)
    simp only [Act.put, List.setIfInBounds_toArray, List.set_cons_zero, List.set_cons_succ]
    apply lexT_value (by rfl) (fun l w _ h => h)
    · (intro l w h; go_simp; try rfl)
    simp only [Act.put, List.setIfInBounds_toArray, List.set_cons_zero, List.set_cons_succ]
    apply lexT_value (by rfl) (fun l w _ h => h)
    · (intro l w h; go_simp; try rfl)
    simp only [Act.put, List.setIfInBounds_toArray, List.set_cons_zero, List.set_cons_succ]
    apply lexT_value (by rfl) (fun l w _ h => h)
    · (intro l w h; go_simp; try rfl)
    simp only [Act.put, List.setIfInBounds_toArray, List.set_cons_zero, List.set_cons_succ]
    apply lexT_value (by rfl) (fun l w _ h => h)
    · (intro l w h; go_simp; try rfl)
    simp only [Act.put, List.setIfInBounds_toArray, List.set_cons_zero, List.set_cons_succ]
    apply lexT_value (by rfl) (fun l w _ h => h)
    · (intro l w h; go_simp; try rfl)
    simp only [Act.put, List.setIfInBounds_toArray, List.set_cons_zero, List.set_cons_succ]
    apply lexT_nil
    intro w' hw'
    have BFin : Below w8.heap.size w8 w' := below_via hw' B12
    clear hw' KF HOV HMV
    go_wp2
    go_roundw
    case rel => exact ⟨k + 1, by omega, by go_num, BFin⟩
    case measure => simp [intOf]; omega
  · refine wp_region_tame (fun _ w => Below w12.heap.size w12 w) (by as_aux_lemma => kernel_rfl) (by as_aux_lemma => kernel_rfl) (Below.drew (Below.refl _ _)) ?_
    apply lexT_value (by rfl) (fun l w _ h => h)
    · (intro l w h; go_simp; try rfl)
    simp only [Act.put, List.setIfInBounds_toArray, List.set_cons_zero, List.set_cons_succ]
    apply lexT_value (by rfl) (fun l w _ h => h)
    · (intro l w h; have FK := KF.out w h; clear h; go_split_ands; go_simp; try rfl)
    simp only [Act.put, List.setIfInBounds_toArray, List.set_cons_zero, List.set_cons_succ]
    apply lexT_value (by rfl) (fun l w _ h => h)
    · (intro l w h; go_simp; try rfl)
    simp only [Act.put, List.setIfInBounds_toArray, List.set_cons_zero, List.set_cons_succ]
    apply lexT_value (by rfl) (fun l w _ h => h)
    · (intro l w h; go_simp; try rfl)
    simp only [Act.put, List.setIfInBounds_toArray, List.set_cons_zero, List.set_cons_succ]
    apply lexT_value (by rfl) (fun l w _ h => h)
    · (intro l w h; go_simp; try rfl)
    simp only [Act.put, List.setIfInBounds_toArray, List.set_cons_zero, List.set_cons_succ]
    apply lexT_value (by rfl) (fun l w _ h => h)
    · (intro l w h; go_simp; try rfl)
    simp only [Act.put, List.setIfInBounds_toArray, List.set_cons_zero, List.set_cons_succ]
    apply lexT_value (by rfl) (fun l w _ h => h)
    · (intro l w h; have FK := KF.out w h; clear h; go_split_ands; go_simp; try rfl)
    simp only [Act.put, List.setIfInBounds_toArray, List.set_cons_zero, List.set_cons_succ]
    apply lexT_value (by rfl) (fun l w _ h => h)
    · (intro l w h; go_simp; try rfl)
    simp only [Act.put, List.setIfInBounds_toArray, List.set_cons_zero, List.set_cons_succ]
    apply lexT_value (by rfl) (fun l w _ h => h)
    · (intro l w h; go_simp; try rfl)
    simp only [Act.put, List.setIfInBounds_toArray, List.set_cons_zero, List.set_cons_succ]
    apply lexT_value (by rfl) (fun l w _ h => h)
    · (intro l w h; go_simp; try rfl)
    simp only [Act.put, List.setIfInBounds_toArray, List.set_cons_zero, List.set_cons_succ]
    apply lexT_value (by rfl) (fun l w _ h => h)
    · (intro l w h; go_simp; try rfl)
    simp only [Act.put, List.setIfInBounds_toArray, List.set_cons_zero, List.set_cons_succ]
    apply lexT_value (by rfl) (fun l w _ h => h)
    · (intro l w h; have FK := KF.out w h; clear h; go_split_ands; go_simp; try rfl)
    simp only [Act.put, List.setIfInBounds_toArray, List.set_cons_zero, List.set_cons_succ]
    apply lexT_call (by rfl)
    · (intro l w h; go_simp; first | exact ⟨rfl, rfl⟩ | rfl)
    · (intro l w _ h; refine (rect_Has_any ox oy ow oh px py _ o1 o2 o3 o4).mono ?_; rw [HOV.out]; rintro e w2 ⟨rfl, hb⟩; exact ⟨rfl, below_via2 hb h⟩)
    simp only [Act.put, List.setIfInBounds_toArray, List.set_cons_zero, List.set_cons_succ]
    apply lexT_value (by rfl) (fun l w _ h => h)
    · (intro l w h; go_simp; try rfl)
    simp only [Act.put, List.setIfInBounds_toArray, List.set_cons_zero, List.set_cons_succ]
    apply lexT_value (by rfl) (fun l w _ h => h)
    · (intro l w h; go_simp; try rfl)
    simp only [Act.put, List.setIfInBounds_toArray, List.set_cons_zero, List.set_cons_succ]
    apply lexT_value (by rfl) (fun l w _ h => h)
    · (intro l w h; have FK := KF.out w h; clear h; go_split_ands; go_simp; try rfl)
    simp only [Act.put, List.setIfInBounds_toArray, List.set_cons_zero, List.set_cons_succ]
    apply lexT_value (by rfl) (fun l w _ h => h)
    · (intro l w h; go_simp; try rfl)
    simp only [Act.put, List.setIfInBounds_toArray, List.set_cons_zero, List.set_cons_succ]
    apply lexT_value (by rfl) (fun l w _ h => h)
    · (intro l w h; go_simp; try rfl)
    simp only [Act.put, List.setIfInBounds_toArray, List.set_cons_zero, List.set_cons_succ]
    apply lexT_value (by rfl) (fun l w _ h => h)
    · (intro l w h; go_simp; try rfl)
    simp only [Act.put, List.setIfInBounds_toArray, List.set_cons_zero, List.set_cons_succ]
    apply lexT_value (by rfl) (fun l w _ h => h)
    · (intro l w h; go_simp; try rfl)
    simp only [Act.put, List.setIfInBounds_toArray, List.set_cons_zero, List.set_cons_succ]
    apply lexT_value (by rfl) (fun l w _ h => h)
    · (intro l w h; have FK := KF.out w h; clear h; go_split_ands; go_simp; try rfl)
    simp only [Act.put, List.setIfInBounds_toArray, List.set_cons_zero, List.set_cons_succ]
    apply lexT_value (by rfl) (fun l w _ h => h)
    · (intro l w h; go_simp; try rfl)
    simp only [Act.put, List.setIfInBounds_toArray, List.set_cons_zero, List.set_cons_succ]
    apply lexT_value (by rfl) (fun l w _ h => h)
    · (intro l w h; go_simp; try rfl)
    simp only [Act.put, List.setIfInBounds_toArray, List.set_cons_zero, List.set_cons_succ]
    apply lexT_value (by rfl) (fun l w _ h => h)
    · (intro l w h; go_simp; try rfl)
    simp only [Act.put, List.setIfInBounds_toArray, List.set_cons_zero, List.set_cons_succ]
    apply lexT_value (by rfl) (fun l w _ h => h)
    · (intro l w h; go_simp; try rfl)
    simp only [Act.put, List.setIfInBounds_toArray, List.set_cons_zero, List.set_cons_succ]
    apply lexT_value (by rfl) (fun l w _ h => h)
    · (intro l w h; have FK := KF.out w h; clear h; go_split_ands; go_simp; try rfl)
    simp only [Act.put, List.setIfInBounds_toArray, List.set_cons_zero, List.set_cons_succ]
    apply lexT_call (by rfl)
    · (intro l w h; go_simp; first | exact ⟨rfl, rfl⟩ | rfl)
    · (intro l w _ h; refine (rect_Has_any mx my mw mh px py _ m1 m2 m3 m4).mono ?_; rw [HMV.out]; rintro e w2 ⟨rfl, hb⟩; exact ⟨rfl, below_via2 hb h⟩)
    simp only [Act.put, List.setIfInBounds_toArray, List.set_cons_zero, List.set_cons_succ]
    apply lexT_value (by rfl) (fun l w _ h => h)
    · (intro l w h; go_simp; try rfl)
    simp only [Act.put, List.setIfInBounds_toArray, List.set_cons_zero, List.set_cons_succ]
    apply lexT_value (by rfl) (fun l w _ h => h)
    · (intro l w h; go_simp; try rfl)
    simp only [Act.put, List.setIfInBounds_toArray, List.set_cons_zero, List.set_cons_succ]
    apply lexT_no (by rfl) (fun l w _ h => h)
    simp only [Act.put, List.setIfInBounds_toArray, List.set_cons_zero, List.set_cons_succ]
    apply lexT_value (by rfl) (fun l w _ h => h)
    · (intro l w h; go_simp; try rfl)
    simp only [Act.put, List.setIfInBounds_toArray, List.set_cons_zero, List.set_cons_succ]
    apply lexT_value (by rfl) (fun l w _ h => h)
    · (intro l w h; go_simp; try rfl)
    simp only [Act.put, List.setIfInBounds_toArray, List.set_cons_zero, List.set_cons_succ]
    apply lexT_value (by rfl) (fun l w _ h => h)
    · (intro l w h; go_simp; try rfl)
    simp only [Act.put, List.setIfInBounds_toArray, List.set_cons_zero, List.set_cons_succ]
    apply lexT_value (by rfl) (fun l w _ h => h)
    · (intro l w h; go_simp; try rfl)
    simp only [Act.put, List.setIfInBounds_toArray, List.set_cons_zero, List.set_cons_succ]
    apply lexT_value (by rfl) (fun l w _ h => h)
    · (intro l w h; go_simp; try rfl)
    simp only [Act.put, List.setIfInBounds_toArray, List.set_cons_zero, List.set_cons_succ]
    apply lexT_value (by rfl) (fun l w _ h => h)
    · (intro l w h; go_simp; try rfl)
    simp only [Act.put, List.setIfInBounds_toArray, List.set_cons_zero, List.set_cons_succ]
    apply lexT_value (by rfl) (fun l w _ h => h)
    · (intro l w h; go_simp; try rfl)
    simp only [Act.put, List.setIfInBounds_toArray, List.set_cons_zero, List.set_cons_succ]
    apply lexT_value (by rfl) (fun l w _ h => h)
    · (intro l w h; go_simp; try rfl)
    simp only [Act.put, List.setIfInBounds_toArray, List.set_cons_zero, List.set_cons_succ]
    apply lexT_no (by rfl) (fun l w _ h => h)
    simp only [Act.put, List.setIfInBounds_toArray, List.set_cons_zero, List.set_cons_succ]
    apply lexT_no (by rfl) (fun l w _ h => h)
    simp only [Act.put, List.setIfInBounds_toArray, List.set_cons_zero, List.set_cons_succ]
    apply lexT_value (by rfl) (fun l w _ h => h)
    · (intro l w h; go_simp; try rfl)
    simp only [Act.put, List.setIfInBounds_toArray, List.set_cons_zero, List.set_cons_succ]
    apply lexT_value (by rfl) (fun l w _ h => h)
    · (intro l w h; go_simp; try rfl)
    simp only [Act.put, List.setIfInBounds_toArray, List.set_cons_zero, List.set_cons_succ]
    apply lexT_value (by rfl) (fun l w _ h => h)
    · (intro l w h; go_simp; try rfl)
    simp only [Act.put, List.setIfInBounds_toArray, List.set_cons_zero, List.set_cons_succ]
    apply lexT_value (by rfl) (fun l w _ h => h)
    · (intro l w h; go_simp; try rfl)
    simp only [Act.put, List.setIfInBounds_toArray, List.set_cons_zero, List.set_cons_succ]
    apply lexT_value (by rfl) (fun l w _ h => h)
    · (intro l w h; go_simp; try rfl)
    simp only [Act.put, List.setIfInBounds_toArray, List.set_cons_zero, List.set_cons_succ]
    apply lexT_value (by rfl) (fun l w _ h => h)
    · (intro l w h; go_simp; try rfl)
    simp only [Act.put, List.setIfInBounds_toArray, List.set_cons_zero, List.set_cons_succ]
    apply lexT_value (by rfl) (fun l w _ h => h)
    · (intro l w h; go_simp; try rfl)
    simp only [Act.put, List.setIfInBounds_toArray, List.set_cons_zero, List.set_cons_succ]
    apply lexT_nil
    intro w' hw'
    have BFin : Below w8.heap.size w8 w' := below_via hw' B12
    clear hw' KF HOV HMV
    go_wp2
    go_roundw
    case rel => exact ⟨k + 1, by omega, by go_num, BFin⟩
    case measure => simp [intOf]; omega
  · refine wp_region_tame (fun _ w => Below w12.heap.size w12 w) (by as_aux_lemma => kernel_rfl) (by as_aux_lemma => kernel_rfl) (Below.drew (Below.refl _ _)) ?_
    apply lexT_value (by rfl) (fun l w _ h => h)
    · (intro l w h; go_simp; try rfl)
    simp only [Act.put, List.setIfInBounds_toArray, List.set_cons_zero, List.set_cons_succ]
    apply lexT_value (by rfl) (fun l w _ h => h)
    · (intro l w h; have FK := KF.out w h; clear h; go_split_ands; go_simp; try rfl)
    simp only [Act.put, List.setIfInBounds_toArray, List.set_cons_zero, List.set_cons_succ]
    apply lexT_value (by rfl) (fun l w _ h => h)
    · (intro l w h; go_simp; try rfl)
    simp only [Act.put, List.setIfInBounds_toArray, List.set_cons_zero, List.set_cons_succ]
    apply lexT_value (by rfl) (fun l w _ h => h)
    · (intro l w h; go_simp; try rfl)
    simp only [Act.put, List.setIfInBounds_toArray, List.set_cons_zero, List.set_cons_succ]
    apply lexT_value (by rfl) (fun l w _ h => h)
    · (intro l w h; go_simp; try rfl)
    simp only [Act.put, List.setIfInBounds_toArray, List.set_cons_zero, List.set_cons_succ]
    apply lexT_value (by rfl) (fun l w _ h => h)
    · (intro l w h; go_simp; try rfl)
    simp only [Act.put, List.setIfInBounds_toArray, List.set_cons_zero, List.set_cons_succ]
    apply lexT_value (by rfl) (fun l w _ h => h)
    · (intro l w h; have FK := KF.out w h; clear h; go_split_ands; go_simp; try rfl)
    simp only [Act.put, List.setIfInBounds_toArray, List.set_cons_zero, List.set_cons_succ]
    apply lexT_value (by rfl) (fun l w _ h => h)
    · (intro l w h; go_simp; try rfl)
    simp only [Act.put, List.setIfInBounds_toArray, List.set_cons_zero, List.set_cons_succ]
    apply lexT_value (by rfl) (fun l w _ h => h)
    · (intro l w h; go_simp; try rfl)
    simp only [Act.put, List.setIfInBounds_toArray, List.set_cons_zero, List.set_cons_succ]
    apply lexT_value (by rfl) (fun l w _ h => h)
    · (intro l w h; go_simp; try rfl)
    simp only [Act.put, List.setIfInBounds_toArray, List.set_cons_zero, List.set_cons_succ]
    apply lexT_value (by rfl) (fun l w _ h => h)
    · (intro l w h; go_simp; try rfl)
    simp only [Act.put, List.setIfInBounds_toArray, List.set_cons_zero, List.set_cons_succ]
    apply lexT_value (by rfl) (fun l w _ h => h)
    · (intro l w h; have FK := KF.out w h; clear h; go_split_ands; go_simp; try rfl)
    simp only [Act.put, List.setIfInBounds_toArray, List.set_cons_zero, List.set_cons_succ]
    apply lexT_call (by rfl)
    · (intro l w h; go_simp; first | exact ⟨rfl, rfl⟩ | rfl)
    · (intro l w _ h; refine (rect_Has_any ox oy ow oh px py _ o1 o2 o3 o4).mono ?_; rw [HOV.out]; rintro e w2 ⟨rfl, hb⟩; exact ⟨rfl, below_via2 hb h⟩)
    simp only [Act.put, List.setIfInBounds_toArray, List.set_cons_zero, List.set_cons_succ]
    apply lexT_value (by rfl) (fun l w _ h => h)
    · (intro l w h; go_simp; try rfl)
    simp only [Act.put, List.setIfInBounds_toArray, List.set_cons_zero, List.set_cons_succ]
    apply lexT_value (by rfl) (fun l w _ h => h)
    · (intro l w h; go_simp; try rfl)
    simp only [Act.put, List.setIfInBounds_toArray, List.set_cons_zero, List.set_cons_succ]
    apply lexT_value (by rfl) (fun l w _ h => h)
    · (intro l w h; have FK := KF.out w h; clear h; go_split_ands; go_simp; try rfl)
    simp only [Act.put, List.setIfInBounds_toArray, List.set_cons_zero, List.set_cons_succ]
    apply lexT_value (by rfl) (fun l w _ h => h)
    · (intro l w h; go_simp; try rfl)
    simp only [Act.put, List.setIfInBounds_toArray, List.set_cons_zero, List.set_cons_succ]
    apply lexT_value (by rfl) (fun l w _ h => h)
    · (intro l w h; go_simp; try rfl)
    simp only [Act.put, List.setIfInBounds_toArray, List.set_cons_zero, List.set_cons_succ]
    apply lexT_value (by rfl) (fun l w _ h => h)
    · (intro l w h; go_simp; try rfl)
    simp only [Act.put, List.setIfInBounds_toArray, List.set_cons_zero, List.set_cons_succ]
    apply lexT_value (by rfl) (fun l w _ h => h)
    · (intro l w h; go_simp; try rfl)
    simp only [Act.put, List.setIfInBounds_toArray, List.set_cons_zero, List.set_cons_succ]
    apply lexT_value (by rfl) (fun l w _ h => h)
    · (intro l w h; have FK := KF.out w h; clear h; go_split_ands; go_simp; try rfl)
    simp only [Act.put, List.setIfInBounds_toArray, List.set_cons_zero, List.set_cons_succ]
    apply lexT_value (by rfl) (fun l w _ h => h)
    · (intro l w h; go_simp; try rfl)
    simp only [Act.put, List.setIfInBounds_toArray, List.set_cons_zero, List.set_cons_succ]
    apply lexT_value (by rfl) (fun l w _ h => h)
    · (intro l w h; go_simp; try rfl)
    simp only [Act.put, List.setIfInBounds_toArray, List.set_cons_zero, List.set_cons_succ]
    apply lexT_value (by rfl) (fun l w _ h => h)
    · (intro l w h; go_simp; try rfl)
    simp only [Act.put, List.setIfInBounds_toArray, List.set_cons_zero, List.set_cons_succ]
    apply lexT_value (by rfl) (fun l w _ h => h)
    · (intro l w h; go_simp; try rfl)
    simp only [Act.put, List.setIfInBounds_toArray, List.set_cons_zero, List.set_cons_succ]
    apply lexT_value (by rfl) (fun l w _ h => h)
    · (intro l w h; have FK := KF.out w h; clear h; go_split_ands; go_simp; try rfl)
    simp only [Act.put, List.setIfInBounds_toArray, List.set_cons_zero, List.set_cons_succ]
    apply lexT_call (by rfl)
    · (intro l w h; go_simp; first | exact ⟨rfl, rfl⟩ | rfl)
    · (intro l w _ h; refine (rect_Has_any mx my mw mh px py _ m1 m2 m3 m4).mono ?_; rw [HMV.out]; rintro e w2 ⟨rfl, hb⟩; exact ⟨rfl, below_via2 hb h⟩)
    simp only [Act.put, List.setIfInBounds_toArray, List.set_cons_zero, List.set_cons_succ]
    apply lexT_value (by rfl) (fun l w _ h => h)
    · (intro l w h; go_simp; try rfl)
    simp only [Act.put, List.setIfInBounds_toArray, List.set_cons_zero, List.set_cons_succ]
    apply lexT_value (by rfl) (fun l w _ h => h)
    · (intro l w h; go_simp; try rfl)
    simp only [Act.put, List.setIfInBounds_toArray, List.set_cons_zero, List.set_cons_succ]
    apply lexT_value (by rfl) (fun l w _ h => h)
    · (intro l w h; go_simp; try rfl)
    simp only [Act.put, List.setIfInBounds_toArray, List.set_cons_zero, List.set_cons_succ]
    apply lexT_value (by rfl) (fun l w _ h => h)
    · (intro l w h; go_simp; try rfl)
    simp only [Act.put, List.setIfInBounds_toArray, List.set_cons_zero, List.set_cons_succ]
    apply lexT_value (by rfl) (fun l w _ h => h)
    · (intro l w h; go_simp; try rfl)
    simp only [Act.put, List.setIfInBounds_toArray, List.set_cons_zero, List.set_cons_succ]
    apply lexT_value (by rfl) (fun l w _ h => h)
    · (intro l w h; go_simp; try rfl)
    simp only [Act.put, List.setIfInBounds_toArray, List.set_cons_zero, List.set_cons_succ]
    apply lexT_value (by rfl) (fun l w _ h => h)
    · (intro l w h; go_simp; try rfl)
    simp only [Act.put, List.setIfInBounds_toArray, List.set_cons_zero, List.set_cons_succ]
    apply lexT_value (by rfl) (fun l w _ h => h)
    · (intro l w h; go_simp; try rfl)
    simp only [Act.put, List.setIfInBounds_toArray, List.set_cons_zero, List.set_cons_succ]
    apply lexT_value (by rfl) (fun l w _ h => h)
    · (intro l w h; go_simp; try rfl)
    simp only [Act.put, List.setIfInBounds_toArray, List.set_cons_zero, List.set_cons_succ]
    apply lexT_value (by rfl) (fun l w _ h => h)
    · (intro l w h; go_simp; try rfl)
    simp only [Act.put, List.setIfInBounds_toArray, List.set_cons_zero, List.set_cons_succ]
    apply lexT_value (by rfl) (fun l w _ h => h)
    · (intro l w h; go_simp; try rfl)
    simp only [Act.put, List.setIfInBounds_toArray, List.set_cons_zero, List.set_cons_succ]
    apply lexT_value (by rfl) (fun l w _ h => h)
    · (intro l w h; go_simp; try rfl)
    simp only [Act.put, List.setIfInBounds_toArray, List.set_cons_zero, List.set_cons_succ]
    apply lexT_value (by rfl) (fun l w _ h => h)
    · (intro l w h; go_simp; try rfl)
    simp only [Act.put, List.setIfInBounds_toArray, List.set_cons_zero, List.set_cons_succ]
    apply lexT_value (by rfl) (fun l w _ h => h)
    · (intro l w h; go_simp; try rfl)
    simp only [Act.put, List.setIfInBounds_toArray, List.set_cons_zero, List.set_cons_succ]
    apply lexT_value (by rfl) (fun l w _ h => h)
    · (intro l w h; go_simp; try rfl)
    simp only [Act.put, List.setIfInBounds_toArray, List.set_cons_zero, List.set_cons_succ]
    apply lexT_value (by rfl) (fun l w _ h => h)
    · (intro l w h; go_simp; try rfl)
    simp only [Act.put, List.setIfInBounds_toArray, List.set_cons_zero, List.set_cons_succ]
    apply lexT_value (by rfl) (fun l w _ h => h)
    · (intro l w h; go_simp; try rfl)
    simp only [Act.put, List.setIfInBounds_toArray, List.set_cons_zero, List.set_cons_succ]
    apply lexT_value (by rfl) (fun l w _ h => h)
    · (intro l w h; go_simp; try rfl)
    simp only [Act.put, List.setIfInBounds_toArray, List.set_cons_zero, List.set_cons_succ]
    apply lexT_value (by rfl) (fun l w _ h => h)
    · (intro l w h; go_simp; try rfl)
    simp only [Act.put, List.setIfInBounds_toArray, List.set_cons_zero, List.set_cons_succ]
    apply lexT_value (by rfl) (fun l w _ h => h)
    · (intro l w h; go_simp; try rfl)
    simp only [Act.put, List.setIfInBounds_toArray, List.set_cons_zero, List.set_cons_succ]
    apply lexT_nil
    intro w' hw'
    have BFin : Below w8.heap.size w8 w' := below_via hw' B12
    clear hw' KF HOV HMV
    go_wp2
    go_roundw
    case rel => exact ⟨k + 1, by omega, by go_num, BFin⟩
    case measure => simp [intOf]; omega
  · refine wp_region_tame (fun _ w => Below w12.heap.size w12 w) (by as_aux_lemma => kernel_rfl) (by as_aux_lemma => kernel_rfl) (Below.drew (Below.refl _ _)) ?_
    apply lexT_value (by rfl) (fun l w _ h => h)
    · (intro l w h; go_simp; try rfl)
    simp only [Act.put, List.setIfInBounds_toArray, List.set_cons_zero, List.set_cons_succ]
    apply lexT_value (by rfl) (fun l w _ h => h)
    · (intro l w h; have FK := KF.out w h; clear h; go_split_ands; go_simp; try rfl)
    simp only [Act.put, List.setIfInBounds_toArray, List.set_cons_zero, List.set_cons_succ]
    apply lexT_value (by rfl) (fun l w _ h => h)
    · (intro l w h; go_simp; try rfl)
    simp only [Act.put, List.setIfInBounds_toArray, List.set_cons_zero, List.set_cons_succ]
    apply lexT_value (by rfl) (fun l w _ h => h)
    · (intro l w h; go_simp; try rfl)
    simp only [Act.put, List.setIfInBounds_toArray, List.set_cons_zero, List.set_cons_succ]
    apply lexT_value (by rfl) (fun l w _ h => h)
    · (intro l w h; go_simp; try rfl)
    simp only [Act.put, List.setIfInBounds_toArray, List.set_cons_zero, List.set_cons_succ]
    apply lexT_value (by rfl) (fun l w _ h => h)
    · (intro l w h; go_simp; try rfl)
    simp only [Act.put, List.setIfInBounds_toArray, List.set_cons_zero, List.set_cons_succ]
    apply lexT_value (by rfl) (fun l w _ h => h)
    · (intro l w h; have FK := KF.out w h; clear h; go_split_ands; go_simp; try rfl)
    simp only [Act.put, List.setIfInBounds_toArray, List.set_cons_zero, List.set_cons_succ]
    apply lexT_value (by rfl) (fun l w _ h => h)
    · (intro l w h; go_simp; try rfl)
    simp only [Act.put, List.setIfInBounds_toArray, List.set_cons_zero, List.set_cons_succ]
    apply lexT_value (by rfl) (fun l w _ h => h)
    · (intro l w h; go_simp; try rfl)
    simp only [Act.put, List.setIfInBounds_toArray, List.set_cons_zero, List.set_cons_succ]
    apply lexT_value (by rfl) (fun l w _ h => h)
    · (intro l w h; go_simp; try rfl)
    simp only [Act.put, List.setIfInBounds_toArray, List.set_cons_zero, List.set_cons_succ]
    apply lexT_value (by rfl) (fun l w _ h => h)
    · (intro l w h; go_simp; try rfl)
    simp only [Act.put, List.setIfInBounds_toArray, List.set_cons_zero, List.set_cons_succ]
    apply lexT_value (by rfl) (fun l w _ h => h)
    · (intro l w h; have FK := KF.out w h; clear h; go_split_ands; go_simp; try rfl)
    simp only [Act.put, List.setIfInBounds_toArray, List.set_cons_zero, List.set_cons_succ]
    apply lexT_call (by rfl)
    · (intro l w h; go_simp; first | exact ⟨rfl, rfl⟩ | rfl)
    · (intro l w _ h; refine (rect_Has_any ox oy ow oh px py _ o1 o2 o3 o4).mono ?_; rw [HOV.out]; rintro e w2 ⟨rfl, hb⟩; exact ⟨rfl, below_via2 hb h⟩)
    simp only [Act.put, List.setIfInBounds_toArray, List.set_cons_zero, List.set_cons_succ]
    apply lexT_value (by rfl) (fun l w _ h => h)
    · (intro l w h; go_simp; try rfl)
    simp only [Act.put, List.setIfInBounds_toArray, List.set_cons_zero, List.set_cons_succ]
    apply lexT_value (by rfl) (fun l w _ h => h)
    · (intro l w h; go_simp; try rfl)
    simp only [Act.put, List.setIfInBounds_toArray, List.set_cons_zero, List.set_cons_succ]
    apply lexT_value (by rfl) (fun l w _ h => h)
    · (intro l w h; have FK := KF.out w h; clear h; go_split_ands; go_simp; try rfl)
    simp only [Act.put, List.setIfInBounds_toArray, List.set_cons_zero, List.set_cons_succ]
    apply lexT_value (by rfl) (fun l w _ h => h)
    · (intro l w h; go_simp; try rfl)
    simp only [Act.put, List.setIfInBounds_toArray, List.set_cons_zero, List.set_cons_succ]
    apply lexT_value (by rfl) (fun l w _ h => h)
    · (intro l w h; go_simp; try rfl)
    simp only [Act.put, List.setIfInBounds_toArray, List.set_cons_zero, List.set_cons_succ]
    apply lexT_value (by rfl) (fun l w _ h => h)
    · (intro l w h; go_simp; try rfl)
    simp only [Act.put, List.setIfInBounds_toArray, List.set_cons_zero, List.set_cons_succ]
    apply lexT_value (by rfl) (fun l w _ h => h)
    · (intro l w h; go_simp; try rfl)
    simp only [Act.put, List.setIfInBounds_toArray, List.set_cons_zero, List.set_cons_succ]
    apply lexT_value (by rfl) (fun l w _ h => h)
    · (intro l w h; have FK := KF.out w h; clear h; go_split_ands; go_simp; try rfl)
    simp only [Act.put, List.setIfInBounds_toArray, List.set_cons_zero, List.set_cons_succ]
    apply lexT_value (by rfl) (fun l w _ h => h)
    · (intro l w h; go_simp; try rfl)
    simp only [Act.put, List.setIfInBounds_toArray, List.set_cons_zero, List.set_cons_succ]
    apply lexT_value (by rfl) (fun l w _ h => h)
    · (intro l w h; go_simp; try rfl)
    simp only [Act.put, List.setIfInBounds_toArray, List.set_cons_zero, List.set_cons_succ]
    apply lexT_value (by rfl) (fun l w _ h => h)
    · (intro l w h; go_simp; try rfl)
    simp only [Act.put, List.setIfInBounds_toArray, List.set_cons_zero, List.set_cons_succ]
    apply lexT_value (by rfl) (fun l w _ h => h)
    · (intro l w h; go_simp; try rfl)
    simp only [Act.put, List.setIfInBounds_toArray, List.set_cons_zero, List.set_cons_succ]
    apply lexT_value (by rfl) (fun l w _ h => h)
    · (intro l w h; have FK := KF.out w h; clear h; go_split_ands; go_simp; try rfl)
    simp only [Act.put, List.setIfInBounds_toArray, List.set_cons_zero, List.set_cons_succ]
    apply lexT_call (by rfl)
    · (intro l w h; go_simp; first | exact ⟨rfl, rfl⟩ | rfl)
    · (intro l w _ h; refine (rect_Has_any mx my mw mh px py _ m1 m2 m3 m4).mono ?_; rw [HMV.out]; rintro e w2 ⟨rfl, hb⟩; exact ⟨rfl, below_via2 hb h⟩)
    simp only [Act.put, List.setIfInBounds_toArray, List.set_cons_zero, List.set_cons_succ]
    apply lexT_value (by rfl) (fun l w _ h => h)
    · (intro l w h; go_simp; try rfl)
    simp only [Act.put, List.setIfInBounds_toArray, List.set_cons_zero, List.set_cons_succ]
    apply lexT_value (by rfl) (fun l w _ h => h)
    · (intro l w h; go_simp; try rfl)
    simp only [Act.put, List.setIfInBounds_toArray, List.set_cons_zero, List.set_cons_succ]
    apply lexT_value (by rfl) (fun l w _ h => h)
    · (intro l w h; go_simp; try rfl)
    simp only [Act.put, List.setIfInBounds_toArray, List.set_cons_zero, List.set_cons_succ]
    apply lexT_value (by rfl) (fun l w _ h => h)
    · (intro l w h; go_simp; try rfl)
    simp only [Act.put, List.setIfInBounds_toArray, List.set_cons_zero, List.set_cons_succ]
    apply lexT_value (by rfl) (fun l w _ h => h)
    · (intro l w h; go_simp; try rfl)
    simp only [Act.put, List.setIfInBounds_toArray, List.set_cons_zero, List.set_cons_succ]
    apply lexT_value (by rfl) (fun l w _ h => h)
    · (intro l w h; go_simp; try rfl)
    simp only [Act.put, List.setIfInBounds_toArray, List.set_cons_zero, List.set_cons_succ]
    apply lexT_value (by rfl) (fun l w _ h => h)
    · (intro l w h; go_simp; try rfl)
    simp only [Act.put, List.setIfInBounds_toArray, List.set_cons_zero, List.set_cons_succ]
    apply lexT_value (by rfl) (fun l w _ h => h)
    · (intro l w h; go_simp; try rfl)
    simp only [Act.put, List.setIfInBounds_toArray, List.set_cons_zero, List.set_cons_succ]
    apply lexT_value (by rfl) (fun l w _ h => h)
    · (intro l w h; go_simp; try rfl)
    simp only [Act.put, List.setIfInBounds_toArray, List.set_cons_zero, List.set_cons_succ]
    apply lexT_value (by rfl) (fun l w _ h => h)
    · (intro l w h; go_simp; try rfl)
    simp only [Act.put, List.setIfInBounds_toArray, List.set_cons_zero, List.set_cons_succ]
    apply lexT_value (by rfl) (fun l w _ h => h)
    · (intro l w h; go_simp; try rfl)
    simp only [Act.put, List.setIfInBounds_toArray, List.set_cons_zero, List.set_cons_succ]
    apply lexT_value (by rfl) (fun l w _ h => h)
    · (intro l w h; go_simp; try rfl)
    simp only [Act.put, List.setIfInBounds_toArray, List.set_cons_zero, List.set_cons_succ]
    apply lexT_value (by rfl) (fun l w _ h => h)
    · (intro l w h; go_simp; try rfl)
    simp only [Act.put, List.setIfInBounds_toArray, List.set_cons_zero, List.set_cons_succ]
    apply lexT_value (by rfl) (fun l w _ h => h)
    · (intro l w h; go_simp; try rfl)
    simp only [Act.put, List.setIfInBounds_toArray, List.set_cons_zero, List.set_cons_succ]
    apply lexT_value (by rfl) (fun l w _ h => h)
    · (intro l w h; go_simp; try rfl)
    simp only [Act.put, List.setIfInBounds_toArray, List.set_cons_zero, List.set_cons_succ]
    apply lexT_value (by rfl) (fun l w _ h => h)
    · (intro l w h; go_simp; try rfl)
    simp only [Act.put, List.setIfInBounds_toArray, List.set_cons_zero, List.set_cons_succ]
    apply lexT_value (by rfl) (fun l w _ h => h)
    · (intro l w h; go_simp; try rfl)
    simp only [Act.put, List.setIfInBounds_toArray, List.set_cons_zero, List.set_cons_succ]
    apply lexT_value (by rfl) (fun l w _ h => h)
    · (intro l w h; go_simp; try rfl)
    simp only [Act.put, List.setIfInBounds_toArray, List.set_cons_zero, List.set_cons_succ]
    apply lexT_value (by rfl) (fun l w _ h => h)
    · (intro l w h; go_simp; try rfl)
    simp only [Act.put, List.setIfInBounds_toArray, List.set_cons_zero, List.set_cons_succ]
    apply lexT_value (by rfl) (fun l w _ h => h)
    · (intro l w h; go_simp; try rfl)
    simp only [Act.put, List.setIfInBounds_toArray, List.set_cons_zero, List.set_cons_succ]
    apply lexT_nil
    intro w' hw'
    have BFin : Below w8.heap.size w8 w' := below_via hw' B12
    clear hw' KF HOV HMV
    go_wp2
    go_roundw
    case rel => exact ⟨k + 1, by omega, by go_num, BFin⟩
    case measure => simp [intOf]; omega
end Go.Proofs.Ytekcheccelllcaa
