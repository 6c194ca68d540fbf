/- The plain law of a thumb, and the walk of ScrollThumbs. -/
import Derived.Test.YtegdokchkblpiaaScrE
namespace Go.Proofs.Ytegdokchkblpiaa
open Go.RowKit
set_option linter.unusedVariables false
set_option linter.unusedSimpArgs false

theorem thumb_bd (u c a : Int) (h0 : 0 ≤ u) : 0 ≤ thumbAt u c a ∧ thumbAt u c a + thumbLen u c ≤ u ∧ 0 ≤ thumbLen u c ∧ (0 < u → 1 ≤ thumbLen u c) := by
  unfold thumbAt thumbLen
  by_cases h : c ≤ u ∨ u = 0
  · rw [if_pos h, if_pos h]; omega
  · rw [if_neg h, if_neg h]
    have hl := longF_bd u c h0 (by omega) (by omega)
    have hx : 0 ≤ min (max a 0) (c - u) ∧ min (max a 0) (c - u) ≤ c - u := by omega
    generalize min (max a 0) (c - u) = x at *
    generalize longF u c = l at *
    have p0 : 0 ≤ x * (u - l) := Int.mul_nonneg hx.1 (by omega)
    have q0 : 0 ≤ x * (u - l) / (c - u) := Int.ediv_nonneg p0 (by omega)
    have p1 : x * (u - l) ≤ (u - l) * (c - u) := by rw [Int.mul_comm (u - l)]; exact Int.mul_le_mul_of_nonneg_right hx.2 (by omega)
    have q1 : x * (u - l) / (c - u) ≤ u - l := Int.ediv_le_of_le_mul (by omega) p1
    omega

theorem thumb_mono (u c a b : Int) (h0 : 0 ≤ u) (h : a ≤ b) : thumbAt u c a ≤ thumbAt u c b := by
  unfold thumbAt
  by_cases h : c ≤ u ∨ u = 0
  · rw [if_pos h, if_pos h]; omega
  · rw [if_neg h, if_neg h]
    have hl := longF_bd u c h0 (by omega) (by omega)
    exact Int.ediv_le_ediv (by omega) (Int.mul_le_mul_of_nonneg_right (by omega) (by omega))

theorem thumb_end (u c : Int) (h0 : 0 ≤ u) (h1 : u < c) (h2 : u ≠ 0) (hc : c ≤ 1048576) : thumbAt u c (ptF (c - u)) = u - thumbLen u c := by
  have e : ptF (c - u) = c - u := by unfold ptF; omega
  unfold thumbAt thumbLen
  rw [if_neg (by omega), if_neg (by omega), e, show min (max (c - u) 0) (c - u) = c - u by omega, Int.mul_comm, Int.mul_ediv_cancel _ (by omega)]

theorem thumb_zero (u c : Int) (h0 : 0 ≤ u) : thumbAt u c (ptF 0) = 0 := by
  have e : ptF 0 = 0 := by decide
  unfold thumbAt
  rw [e]
  by_cases h : c ≤ u ∨ u = 0
  · rw [if_pos h]
  · rw [if_neg h, show min (max (0 : Int) 0) (c - u) = 0 by omega, Int.zero_mul, Int.zero_ediv]

theorem ptF_up (a y : Int) (h : 0 ≤ y) : ptF a ≤ ptF (ptF a + y) := by unfold ptF; omega
theorem ptF_idem (a : Int) : ptF (ptF a) = ptF a := by unfold ptF; omega

set_option maxRecDepth 100000 in
set_option maxHeartbeats 8000000 in
theorem ScrollThumbs_walk (v c a m : Int) (w : World) : Calls Try.prog 5 #[.int .i64 v, .int .i64 c, .int .i64 a, .int .i64 m] w fun e w' => e = .returned (.bool true) ∧ Below w.heap.size w w' := by
  have h1 := ptF_bd c; have h2 := ptF_bd a
  go_enter Try.func5, Try.ntmps5
  go_wp2_with fail
  refine (law_works _).mono ?_
  rintro e w1 ⟨rfl, hb1⟩
  go_upto_region 3 with fail
  go_cut [9] (fun s wx => s = .int .i64 (viewF v) ∧ w1 = wx)
  case first =>
    go_wp2_with fail
    all_goals go_meet
    all_goals exact ⟨by unfold viewF; congr 1; omega, rfl⟩
  case rest =>
    obtain ⟨rfl, rfl⟩ := hcut
    have h3 := viewF_bd v
    have t1 := thumb_bd (viewF v) (ptF c) (ptF a) h3.1
    have t2 := thumb_zero (viewF v) (ptF c) h3.1
    obtain ⟨t10, t11, t12, t13⟩ := t1
    have t14 : viewF v ≤ 0 ∨ (0 < viewF v ∧ 1 ≤ thumbLen (viewF v) (ptF c)) := by
      by_cases k : 0 < viewF v
      · exact .inr ⟨k, t13 k⟩
      · exact .inl (by omega)
    clear t13
    rcases t14 with t14 | t14
    all_goals
      go_upto_region 7 with (go_at_call 15; refine (scroll_Thumb_any _ _ _ _).mono ?_; rintro e w' ⟨rfl, rfl⟩)
      go_cut [12, 13] (fun s12 s13 wx => ∃ b, s12 = .int .i64 b ∧ thumbAt (viewF v) (ptF c) (ptF a) ≤ b ∧ s13 = .int .i64 (thumbLen (viewF v) (ptF c)) ∧ w1 = wx)
      case first =>
        go_wp2_with (first | (go_at_call 15; refine (scroll_Thumb_any _ _ _ _).mono ?_; rintro e w' ⟨rfl, rfl⟩) | (go_at_call 19; refine (law_point_any _ _).mono ?_; rintro e w' ⟨rfl, rfl⟩))
        all_goals go_meet
        all_goals exact ⟨_, rfl, thumb_mono _ _ _ _ h3.1 (by unfold ptF; omega), rfl, rfl⟩
      case rest =>
        obtain ⟨b, rfl, hb, rfl, rfl⟩ := hcut
        by_cases k1 : viewF v = 0 ∨ ptF c ≤ viewF v
        · have e1 : thumbAt (viewF v) (ptF c) (ptF a) = 0 := by unfold thumbAt; rw [if_pos (by omega)]
          have e2 : thumbLen (viewF v) (ptF c) = viewF v := by unfold thumbLen; rw [if_pos (by omega)]
          go_wp2_with (first | (go_at_call 15; refine (scroll_Thumb_any _ _ _ _).mono ?_; rintro e w' ⟨rfl, rfl⟩) | (go_at_call 19; refine (law_point_any _ _).mono ?_; rintro e w' ⟨rfl, rfl⟩))
          all_goals go_ret
          all_goals refine ⟨ret_bool ?_, hb1⟩
          all_goals first | rfl | (simp; done) | (simp; omega)
        · have k0 : (viewF v == 0) = false := by simp; omega
          have k2 : viewF v < ptF c := by omega
          have e3 := thumb_end (viewF v) (ptF c) h3.1 (by omega) (by omega) h1.2
          go_wp2_with (first | (go_at_call 15; refine (scroll_Thumb_any _ _ _ _).mono ?_; rintro e w' ⟨rfl, rfl⟩) | (go_at_call 19; refine (law_point_any _ _).mono ?_; rintro e w' ⟨rfl, rfl⟩))
          all_goals go_ret
          all_goals refine ⟨ret_bool ?_, hb1⟩
          all_goals first | rfl | (simp; done) | (simp; omega)
end Go.Proofs.Ytegdokchkblpiaa
