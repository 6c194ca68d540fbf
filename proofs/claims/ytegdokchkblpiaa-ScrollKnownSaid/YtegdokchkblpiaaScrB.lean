/- Contracts of scroll.Clamp, Reveal, Thumb and of their references (offsets and rectangles by value). -/
import Derived.Test.YtegdokchkblpiaaScrA
import Derived.Handy
namespace Go.Proofs.Ytegdokchkblpiaa
open Go.RowKit
attribute [local go_sem ↓] Go.wp_at_zero Go.wp_at_succ

set_option maxHeartbeats 1000000 in
theorem scroll_Clamp_any (ax ay mx my : Int) (w : World) : Calls Try.prog 11 #[.agg #[.int .i64 ax, .int .i64 ay], .agg #[.int .i64 mx, .int .i64 my]] w fun e w' => e = .returned (.agg #[.int .i64 (clampF ax mx), .int .i64 (clampF ay my)]) ∧ Below w.heap.size w w' := by
  go_enter Try.func11, Try.ntmps11
  go_wp2
  go_region_held3 (fun w' => w'.cell? ⟨w.heap.size, 0, none⟩ = some (.int .i64 ax) ∧ w'.cell? ⟨w.heap.size, 1, none⟩ = some (.int .i64 ay) ∧ w'.cell? ⟨w.heap.size + 1, 0, none⟩ = some (.int .i64 mx) ∧ w'.cell? ⟨w.heap.size + 1, 1, none⟩ = some (.int .i64 my)) (go_keep)
    ((go_at_call 34; refine (scroll_clamp_any _ _ _).mono ?_; rintro e w' ⟨rfl, rfl⟩))
  all_goals go_wp2
  all_goals refine bodyPost_ret (v := .agg #[.int .i64 (clampF ax mx), .int .i64 (clampF ay my)]) (by simp [results, Try.results11, go_sem]) rfl ⟨rfl, ?_⟩
  all_goals go_grown


theorem brought_clamp (a m : Int) : broughtF (ptF a) 0 (ptF m) = clampF a m := by unfold broughtF clampF; omega

set_option maxHeartbeats 1000000 in
theorem ref_Clamp_any (ax ay mx my : Int) (w : World) : Calls Try.prog 12 #[.agg #[.int .i64 ax, .int .i64 ay], .agg #[.int .i64 mx, .int .i64 my]] w fun e w' => e = .returned (.agg #[.int .i64 (clampF ax mx), .int .i64 (clampF ay my)]) ∧ Below w.heap.size w w' := by
  go_enter Try.func12, Try.ntmps12
  go_wp2
  go_region_held3 (fun w' => w'.cell? ⟨w.heap.size, 0, none⟩ = some (.int .i64 ax) ∧ w'.cell? ⟨w.heap.size, 1, none⟩ = some (.int .i64 ay) ∧ w'.cell? ⟨w.heap.size + 1, 0, none⟩ = some (.int .i64 mx) ∧ w'.cell? ⟨w.heap.size + 1, 1, none⟩ = some (.int .i64 my)) (go_keep)
    (first | (go_at_call 36; refine (ref_point_any _ _).mono ?_; rintro e w' ⟨rfl, rfl⟩) | (go_at_call 35; refine (ref_brought_any _ _ _ _).mono ?_; rintro e w' ⟨rfl, rfl⟩))
  all_goals go_wp2
  all_goals refine bodyPost_ret (v := .agg #[.int .i64 (broughtF (ptF ax) 0 (ptF mx)), .int .i64 (broughtF (ptF ay) 0 (ptF my))]) (by simp [results, Try.results12, go_sem]) rfl ⟨by rw [brought_clamp, brought_clamp], ?_⟩
  all_goals go_grown

theorem reveal_along (v x l a : Int) (m : Int) : clampF (revealF v x l a) m = clampF (alongF v x l a) m := by unfold revealF alongF; have h1 := ptF_bd x; have h2 := ptF_bd a; have h3 := szF_bd v; have h4 := szF_bd l; congr 1; omega

set_option maxHeartbeats 1000000 in
theorem scroll_Reveal_any (vx vy vw vh tx ty tw th ax ay mx my : Int) (w : World) : Calls Try.prog 13 #[.agg #[.int .i64 vx, .int .i64 vy, .int .i64 vw, .int .i64 vh], .agg #[.int .i64 tx, .int .i64 ty, .int .i64 tw, .int .i64 th], .agg #[.int .i64 ax, .int .i64 ay], .agg #[.int .i64 mx, .int .i64 my]] w fun e w' => e = .returned (.agg #[.int .i64 (clampF (alongF vw tx tw ax) mx), .int .i64 (clampF (alongF vh ty th ay) my)]) ∧ Below w.heap.size w w' := by
  go_enter Try.func13, Try.ntmps13
  go_wp2_with (go_at_call 37; refine (scroll_along_any _ _ _ _ _).mono ?_; rintro e w' ⟨rfl, rfl⟩)
  refine (scroll_Clamp_any _ _ _ _ _).mono ?_
  rintro e w1 ⟨rfl, hb⟩
  obtain ⟨hc, hf⟩ := bcell hb
  have hz : w.heap.size + 4 < w1.heap.size := below_size hb (by simp)
  have hb0 : Below w.heap.size w w1 := below_via hb (below_al (below_al (below_al (below_al (below_al (Below.refl _ _) _) _) _) _) _)
  go_wp2
  refine bodyPost_ret (v := .agg #[.int .i64 (clampF (alongF vw tx tw ax) mx), .int .i64 (clampF (alongF vh ty th ay) my)]) (by simp [results, Try.results13, go_sem, hc]) rfl ⟨rfl, ?_⟩
  go_grown

set_option maxHeartbeats 2000000 in
theorem ref_Reveal_any (vx vy vw vh tx ty tw th ax ay mx my : Int) (w : World) : Calls Try.prog 14 #[.agg #[.int .i64 vx, .int .i64 vy, .int .i64 vw, .int .i64 vh], .agg #[.int .i64 tx, .int .i64 ty, .int .i64 tw, .int .i64 th], .agg #[.int .i64 ax, .int .i64 ay], .agg #[.int .i64 mx, .int .i64 my]] w fun e w' => e = .returned (.agg #[.int .i64 (clampF (alongF vw tx tw ax) mx), .int .i64 (clampF (alongF vh ty th ay) my)]) ∧ Below w.heap.size w w' := by
  go_enter Try.func14, Try.ntmps14
  go_wp2
  go_region_held3 (fun w' => w'.cell? ⟨w.heap.size, 2, none⟩ = some (.int .i64 vw) ∧ w'.cell? ⟨w.heap.size, 3, none⟩ = some (.int .i64 vh) ∧ w'.cell? ⟨w.heap.size + 1, 0, none⟩ = some (.int .i64 tx) ∧ w'.cell? ⟨w.heap.size + 1, 1, none⟩ = some (.int .i64 ty) ∧ w'.cell? ⟨w.heap.size + 1, 2, none⟩ = some (.int .i64 tw) ∧ w'.cell? ⟨w.heap.size + 1, 3, none⟩ = some (.int .i64 th) ∧ w'.cell? ⟨w.heap.size + 2, 0, none⟩ = some (.int .i64 ax) ∧ w'.cell? ⟨w.heap.size + 2, 1, none⟩ = some (.int .i64 ay) ∧ w'.cell? ⟨w.heap.size + 3, 0, none⟩ = some (.int .i64 mx) ∧ w'.cell? ⟨w.heap.size + 3, 1, none⟩ = some (.int .i64 my)) (simp [go_sem, *])
    (first | (go_at_call 38; refine (ref_reveal_any _ _ _ _ _).mono ?_; rintro e w' ⟨rfl, rfl⟩) | (go_at_call 12; refine (ref_Clamp_any _ _ _ _ _).mono ?_; rintro e w1 ⟨rfl, hb⟩; obtain ⟨hc, hf⟩ := bcell hb; have hz : w.heap.size + 4 < w1.heap.size := below_size hb (by simp); have hb0 : Below w.heap.size w w1 := below_via hb (Below.drew (below_al (below_al (below_al (below_al (below_al (Below.refl _ _) _) _) _) _) _))))
  all_goals go_wp2
  all_goals refine bodyPost_ret (v := .agg #[.int .i64 (clampF (revealF vw tx tw ax) mx), .int .i64 (clampF (revealF vh ty th ay) my)]) (by simp [results, Try.results14, go_sem, hc]) rfl ⟨by rw [reveal_along, reveal_along], ?_⟩
  all_goals go_grown
end Go.Proofs.Ytegdokchkblpiaa
