/- The walk of ScrollGoes. -/
import Derived.Test.YtegdokchkblpiaaScrC
namespace Go.Proofs.Ytegdokchkblpiaa
open Go.RowKit
attribute [local go_sem ↓] Go.wp_at_zero Go.wp_at_succ

set_option maxHeartbeats 4000000 in
theorem ScrollGoes_walk (vx vy vw vh tx ty tw th ax ay mx my n m : Int) (w : World) : Calls Try.prog 3 #[.agg #[.int .i64 vx, .int .i64 vy, .int .i64 vw, .int .i64 vh], .agg #[.int .i64 tx, .int .i64 ty, .int .i64 tw, .int .i64 th], .agg #[.int .i64 ax, .int .i64 ay], .agg #[.int .i64 mx, .int .i64 my], .int .i64 n, .int .i64 m] w fun e w' => e = .returned (.bool true) ∧ Below w.heap.size w w' := by
  go_enter Try.func3, Try.ntmps3
  go_wp2
  go_region_held3 (fun w' => w.heap.size + 3 < w'.heap.size ∧ w'.cell? ⟨w.heap.size, 0, none⟩ = some (.int .i64 vx) ∧ w'.cell? ⟨w.heap.size, 1, none⟩ = some (.int .i64 vy) ∧ w'.cell? ⟨w.heap.size, 2, none⟩ = some (.int .i64 vw) ∧ w'.cell? ⟨w.heap.size, 3, none⟩ = some (.int .i64 vh) ∧ w'.cell? ⟨w.heap.size + 1, 0, none⟩ = some (.int .i64 tx) ∧ w'.cell? ⟨w.heap.size + 1, 1, none⟩ = some (.int .i64 ty) ∧ w'.cell? ⟨w.heap.size + 1, 2, none⟩ = some (.int .i64 tw) ∧ w'.cell? ⟨w.heap.size + 1, 3, none⟩ = some (.int .i64 th) ∧ w'.cell? ⟨w.heap.size + 2, 0, none⟩ = some (.int .i64 ax) ∧ w'.cell? ⟨w.heap.size + 2, 1, none⟩ = some (.int .i64 ay) ∧ w'.cell? ⟨w.heap.size + 3, 0, none⟩ = some (.int .i64 mx) ∧ w'.cell? ⟨w.heap.size + 3, 1, none⟩ = some (.int .i64 my)) (first | (simp [go_sem]; done) | (go_split_ands; refine ⟨hz, ?_⟩; ((repeat' apply And.intro) <;> (rw [hc _ _ (by omega)]; assumption))))
    (first | (go_at_call 11; refine (scroll_Clamp_any _ _ _ _ _).mono ?_; rintro e w1 ⟨rfl, hb⟩; obtain ⟨hc, hf⟩ := bcell hb; have hz : w.heap.size + 3 < w1.heap.size := below_size hb (by simp [*])) | (go_at_call 12; refine (ref_Clamp_any _ _ _ _ _).mono ?_; rintro e w1 ⟨rfl, hb⟩; obtain ⟨hc, hf⟩ := bcell hb; have hz : w.heap.size + 3 < w1.heap.size := below_size hb (by simp [*])) | (go_at_call 13; refine (scroll_Reveal_any _ _ _ _ _ _ _ _ _ _ _ _ _).mono ?_; rintro e w1 ⟨rfl, hb⟩; obtain ⟨hc, hf⟩ := bcell hb; have hz : w.heap.size + 3 < w1.heap.size := below_size hb (by simp [*])) | (go_at_call 14; refine (ref_Reveal_any _ _ _ _ _ _ _ _ _ _ _ _ _).mono ?_; rintro e w1 ⟨rfl, hb⟩; obtain ⟨hc, hf⟩ := bcell hb; have hz : w.heap.size + 3 < w1.heap.size := below_size hb (by simp [*])))
  all_goals go_wp2_with (first | (go_at_call 15; refine (scroll_Thumb_any _ _ _ _).mono ?_; rintro e w' ⟨rfl, rfl⟩) | (go_at_call 16; refine (ref_Thumb_any _ _ _ _).mono ?_; rintro e w' ⟨rfl, rfl⟩))
  all_goals go_ret
  all_goals refine ⟨ret_bool ?_, ?_⟩
  all_goals first | rfl | skip
  exact below_via (by assumption) (below_via (by assumption) (below_via (by assumption) (below_via (by assumption) (Below.drew (below_al (below_al (below_al (below_al (Below.refl _ _) _) _) _) _)))))
end Go.Proofs.Ytegdokchkblpiaa
