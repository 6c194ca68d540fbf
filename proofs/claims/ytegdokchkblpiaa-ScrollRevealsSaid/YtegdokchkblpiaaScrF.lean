/- The walk of ScrollReveals. -/
import Derived.Test.YtegdokchkblpiaaScrE
import Derived.Handy
namespace Go.Proofs.Ytegdokchkblpiaa
open Go.RowKit
set_option linter.unusedVariables false
set_option linter.unusedSimpArgs false
attribute [local go_sem ↓] Go.wp_at_zero Go.wp_at_succ

theorem clampF_bd (a m : Int) : 0 ≤ clampF a m ∧ clampF a m ≤ max 0 (ptF m) := by unfold clampF; omega
theorem clampF_idem (a m : Int) : clampF (clampF a m) m = clampF a m := by
  have h := clampF_bd a m; have h2 := ptF_bd m
  have e : ptF (clampF a m) = clampF a m := by unfold ptF; omega
  unfold clampF at *; rw [e]; omega
theorem reveal_seen (v x l a m : Int) : szF l ≤ szF v → 0 ≤ ptF x → ptF x + szF l ≤ max 0 (ptF m) + szF v → clampF (alongF v x l a) m ≤ ptF x ∧ ptF x + szF l ≤ clampF (alongF v x l a) m + szF v := by
  have h1 := ptF_bd x; have h2 := ptF_bd a; have h3 := szF_bd v; have h4 := szF_bd l; have h5 := ptF_bd m
  intro k1 k2 k3
  have e : ptF (alongF v x l a) = alongF v x l a ∨ alongF v x l a < -1048576 := by unfold alongF; unfold ptF at *; omega
  unfold clampF
  rcases e with e | e
  · rw [e]; unfold alongF; omega
  · unfold alongF at *; omega
theorem reveal_still (v x l a m : Int) : szF l ≤ szF v → 0 ≤ ptF x → ptF x + szF l ≤ max 0 (ptF m) + szF v → ptF a ≤ ptF x → ptF x + szF l ≤ ptF a + szF v → 0 ≤ ptF a → ptF a ≤ max 0 (ptF m) → clampF (alongF v x l a) m = ptF a := by
  have h1 := ptF_bd x; have h2 := ptF_bd a; have h3 := szF_bd v; have h4 := szF_bd l; have h5 := ptF_bd m
  intro k1 k2 k3 k4 k5 k6 k7
  have e : alongF v x l a = ptF a := by unfold alongF; omega
  have e2 : ptF (ptF a) = ptF a := by unfold ptF; omega
  unfold clampF; rw [e, e2]; omega
theorem reveal_again (v x l a m : Int) : clampF (alongF v x l (clampF (alongF v x l a) m)) m = clampF (alongF v x l a) m := by
  have h1 := ptF_bd x; have h2 := ptF_bd a; have h3 := szF_bd v; have h4 := szF_bd l; have h5 := ptF_bd m
  have hb := clampF_bd (alongF v x l a) m
  have e : ptF (clampF (alongF v x l a) m) = clampF (alongF v x l a) m := by generalize clampF (alongF v x l a) m = z at *; unfold ptF; omega
  have f : ∀ y, clampF y m = max 0 (min (ptF y) (ptF m)) := fun _ => rfl
  have g : alongF v x l (clampF (alongF v x l a) m) = if szF v ≤ szF l then ptF x else min (max (ptF (clampF (alongF v x l a) m)) (ptF x + szF l - szF v)) (ptF x) := rfl
  have g2 : alongF v x l a = if szF v ≤ szF l then ptF x else min (max (ptF a) (ptF x + szF l - szF v)) (ptF x) := rfl
  rw [f, g, e, f, g2]
  unfold ptF at *
  omega

set_option maxHeartbeats 8000000 in
theorem ScrollReveals_walk (vx vy vw vh tx ty tw th ax ay mx my : Int) (w : World) : Calls Try.prog 4 #[.agg #[.int .i64 vx, .int .i64 vy, .int .i64 vw, .int .i64 vh], .agg #[.int .i64 tx, .int .i64 ty, .int .i64 tw, .int .i64 th], .agg #[.int .i64 ax, .int .i64 ay], .agg #[.int .i64 mx, .int .i64 my]] w fun e w' => e = .returned (.bool true) ∧ Below w.heap.size w w' := by
  go_enter Try.func4, Try.ntmps4
  go_wp2_with fail
  refine (law_works _).mono ?_
  rintro e w1 ⟨rfl, hb1⟩
  have B1 : Below w.heap.size w w1 := below_via hb1 (below_al (below_al (below_al (below_al (Below.refl _ _) _) _) _) _)
  have F1 : w.heap.size < w1.heap.size ∧ w.heap.size + 1 < w1.heap.size ∧ w.heap.size + 2 < w1.heap.size ∧ w.heap.size + 3 < w1.heap.size ∧ w1.cell? ⟨w.heap.size, 0, none⟩ = some (.int .i64 vx) ∧ w1.cell? ⟨w.heap.size, 1, none⟩ = some (.int .i64 vy) ∧ w1.cell? ⟨w.heap.size, 2, none⟩ = some (.int .i64 vw) ∧ w1.cell? ⟨w.heap.size, 3, none⟩ = some (.int .i64 vh) ∧ w1.cell? ⟨w.heap.size + 1, 0, none⟩ = some (.int .i64 tx) ∧ w1.cell? ⟨w.heap.size + 1, 1, none⟩ = some (.int .i64 ty) ∧ w1.cell? ⟨w.heap.size + 1, 2, none⟩ = some (.int .i64 tw) ∧ w1.cell? ⟨w.heap.size + 1, 3, none⟩ = some (.int .i64 th) ∧ w1.cell? ⟨w.heap.size + 2, 0, none⟩ = some (.int .i64 ax) ∧ w1.cell? ⟨w.heap.size + 2, 1, none⟩ = some (.int .i64 ay) ∧ w1.cell? ⟨w.heap.size + 3, 0, none⟩ = some (.int .i64 mx) ∧ w1.cell? ⟨w.heap.size + 3, 1, none⟩ = some (.int .i64 my) := by
    obtain ⟨hc, hf⟩ := bcell hb1
    have hz := hb1.size
    simp only [World.size_alloc] at hz
    refine ⟨by omega, by omega, by omega, by omega, ?_⟩
    (repeat' apply And.intro) <;> (rw [hc _ _ (by simp only [World.size_alloc]; omega)]; simp [go_sem])
  clear hb1
  go_wp2_with fail
  refine (scroll_Reveal_any _ _ _ _ _ _ _ _ _ _ _ _ _).mono ?_
  rintro e w2 ⟨rfl, hb2⟩
  have B2 : Below w.heap.size w w2 := below_via hb2 B1
  have F2 : w.heap.size < w2.heap.size ∧ w.heap.size + 1 < w2.heap.size ∧ w.heap.size + 2 < w2.heap.size ∧ w.heap.size + 3 < w2.heap.size ∧ w2.cell? ⟨w.heap.size, 0, none⟩ = some (.int .i64 vx) ∧ w2.cell? ⟨w.heap.size, 1, none⟩ = some (.int .i64 vy) ∧ w2.cell? ⟨w.heap.size, 2, none⟩ = some (.int .i64 vw) ∧ w2.cell? ⟨w.heap.size, 3, none⟩ = some (.int .i64 vh) ∧ w2.cell? ⟨w.heap.size + 1, 0, none⟩ = some (.int .i64 tx) ∧ w2.cell? ⟨w.heap.size + 1, 1, none⟩ = some (.int .i64 ty) ∧ w2.cell? ⟨w.heap.size + 1, 2, none⟩ = some (.int .i64 tw) ∧ w2.cell? ⟨w.heap.size + 1, 3, none⟩ = some (.int .i64 th) ∧ w2.cell? ⟨w.heap.size + 2, 0, none⟩ = some (.int .i64 ax) ∧ w2.cell? ⟨w.heap.size + 2, 1, none⟩ = some (.int .i64 ay) ∧ w2.cell? ⟨w.heap.size + 3, 0, none⟩ = some (.int .i64 mx) ∧ w2.cell? ⟨w.heap.size + 3, 1, none⟩ = some (.int .i64 my) := by
    obtain ⟨hc, hf⟩ := bcell hb2
    have hz := hb2.size
    refine ⟨by omega, by omega, by omega, by omega, ?_⟩
    (repeat' apply And.intro) <;> (rw [hc _ _ (by omega)]; simp [F1])
  clear hb2 F1 B1
  go_wp2_with fail
  refine (scroll_Clamp_any _ _ _ _ _).mono ?_
  rintro e w3 ⟨rfl, hb3⟩
  have B3 : Below w.heap.size w w3 := below_via hb3 (below_al B2 _)
  have F3 : w.heap.size < w3.heap.size ∧ w.heap.size + 1 < w3.heap.size ∧ w.heap.size + 2 < w3.heap.size ∧ w.heap.size + 3 < w3.heap.size ∧ w2.heap.size < w3.heap.size ∧ w3.cell? ⟨w.heap.size, 0, none⟩ = some (.int .i64 vx) ∧ w3.cell? ⟨w.heap.size, 1, none⟩ = some (.int .i64 vy) ∧ w3.cell? ⟨w.heap.size, 2, none⟩ = some (.int .i64 vw) ∧ w3.cell? ⟨w.heap.size, 3, none⟩ = some (.int .i64 vh) ∧ w3.cell? ⟨w.heap.size + 1, 0, none⟩ = some (.int .i64 tx) ∧ w3.cell? ⟨w.heap.size + 1, 1, none⟩ = some (.int .i64 ty) ∧ w3.cell? ⟨w.heap.size + 1, 2, none⟩ = some (.int .i64 tw) ∧ w3.cell? ⟨w.heap.size + 1, 3, none⟩ = some (.int .i64 th) ∧ w3.cell? ⟨w.heap.size + 2, 0, none⟩ = some (.int .i64 ax) ∧ w3.cell? ⟨w.heap.size + 2, 1, none⟩ = some (.int .i64 ay) ∧ w3.cell? ⟨w.heap.size + 3, 0, none⟩ = some (.int .i64 mx) ∧ w3.cell? ⟨w.heap.size + 3, 1, none⟩ = some (.int .i64 my) ∧ w3.cell? ⟨w2.heap.size, 0, none⟩ = some (.int .i64 (clampF (alongF vw tx tw ax) mx)) ∧ w3.cell? ⟨w2.heap.size, 1, none⟩ = some (.int .i64 (clampF (alongF vh ty th ay) my)) := by
    obtain ⟨hc, hf⟩ := bcell hb3
    have hz := hb3.size
    simp only [World.size_alloc] at hz
    refine ⟨by omega, by omega, by omega, by omega, by omega, ?_⟩
    (repeat' apply And.intro) <;> (rw [hc _ _ (by simp only [World.size_alloc]; omega)]; simp [go_sem, F2])
  clear hb3 F2 B2
  go_wp2_with (go_at_call 18; refine (law_along_true _ _ _ _ _ _ _ (clampF_bd _ _).1 (clampF_bd _ _).2 (reveal_seen _ _ _ _ _) (reveal_still _ _ _ _ _)).mono ?_; rintro e w' ⟨rfl, rfl⟩)
  go_region_held3 (fun w' => w.heap.size < w'.heap.size ∧ w.heap.size + 1 < w'.heap.size ∧ w.heap.size + 2 < w'.heap.size ∧ w.heap.size + 3 < w'.heap.size ∧ w2.heap.size < w'.heap.size ∧ w3.heap.size < w'.heap.size ∧ w'.cell? ⟨w.heap.size, 0, none⟩ = some (.int .i64 vx) ∧ w'.cell? ⟨w.heap.size, 1, none⟩ = some (.int .i64 vy) ∧ w'.cell? ⟨w.heap.size, 2, none⟩ = some (.int .i64 vw) ∧ w'.cell? ⟨w.heap.size, 3, none⟩ = some (.int .i64 vh) ∧ w'.cell? ⟨w.heap.size + 1, 0, none⟩ = some (.int .i64 tx) ∧ w'.cell? ⟨w.heap.size + 1, 1, none⟩ = some (.int .i64 ty) ∧ w'.cell? ⟨w.heap.size + 1, 2, none⟩ = some (.int .i64 tw) ∧ w'.cell? ⟨w.heap.size + 1, 3, none⟩ = some (.int .i64 th) ∧ w'.cell? ⟨w.heap.size + 2, 0, none⟩ = some (.int .i64 ax) ∧ w'.cell? ⟨w.heap.size + 2, 1, none⟩ = some (.int .i64 ay) ∧ w'.cell? ⟨w.heap.size + 3, 0, none⟩ = some (.int .i64 mx) ∧ w'.cell? ⟨w.heap.size + 3, 1, none⟩ = some (.int .i64 my) ∧ w'.cell? ⟨w2.heap.size, 0, none⟩ = some (.int .i64 (clampF (alongF vw tx tw ax) mx)) ∧ w'.cell? ⟨w2.heap.size, 1, none⟩ = some (.int .i64 (clampF (alongF vh ty th ay) my)) ∧ w'.cell? ⟨w3.heap.size, 0, none⟩ = some (.int .i64 (clampF ax mx)) ∧ w'.cell? ⟨w3.heap.size, 1, none⟩ = some (.int .i64 (clampF ay my))) (first | (simp [go_sem, F3]; done) | (go_split_ands; (repeat' apply And.intro) <;> (first | omega | (rw [hc _ _ (by omega)]; assumption))))
    (first | (go_at_call 11; refine (scroll_Clamp_any _ _ _ _ _).mono ?_; rw [clampF_idem, clampF_idem]; rintro e w1 ⟨rfl, hb⟩; obtain ⟨hc, hf⟩ := bcell hb; have hz := hb.size) | (go_at_call 13; refine (scroll_Reveal_any _ _ _ _ _ _ _ _ _ _ _ _ _).mono ?_; rw [reveal_again, reveal_again]; rintro e w1 ⟨rfl, hb⟩; obtain ⟨hc, hf⟩ := bcell hb; have hz := hb.size))
  all_goals go_wp2
  all_goals go_ret
  exact ⟨rfl, below_via (by assumption) (below_via (by assumption) (below_via (by assumption) (Below.drew (below_al B3 _))))⟩
end Go.Proofs.Ytegdokchkblpiaa
