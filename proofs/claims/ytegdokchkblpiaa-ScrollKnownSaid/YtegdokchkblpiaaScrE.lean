/- The statement's own helpers of layer 17 (outright.go): seen, along, works. -/
import Derived.Test.YtegdokchkblpiaaScrC
namespace Go.Proofs.Ytegdokchkblpiaa
open Go.RowKit
set_option linter.unusedVariables false
set_option linter.unusedSimpArgs false

set_option maxHeartbeats 400000 in
theorem law_seen_true (v x l a : Int) (w : World) (hv : -4194304 ≤ v ∧ v ≤ 4194304) (hx : -4194304 ≤ x ∧ x ≤ 4194304) (hl : -4194304 ≤ l ∧ l ≤ 4194304) (ha : -4194304 ≤ a ∧ a ≤ 4194304) (h1 : a ≤ x) (h2 : x + l ≤ a + v) :
    Calls Try.prog 41 #[.int .i64 v, .int .i64 x, .int .i64 l, .int .i64 a] w fun e w' => e = .returned (.bool true) ∧ w = w' := by
  go_enter Try.func41, Try.ntmps41
  go_wp2
  go_ret
  exact ⟨rfl, rfl⟩

set_option maxHeartbeats 400000 in
theorem law_seen_false (v x l a : Int) (w : World) (hv : -4194304 ≤ v ∧ v ≤ 4194304) (hx : -4194304 ≤ x ∧ x ≤ 4194304) (hl : -4194304 ≤ l ∧ l ≤ 4194304) (ha : -4194304 ≤ a ∧ a ≤ 4194304) (h : x < a ∨ a + v < x + l) :
    Calls Try.prog 41 #[.int .i64 v, .int .i64 x, .int .i64 l, .int .i64 a] w fun e w' => e = .returned (.bool false) ∧ w = w' := by
  by_cases h1 : a ≤ x
  · have h2 : a + v < x + l := by omega
    clear h
    go_enter Try.func41, Try.ntmps41
    go_wp2
    go_ret
    exact ⟨ret_bool (by simp; omega), rfl⟩
  · have h3 : x < a := by omega
    clear h h1
    go_enter Try.func41, Try.ntmps41
    go_wp2
    go_ret
    exact ⟨rfl, rfl⟩

/-- the walk of 'along' in one linear case -/
theorem along_cases (V X L A M b : Int) (hb0 : 0 ≤ b) (hb1 : b ≤ M) (hs : L ≤ V → 0 ≤ X → X + L ≤ M + V → b ≤ X ∧ X + L ≤ b + V) (ha : L ≤ V → 0 ≤ X → X + L ≤ M + V → A ≤ X → X + L ≤ A + V → 0 ≤ A → A ≤ M → b = A) :
    V < L ∨ X < 0 ∨ M + V < X + L ∨ (L ≤ V ∧ 0 ≤ X ∧ X + L ≤ M + V ∧ b ≤ X ∧ X + L ≤ b + V ∧ ((X < A ∨ A + V < X + L) ∨ (A ≤ X ∧ X + L ≤ A + V ∧ (A < 0 ∨ M < A ∨ (0 ≤ A ∧ A ≤ M ∧ b = A))))) := by
  by_cases h1 : V < L; · exact .inl h1
  by_cases h2 : X < 0; · exact .inr (.inl h2)
  by_cases h3 : M + V < X + L; · exact .inr (.inr (.inl h3))
  have k := hs (by omega) (by omega) (by omega)
  refine .inr (.inr (.inr ⟨by omega, by omega, by omega, k.1, k.2, ?_⟩))
  by_cases h4 : X < A ∨ A + V < X + L; · exact .inl h4
  refine .inr ⟨by omega, by omega, ?_⟩
  by_cases h5 : A < 0; · exact .inl h5
  by_cases h6 : M < A; · exact .inr (.inl h6)
  exact .inr (.inr ⟨by omega, by omega, ha (by omega) (by omega) (by omega) (by omega) (by omega) (by omega) (by omega)⟩)

set_option maxHeartbeats 4000000 in
theorem law_along_true (v x l a m b : Int) (w : World) (hb0 : 0 ≤ b) (hb1 : b ≤ max 0 (ptF m)) (hs : szF l ≤ szF v → 0 ≤ ptF x → ptF x + szF l ≤ max 0 (ptF m) + szF v → b ≤ ptF x ∧ ptF x + szF l ≤ b + szF v)
    (ha : szF l ≤ szF v → 0 ≤ ptF x → ptF x + szF l ≤ max 0 (ptF m) + szF v → ptF a ≤ ptF x → ptF x + szF l ≤ ptF a + szF v → 0 ≤ ptF a → ptF a ≤ max 0 (ptF m) → b = ptF a) :
    Calls Try.prog 18 #[.int .i64 v, .int .i64 x, .int .i64 l, .int .i64 a, .int .i64 m, .int .i64 b] w fun e w' => e = .returned (.bool true) ∧ w = w' := by
  have h1 := ptF_bd x; have h2 := ptF_bd a; have h3 := szF_bd v; have h4 := szF_bd l; have h5 := ptF_bd m
  have hc := along_cases _ _ _ _ _ _ hb0 hb1 hs ha
  clear hs ha
  rcases hc with hc | hc | hc | ⟨c1, c2, c3, c4, c5, (hc | ⟨c6, c7, hc | hc | ⟨c8, c9, rfl⟩⟩)⟩
  all_goals
    go_enter Try.func18, Try.ntmps18
    go_wp2_with (first | (go_at_call 19; refine (law_point_any _ _).mono ?_; rintro e w' ⟨rfl, rfl⟩) | (go_at_call 40; refine (law_size_any _ _).mono ?_; rintro e w' ⟨rfl, rfl⟩) | (go_at_call 41; refine (law_seen_true _ _ _ _ _ ?_ ?_ ?_ ?_ ?_ ?_).mono ?_; omega; omega; omega; omega; omega; omega; rintro e w' ⟨rfl, rfl⟩) | (go_at_call 41; refine (law_seen_false _ _ _ _ _ ?_ ?_ ?_ ?_ ?_).mono ?_; omega; omega; omega; omega; omega; rintro e w' ⟨rfl, rfl⟩))
    all_goals go_ret
    all_goals exact ⟨rfl, rfl⟩

theorem thumb_482a : thumbAt (viewF 4) (ptF 8) (ptF 2) = 1 := by decide
theorem thumb_482b : thumbLen (viewF 4) (ptF 8) = 2 := by decide

set_option maxHeartbeats 1000000 in
theorem law_works (w : World) : Calls Try.prog 17 #[] w fun e w' => e = .returned (.bool true) ∧ Below w.heap.size w w' := by
  go_enter Try.func17, Try.ntmps17
  go_wp2_with fail
  refine (scroll_Thumb_any _ _ _ _).mono ?_
  rw [thumb_482a, thumb_482b]
  rintro e w' ⟨rfl, rfl⟩
  go_wp2_with fail
  refine (scroll_Reveal_any _ _ _ _ _ _ _ _ _ _ _ _ _).mono ?_
  rw [show clampF (alongF 10 0 1 0) 0 = 0 from by decide, show clampF (alongF 4 7 1 0) 5 = 4 from by decide]
  rintro e w1 ⟨rfl, hb1⟩
  go_wp2_with fail
  refine (scroll_Clamp_any _ _ _ _ _).mono ?_
  rw [show clampF 3 2 = 2 from by decide, show clampF 3 9 = 3 from by decide]
  rintro e w2 ⟨rfl, hb2⟩
  obtain ⟨hc, hf⟩ := bcell hb2
  go_wp2
  go_ret
  exact ⟨rfl, below_via hb2 (below_al hb1 _)⟩
end Go.Proofs.Ytegdokchkblpiaa
