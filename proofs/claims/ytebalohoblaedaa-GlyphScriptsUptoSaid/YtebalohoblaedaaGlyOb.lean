/- Layer 13: Line and Box with any arguments; laid. -/
import Derived.Test.YtebalohoblaedaaGlyOa
import Derived.Test.YtebalohoblaedaaGlyX
import Derived.Test.YtebalohoblaedaaGlyR
import Derived.Test.YtebalohoblaedaaOpenN
import Derived.Test.YtebalohoblaedaaAppK
import Derived.Test.YtebalohoblaedaaLntO
import Derived.Deep.OwnRows
import Derived.OneCell
namespace Go.Proofs.Ytebalohoblaedaa
open Go.RowKit
set_option linter.unusedVariables false
set_option linter.unusedSimpArgs false

/-- the lines that a call of Box lays -/
def lnsB (a b c d k : Int) : List Ln := if 0 ≤ k ∧ k ≤ 4 ∧ okB a b c d = true then [⟨rlo a, rlo b, rhi a c - 1, rlo b, k⟩, ⟨rlo a, rhi b d - 1, rhi a c - 1, rhi b d - 1, k⟩, ⟨rlo a, rlo b, rlo a, rhi b d - 1, k⟩, ⟨rhi a c - 1, rlo b, rhi a c - 1, rhi b d - 1, k⟩] else []
/-- what a call on a plan does: only its cells change -/
def LaidAt (w w' : World) (g gc W H : Nat) (L : List A4) (ts : List Ln) : Prop := w.grownBy w' (some gc) ∧ PlanAt w' g gc W H (layL W H ts L)
theorem line_gen (g gc W H : Nat) (L : List A4) (x0 y0 x1 y1 k : Int) (w : World) (hp : PlanAt w g gc W H L) : Calls Try.prog 29 #[.pointer (some ⟨g, 0, none⟩), .int .i64 x0, .int .i64 y0, .int .i64 x1, .int .i64 y1, .int .i8 k] w fun e w' => (∃ v, e = .returned (.int .i64 v)) ∧ LaidAt w w' g gc W H L (lnsL x0 y0 x1 y1 k) := by
  cases h : lineOk x0 y0 x1 y1 k
  · refine (line_arg ⟨g, 0, none⟩ x0 y0 x1 y1 k h w).mono ?_
    rintro e w' ⟨rfl, rfl⟩
    have e : lnsL x0 y0 x1 y1 k = [] := by
      unfold lnsL lineOk at *
      rw [if_neg (by simpa using h)]
    exact ⟨⟨_, rfl⟩, only_refl _ _, by rw [e]; exact hp⟩
  · refine (line_ok g gc W H L x0 y0 x1 y1 k h w hp).mono ?_
    rintro e w' ⟨rfl, h1, h2⟩
    have e : lnsL x0 y0 x1 y1 k = [⟨x0, y0, x1, y1, k⟩] := by
      unfold lnsL lineOk at *
      rw [if_pos (by simpa using h)]
    exact ⟨⟨_, rfl⟩, h1, by rw [e]; exact h2⟩
theorem box_gen (g gc W H : Nat) (L : List A4) (a b c d k : Int) (w : World) (ha : i64B a) (hb : i64B b) (hc : i64B c) (hd : i64B d) (hp : PlanAt w g gc W H L) : Calls Try.prog 24 #[.pointer (some ⟨g, 0, none⟩), .agg #[.int .i64 a, .int .i64 b, .int .i64 c, .int .i64 d], .int .i8 k] w fun e w' => (∃ v, e = .returned (.int .i64 v)) ∧ LaidAt w w' g gc W H L (lnsB a b c d k) := by
  by_cases hk : 0 ≤ k ∧ k ≤ 4
  · cases h : okB a b c d
    · refine (box_no ⟨g, 0, none⟩ a b c d k hk ha hb hc hd h w).mono ?_
      rintro e w' ⟨rfl, hb⟩
      have e : lnsB a b c d k = [] := by unfold lnsB; rw [if_neg (by rw [h]; simp)]
      exact ⟨⟨_, rfl⟩, only_of_below hb _, by rw [e]; exact hp.later hb (heap_lt hp.pl) (heap_lt hp.ce)⟩
    · refine (box_ok g gc W H L a b c d k hk ha hb hc hd h w hp).mono ?_
      rintro e w' ⟨rfl, h1, h2⟩
      have e : lnsB a b c d k = [⟨rlo a, rlo b, rhi a c - 1, rlo b, k⟩, ⟨rlo a, rhi b d - 1, rhi a c - 1, rhi b d - 1, k⟩, ⟨rlo a, rlo b, rlo a, rhi b d - 1, k⟩, ⟨rhi a c - 1, rlo b, rhi a c - 1, rhi b d - 1, k⟩] := by
        unfold lnsB; rw [if_pos ⟨hk.1, hk.2, h⟩]
      exact ⟨⟨_, rfl⟩, h1, by rw [e]; exact h2⟩
  · refine (box_arg ⟨g, 0, none⟩ a b c d k (by omega) w).mono ?_
    rintro e w' ⟨rfl, hb⟩
    have e : lnsB a b c d k = [] := by unfold lnsB; rw [if_neg (fun h => hk ⟨h.1, h.2.1⟩)]
    exact ⟨⟨_, rfl⟩, only_of_below hb _, by rw [e]; exact hp.later hb (heap_lt hp.pl) (heap_lt hp.ce)⟩
theorem new_yes2 (W H : Nat) (h1 : W ≤ 4096) (h2 : H ≤ 4096) (h3 : W * H ≤ 1048576) (w : World) : True := trivial
/-- one step on the plan of GlyphOrder's own -/
def ln1 (s : StV) : List Ln := if s.o = 2 then lnsB s.a s.b s.c s.d s.k else lnsL s.x0 s.y0 s.x1 s.y1 s.k
/-- the middle, as Go counts it -/
def midS (s : StV) : Int := s.x0.tdiv 2 + s.x1.tdiv 2
/-- one step as laid lays it -/
def ln2 (how : Int) (s : StV) : List Ln := if s.o = 2 then lnsB s.a s.b s.c s.d s.k else if how.tmod 2 ≠ 0 ∧ s.y0 = s.y1 ∧ s.x0 ≤ midS s ∧ midS s ≤ s.x1 then splitL s.x0 s.y0 s.x1 (midS s) s.k else lnsL s.x1 s.y1 s.x0 s.y0 s.k
theorem ln12 (how : Int) (x y : Nat) (s : StV) : (∀ a ∈ (ln1 s).flatMap (con x y), LeA a (fj zA ((ln2 how s).flatMap (con x y)))) ∧ (∀ a ∈ (ln2 how s).flatMap (con x y), LeA a (fj zA ((ln1 s).flatMap (con x y)))) := by
  unfold ln1 ln2
  by_cases h : s.o = 2
  · rw [if_pos h, if_pos h]
    exact ⟨fun a ha => fj_mem _ _ _ ha, fun a ha => fj_mem _ _ _ ha⟩
  · rw [if_neg h, if_neg h]
    by_cases h2 : how.tmod 2 ≠ 0 ∧ s.y0 = s.y1 ∧ s.x0 ≤ midS s ∧ midS s ≤ s.x1
    · rw [if_pos h2]
      obtain ⟨_, hy, h3, h4⟩ := h2
      rw [← hy]
      exact ⟨split_up x y _ _ _ _ _ h3 h4, split_down x y _ _ _ _ _ h3 h4⟩
    · rw [if_neg h2, con_turn]
      exact ⟨fun a ha => fj_mem _ _ _ ha, fun a ha => fj_mem _ _ _ ha⟩
end Go.Proofs.Ytebalohoblaedaa
