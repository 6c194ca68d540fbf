/- Layer 13: the walk of GlyphBack. -/
import Derived.Test.YtebalohoblaedaaGlyBk
import Derived.Test.YtebalohoblaedaaGlyP
import Derived.Test.YtebalohoblaedaaGlyQ
import Derived.Deep.CutRange
import Derived.Test.YtebalohoblaedaaAnyH
import Derived.OneCell
namespace Go.Proofs.Ytebalohoblaedaa
open Go.RowKit
set_option linter.unusedVariables false
set_option linter.unusedSimpArgs false

theorem cell_alloc {w : World} {o : Obj} {b i : Nat} {v : Value} (h : b < w.heap.size) (hc : w.cell? ⟨b, i, none⟩ = some v) : (w.alloc o).cell? ⟨b, i, none⟩ = some v := by
  rw [(bcell (below_al (Below.refl w.heap.size w) o)).1 b i h]; exact hc
theorem cell_drew {w : World} {b i : Nat} {v : Value} (hc : w.cell? ⟨b, i, none⟩ = some v) : w.drew.cell? ⟨b, i, none⟩ = some v := hc
theorem cell_below {B b i : Nat} {W w1 : World} {v : Value} (hb : Below B W w1) (h : b < B) (hc : W.cell? ⟨b, i, none⟩ = some v) : w1.cell? ⟨b, i, none⟩ = some v := by
  rw [(bcell hb).1 b i h]; exact hc
theorem mg1 (x0 x1 x2 x3 r0 r1 r2 r3 : Int) (b : Nat) (w : World) (hR : mergeA [⟨x0, x1, x2, x3⟩] = ⟨r0, r1, r2, r3⟩) (hb : b < w.heap.size) (hc : w.cell? ⟨b, 0, none⟩ = some (.int .i8 x0) ∧ w.cell? ⟨b, 1, none⟩ = some (.int .i8 x1) ∧ w.cell? ⟨b, 2, none⟩ = some (.int .i8 x2) ∧ w.cell? ⟨b, 3, none⟩ = some (.int .i8 x3)) : Calls Try.prog 20 #[.slice (some ⟨b, 0, none⟩) 1 1] w fun e w' => e = .returned (.agg #[.int .i8 r0, .int .i8 r1, .int .i8 r2, .int .i8 r3]) ∧ Below w.heap.size w w' := by
  have hs : SlA w (some ⟨b, 0, none⟩) [⟨x0, x1, x2, x3⟩] := fun _ => ⟨b, 0, rfl, hb, by
    obtain ⟨h0, h1, h2, h3⟩ := hc
    intro i hi
    rcases i with _ | i
    · exact ⟨h0, h1, h2, h3⟩
    · (simp at hi <;> omega)⟩
  have h := merge_any (some ⟨b, 0, none⟩) 1 1 [⟨x0, x1, x2, x3⟩] w rfl (by decide) hs
  rw [hR] at h
  exact h
theorem mg2 (x0 x1 x2 x3 y0 y1 y2 y3 r0 r1 r2 r3 : Int) (b : Nat) (w : World) (hR : mergeA [⟨x0, x1, x2, x3⟩, ⟨y0, y1, y2, y3⟩] = ⟨r0, r1, r2, r3⟩) (hb : b < w.heap.size) (hc : w.cell? ⟨b, 0, none⟩ = some (.int .i8 x0) ∧ w.cell? ⟨b, 1, none⟩ = some (.int .i8 x1) ∧ w.cell? ⟨b, 2, none⟩ = some (.int .i8 x2) ∧ w.cell? ⟨b, 3, none⟩ = some (.int .i8 x3) ∧ w.cell? ⟨b, 4, none⟩ = some (.int .i8 y0) ∧ w.cell? ⟨b, 5, none⟩ = some (.int .i8 y1) ∧ w.cell? ⟨b, 6, none⟩ = some (.int .i8 y2) ∧ w.cell? ⟨b, 7, none⟩ = some (.int .i8 y3)) : Calls Try.prog 20 #[.slice (some ⟨b, 0, none⟩) 2 2] w fun e w' => e = .returned (.agg #[.int .i8 r0, .int .i8 r1, .int .i8 r2, .int .i8 r3]) ∧ Below w.heap.size w w' := by
  have hs : SlA w (some ⟨b, 0, none⟩) [⟨x0, x1, x2, x3⟩, ⟨y0, y1, y2, y3⟩] := fun _ => ⟨b, 0, rfl, hb, by
    obtain ⟨h0, h1, h2, h3, h4, h5, h6, h7⟩ := hc
    intro i hi
    rcases i with _ | _ | i
    · exact ⟨h0, h1, h2, h3⟩
    · exact ⟨h4, h5, h6, h7⟩
    · (simp at hi <;> omega)⟩
  have h := merge_any (some ⟨b, 0, none⟩) 2 2 [⟨x0, x1, x2, x3⟩, ⟨y0, y1, y2, y3⟩] w rfl (by decide) hs
  rw [hR] at h
  exact h
theorem mg3 (x0 x1 x2 x3 y0 y1 y2 y3 z0 z1 z2 z3 r0 r1 r2 r3 : Int) (b : Nat) (w : World) (hR : mergeA [⟨x0, x1, x2, x3⟩, ⟨y0, y1, y2, y3⟩, ⟨z0, z1, z2, z3⟩] = ⟨r0, r1, r2, r3⟩) (hb : b < w.heap.size) (hc : w.cell? ⟨b, 0, none⟩ = some (.int .i8 x0) ∧ w.cell? ⟨b, 1, none⟩ = some (.int .i8 x1) ∧ w.cell? ⟨b, 2, none⟩ = some (.int .i8 x2) ∧ w.cell? ⟨b, 3, none⟩ = some (.int .i8 x3) ∧ w.cell? ⟨b, 4, none⟩ = some (.int .i8 y0) ∧ w.cell? ⟨b, 5, none⟩ = some (.int .i8 y1) ∧ w.cell? ⟨b, 6, none⟩ = some (.int .i8 y2) ∧ w.cell? ⟨b, 7, none⟩ = some (.int .i8 y3) ∧ w.cell? ⟨b, 8, none⟩ = some (.int .i8 z0) ∧ w.cell? ⟨b, 9, none⟩ = some (.int .i8 z1) ∧ w.cell? ⟨b, 10, none⟩ = some (.int .i8 z2) ∧ w.cell? ⟨b, 11, none⟩ = some (.int .i8 z3)) : Calls Try.prog 20 #[.slice (some ⟨b, 0, none⟩) 3 3] w fun e w' => e = .returned (.agg #[.int .i8 r0, .int .i8 r1, .int .i8 r2, .int .i8 r3]) ∧ Below w.heap.size w w' := by
  have hs : SlA w (some ⟨b, 0, none⟩) [⟨x0, x1, x2, x3⟩, ⟨y0, y1, y2, y3⟩, ⟨z0, z1, z2, z3⟩] := fun _ => ⟨b, 0, rfl, hb, by
    obtain ⟨h0, h1, h2, h3, h4, h5, h6, h7, h8, h9, h10, h11⟩ := hc
    intro i hi
    rcases i with _ | _ | _ | i
    · exact ⟨h0, h1, h2, h3⟩
    · exact ⟨h4, h5, h6, h7⟩
    · exact ⟨h8, h9, h10, h11⟩
    · (simp at hi <;> omega)⟩
  have h := merge_any (some ⟨b, 0, none⟩) 3 3 [⟨x0, x1, x2, x3⟩, ⟨y0, y1, y2, y3⟩, ⟨z0, z1, z2, z3⟩] w rfl (by decide) hs
  rw [hR] at h
  exact h
theorem mg0 (w : World) : Calls Try.prog 20 #[.slice none 0 0] w fun e w' => e = .returned (.agg #[.int .i8 0, .int .i8 0, .int .i8 0, .int .i8 0]) ∧ Below w.heap.size w w' :=
  merge_any none 0 0 [] w rfl (by decide) (fun h => absurd rfl h)

theorem mgB1 (x0 x1 x2 x3 r0 r1 r2 r3 : Int) (b : Nat) (w : World) (hR : mergeA [⟨x0, x1, x2, x3⟩] = ⟨r0, r1, r2, r3⟩) (h : w.heap[b]? = some (.cells #[.int .i8 x0, .int .i8 x1, .int .i8 x2, .int .i8 x3] 25 (0, 0))) : Calls Try.prog 20 #[.slice (some ⟨b, 0, none⟩) 1 1] w fun e w' => e = .returned (.agg #[.int .i8 r0, .int .i8 r1, .int .i8 r2, .int .i8 r3]) ∧ Below w.heap.size w w' := by
  refine mg1 x0 x1 x2 x3 r0 r1 r2 r3 b w hR (lt_of_block h) ?_
  (repeat' apply And.intro) <;> (rw [cell_of_row _ _ _ _ _ _ h]; rfl)
theorem mgB2 (x0 x1 x2 x3 y0 y1 y2 y3 r0 r1 r2 r3 : Int) (b : Nat) (w : World) (hR : mergeA [⟨x0, x1, x2, x3⟩, ⟨y0, y1, y2, y3⟩] = ⟨r0, r1, r2, r3⟩) (h : w.heap[b]? = some (.cells #[.int .i8 x0, .int .i8 x1, .int .i8 x2, .int .i8 x3, .int .i8 y0, .int .i8 y1, .int .i8 y2, .int .i8 y3] 25 (0, 0))) : Calls Try.prog 20 #[.slice (some ⟨b, 0, none⟩) 2 2] w fun e w' => e = .returned (.agg #[.int .i8 r0, .int .i8 r1, .int .i8 r2, .int .i8 r3]) ∧ Below w.heap.size w w' := by
  refine mg2 x0 x1 x2 x3 y0 y1 y2 y3 r0 r1 r2 r3 b w hR (lt_of_block h) ?_
  (repeat' apply And.intro) <;> (rw [cell_of_row _ _ _ _ _ _ h]; rfl)
theorem mgB3 (x0 x1 x2 x3 y0 y1 y2 y3 z0 z1 z2 z3 r0 r1 r2 r3 : Int) (b : Nat) (w : World) (hR : mergeA [⟨x0, x1, x2, x3⟩, ⟨y0, y1, y2, y3⟩, ⟨z0, z1, z2, z3⟩] = ⟨r0, r1, r2, r3⟩) (h : w.heap[b]? = some (.cells #[.int .i8 x0, .int .i8 x1, .int .i8 x2, .int .i8 x3, .int .i8 y0, .int .i8 y1, .int .i8 y2, .int .i8 y3, .int .i8 z0, .int .i8 z1, .int .i8 z2, .int .i8 z3] 25 (0, 0))) : Calls Try.prog 20 #[.slice (some ⟨b, 0, none⟩) 3 3] w fun e w' => e = .returned (.agg #[.int .i8 r0, .int .i8 r1, .int .i8 r2, .int .i8 r3]) ∧ Below w.heap.size w w' := by
  refine mg3 x0 x1 x2 x3 y0 y1 y2 y3 z0 z1 z2 z3 r0 r1 r2 r3 b w hR (lt_of_block h) ?_
  (repeat' apply And.intro) <;> (rw [cell_of_row _ _ _ _ _ _ h]; rfl)
set_option maxRecDepth 100000 in
set_option maxHeartbeats 32000000 in
def GlyphBack_A (r a0 a1 a2 a3 b0 b1 b2 b3 : Int) (w : World) : {P : Prop // RowKit.Hid P → Calls Try.prog 9 #[.int .i32 r, .agg #[.int .i8 a0, .int .i8 a1, .int .i8 a2, .int .i8 a3], .agg #[.int .i8 b0, .int .i8 b1, .int .i8 b2, .int .i8 b3]] w fun e w' => e = .returned (.bool true) ∧ Below w.heap.size w w'} := ⟨_, fun hP => by
  have eqs := eqArms
  go_enter Try.func9, Try.ntmps9
  go_wp2_with fail
  refine (of_any _ _).mono ?_
  have by1 := back_yes r
  have bn1 := back_no r
  generalize hq : ofA r = q at *
  clear hq
  obtain ⟨⟨c0, c1, c2, c3⟩, ok⟩ := q
  rintro e w1 ⟨rfl, hb1⟩
  have B1 : Below w.heap.size w w1 := below_via hb1 (by go_grown)
  have S1 := B1.size
  have F1 : w.heap.size + 1 < w1.heap.size ∧ w1.cell? ⟨w.heap.size, 0, none⟩ = some (.int .i8 a0) ∧ w1.cell? ⟨w.heap.size, 1, none⟩ = some (.int .i8 a1) ∧ w1.cell? ⟨w.heap.size, 2, none⟩ = some (.int .i8 a2) ∧ w1.cell? ⟨w.heap.size, 3, none⟩ = some (.int .i8 a3) ∧ w1.cell? ⟨w.heap.size + 1, 0, none⟩ = some (.int .i8 b0) ∧ w1.cell? ⟨w.heap.size + 1, 1, none⟩ = some (.int .i8 b1) ∧ w1.cell? ⟨w.heap.size + 1, 2, none⟩ = some (.int .i8 b2) ∧ w1.cell? ⟨w.heap.size + 1, 3, none⟩ = some (.int .i8 b3) := by
    obtain ⟨hc, hf⟩ := bcell hb1
    have hz := hb1.size
    (try simp only [World.size_alloc, World.size_drew, World.size_setCell] at hz)
    (repeat' apply And.intro) <;> (first | omega | (rw [hc _ _ (by first | omega | (simp only [World.size_alloc, World.size_drew, World.size_setCell]; omega))]; first | (simp [go_sem]; done) | (simp [*]; done)) | (rw [hf _ _ (by first | omega | (simp only [World.size_alloc, World.size_drew, World.size_setCell]; omega))]; first | (simp [go_sem]; done) | (simp [*]; done)))
  clear hb1
  simp only [] at by1 bn1 ⊢
  have HB1 := Lib.hid by1; have HN1 := Lib.hid bn1
  clear by1 bn1
  go_upto_region 2 with (fail)
  obtain ⟨Cb, hCb⟩ : ∃ b, b = w1.heap.size := ⟨_, rfl⟩
  obtain ⟨w2, hw2⟩ : ∃ x, x = w1.alloc (.cells #[.int .i8 c0, .int .i8 c1, .int .i8 c2, .int .i8 c3] 25) := ⟨_, rfl⟩
  have hbA : Below w1.heap.size w1 w2 := by rw [hw2]; exact below_al (Below.refl _ _) _
  have FA : w.heap.size + 1 < w2.heap.size ∧ w2.cell? ⟨w.heap.size, 0, none⟩ = some (.int .i8 a0) ∧ w2.cell? ⟨w.heap.size, 1, none⟩ = some (.int .i8 a1) ∧ w2.cell? ⟨w.heap.size, 2, none⟩ = some (.int .i8 a2) ∧ w2.cell? ⟨w.heap.size, 3, none⟩ = some (.int .i8 a3) ∧ w2.cell? ⟨w.heap.size + 1, 0, none⟩ = some (.int .i8 b0) ∧ w2.cell? ⟨w.heap.size + 1, 1, none⟩ = some (.int .i8 b1) ∧ w2.cell? ⟨w.heap.size + 1, 2, none⟩ = some (.int .i8 b2) ∧ w2.cell? ⟨w.heap.size + 1, 3, none⟩ = some (.int .i8 b3) := by
    obtain ⟨hc, hf⟩ := bcell hbA
    have hz := hbA.size
    (try simp only [World.size_alloc, World.size_drew, World.size_setCell] at hz)
    (repeat' apply And.intro) <;> (first | omega | (rw [hc _ _ (by first | omega | (simp only [World.size_alloc, World.size_drew, World.size_setCell]; omega))]; first | (simp [go_sem, F1]; done) | (simp [*]; done)) | (rw [hf _ _ (by first | omega | (simp only [World.size_alloc, World.size_drew, World.size_setCell]; omega))]; first | (simp [go_sem, F1]; done) | (simp [*]; done)))
  have F2 : Cb < w2.heap.size ∧ w2.cell? ⟨w.heap.size, 0, none⟩ = some (.int .i8 a0) ∧ w2.cell? ⟨w.heap.size, 1, none⟩ = some (.int .i8 a1) ∧ w2.cell? ⟨w.heap.size, 2, none⟩ = some (.int .i8 a2) ∧ w2.cell? ⟨w.heap.size, 3, none⟩ = some (.int .i8 a3) ∧ w2.cell? ⟨w.heap.size + 1, 0, none⟩ = some (.int .i8 b0) ∧ w2.cell? ⟨w.heap.size + 1, 1, none⟩ = some (.int .i8 b1) ∧ w2.cell? ⟨w.heap.size + 1, 2, none⟩ = some (.int .i8 b2) ∧ w2.cell? ⟨w.heap.size + 1, 3, none⟩ = some (.int .i8 b3) ∧ w2.cell? ⟨Cb, 0, none⟩ = some (.int .i8 c0) ∧ w2.cell? ⟨Cb, 1, none⟩ = some (.int .i8 c1) ∧ w2.cell? ⟨Cb, 2, none⟩ = some (.int .i8 c2) ∧ w2.cell? ⟨Cb, 3, none⟩ = some (.int .i8 c3) := by
    have z : Cb < w2.heap.size := by rw [hw2, hCb]; simp
    obtain ⟨_, q0, q1, q2, q3, q4, q5, q6, q7⟩ := FA
    refine ⟨z, q0, q1, q2, q3, q4, q5, q6, q7, ?_, ?_, ?_, ?_⟩ <;> (rw [hw2, hCb]; simp [go_sem])
  clear FA hbA
  have B2 : Below w.heap.size w w2 := by rw [hw2]; exact below_al B1 _
  rw [← hw2, ← hCb]
  have bC : w.heap.size + 1 < Cb := by omega
  have S2 := B2.size
  clear hw2 hCb F1 B1 S1
  go_cut [41] (fun s wx => s = .bool false ∧ (Cb < wx.heap.size ∧ wx.cell? ⟨w.heap.size, 0, none⟩ = some (.int .i8 a0) ∧ wx.cell? ⟨w.heap.size, 1, none⟩ = some (.int .i8 a1) ∧ wx.cell? ⟨w.heap.size, 2, none⟩ = some (.int .i8 a2) ∧ wx.cell? ⟨w.heap.size, 3, none⟩ = some (.int .i8 a3) ∧ wx.cell? ⟨w.heap.size + 1, 0, none⟩ = some (.int .i8 b0) ∧ wx.cell? ⟨w.heap.size + 1, 1, none⟩ = some (.int .i8 b1) ∧ wx.cell? ⟨w.heap.size + 1, 2, none⟩ = some (.int .i8 b2) ∧ wx.cell? ⟨w.heap.size + 1, 3, none⟩ = some (.int .i8 b3) ∧ wx.cell? ⟨Cb, 0, none⟩ = some (.int .i8 c0) ∧ wx.cell? ⟨Cb, 1, none⟩ = some (.int .i8 c1) ∧ wx.cell? ⟨Cb, 2, none⟩ = some (.int .i8 c2) ∧ wx.cell? ⟨Cb, 3, none⟩ = some (.int .i8 c3)) ∧ Below w.heap.size w wx)
  case first =>
    cases ok
    · have e := HN1.out rfl
      unfold zA at e
      injection e with e0 e1 e2 e3
      subst e0 e1 e2 e3
      clear HN1 HB1
      go_wp2
      all_goals go_meet
      all_goals exact ⟨rfl, F2, B2⟩
    · obtain ⟨y1, y2⟩ := HB1.out rfl
      have e : (c0 == 0 && c1 == 0 && c2 == 0 && c3 == 0) = false := by
        rw [Bool.eq_false_iff]; intro h; apply y2
        simp only [Bool.and_eq_true, beq_iff_eq] at h
        obtain ⟨⟨⟨rfl, rfl⟩, rfl⟩, rfl⟩ := h
        rfl
      have Y1 := Lib.hid y1
      clear HN1 HB1 y1 y2
      go_wp2_with fail
      refine (rune4 _ _ _ _ _).mono ?_
      rw [Y1.out]
      rintro e w3 ⟨rfl, hb3⟩
      have B3 : Below w.heap.size w w3 := below_via hb3 B2
      have F3 : Cb < w3.heap.size ∧ w3.cell? ⟨w.heap.size, 0, none⟩ = some (.int .i8 a0) ∧ w3.cell? ⟨w.heap.size, 1, none⟩ = some (.int .i8 a1) ∧ w3.cell? ⟨w.heap.size, 2, none⟩ = some (.int .i8 a2) ∧ w3.cell? ⟨w.heap.size, 3, none⟩ = some (.int .i8 a3) ∧ w3.cell? ⟨w.heap.size + 1, 0, none⟩ = some (.int .i8 b0) ∧ w3.cell? ⟨w.heap.size + 1, 1, none⟩ = some (.int .i8 b1) ∧ w3.cell? ⟨w.heap.size + 1, 2, none⟩ = some (.int .i8 b2) ∧ w3.cell? ⟨w.heap.size + 1, 3, none⟩ = some (.int .i8 b3) ∧ w3.cell? ⟨Cb, 0, none⟩ = some (.int .i8 c0) ∧ w3.cell? ⟨Cb, 1, none⟩ = some (.int .i8 c1) ∧ w3.cell? ⟨Cb, 2, none⟩ = some (.int .i8 c2) ∧ w3.cell? ⟨Cb, 3, none⟩ = some (.int .i8 c3) := by
        obtain ⟨hc, hf⟩ := bcell hb3
        have hz := hb3.size
        (try simp only [World.size_alloc, World.size_drew, World.size_setCell] at hz)
        (repeat' apply And.intro) <;> (first | omega | (rw [hc _ _ (by first | omega | (simp only [World.size_alloc, World.size_drew, World.size_setCell]; omega))]; first | (simp [go_sem, F2]; done) | (simp [*]; done)) | (rw [hf _ _ (by first | omega | (simp only [World.size_alloc, World.size_drew, World.size_setCell]; omega))]; first | (simp [go_sem, F2]; done) | (simp [*]; done)))
      clear hb3 Y1
      go_wp2
      all_goals go_meet
      all_goals exact ⟨rfl, F3, B3⟩
  case rest =>
    obtain ⟨rfl, FC, BC⟩ := hcut
    clear F2 B2 S2 HN1 HB1
    have SC := BC.size
    go_wp2_with fail
    refine (rune4 _ _ _ _ _).mono ?_
    have rb := rune_back ⟨a0, a1, a2, a3⟩
    generalize runeA ⟨a0, a1, a2, a3⟩ = X at *
    rintro e w4 ⟨rfl, hb4⟩
    have B4 : Below w.heap.size w w4 := below_via hb4 BC
    have S4 := B4.size
    have F4 : Cb < w4.heap.size ∧ w4.cell? ⟨w.heap.size, 0, none⟩ = some (.int .i8 a0) ∧ w4.cell? ⟨w.heap.size, 1, none⟩ = some (.int .i8 a1) ∧ w4.cell? ⟨w.heap.size, 2, none⟩ = some (.int .i8 a2) ∧ w4.cell? ⟨w.heap.size, 3, none⟩ = some (.int .i8 a3) ∧ w4.cell? ⟨w.heap.size + 1, 0, none⟩ = some (.int .i8 b0) ∧ w4.cell? ⟨w.heap.size + 1, 1, none⟩ = some (.int .i8 b1) ∧ w4.cell? ⟨w.heap.size + 1, 2, none⟩ = some (.int .i8 b2) ∧ w4.cell? ⟨w.heap.size + 1, 3, none⟩ = some (.int .i8 b3) ∧ w4.cell? ⟨Cb, 0, none⟩ = some (.int .i8 c0) ∧ w4.cell? ⟨Cb, 1, none⟩ = some (.int .i8 c1) ∧ w4.cell? ⟨Cb, 2, none⟩ = some (.int .i8 c2) ∧ w4.cell? ⟨Cb, 3, none⟩ = some (.int .i8 c3) := by
      obtain ⟨hc, hf⟩ := bcell hb4
      have hz := hb4.size
      (try simp only [World.size_alloc, World.size_drew, World.size_setCell] at hz)
      (repeat' apply And.intro) <;> (first | omega | (rw [hc _ _ (by first | omega | (simp only [World.size_alloc, World.size_drew, World.size_setCell]; omega))]; first | (simp [go_sem, FC]; done) | (simp [*]; done)) | (rw [hf _ _ (by first | omega | (simp only [World.size_alloc, World.size_drew, World.size_setCell]; omega))]; first | (simp [go_sem, FC]; done) | (simp [*]; done)))
    clear hb4 FC BC SC
    have HRB := Lib.hid rb
    clear rb
    go_wp2_with fail
    refine (of_any _ _).mono ?_
    have by1 := back_yes X
    have rb := HRB.out
    clear HRB
    generalize hq : ofA X = q at *
    clear hq
    obtain ⟨⟨d0, d1, d2, d3⟩, ok⟩ := q
    rintro e w5 ⟨rfl, hb5⟩
    have B5 : Below w.heap.size w w5 := below_via hb5 (by go_grown)
    have S5 := B5.size
    have F5 : Cb < w5.heap.size ∧ w5.cell? ⟨w.heap.size, 0, none⟩ = some (.int .i8 a0) ∧ w5.cell? ⟨w.heap.size, 1, none⟩ = some (.int .i8 a1) ∧ w5.cell? ⟨w.heap.size, 2, none⟩ = some (.int .i8 a2) ∧ w5.cell? ⟨w.heap.size, 3, none⟩ = some (.int .i8 a3) ∧ w5.cell? ⟨w.heap.size + 1, 0, none⟩ = some (.int .i8 b0) ∧ w5.cell? ⟨w.heap.size + 1, 1, none⟩ = some (.int .i8 b1) ∧ w5.cell? ⟨w.heap.size + 1, 2, none⟩ = some (.int .i8 b2) ∧ w5.cell? ⟨w.heap.size + 1, 3, none⟩ = some (.int .i8 b3) ∧ w5.cell? ⟨Cb, 0, none⟩ = some (.int .i8 c0) ∧ w5.cell? ⟨Cb, 1, none⟩ = some (.int .i8 c1) ∧ w5.cell? ⟨Cb, 2, none⟩ = some (.int .i8 c2) ∧ w5.cell? ⟨Cb, 3, none⟩ = some (.int .i8 c3) := by
      obtain ⟨hc, hf⟩ := bcell hb5
      have hz := hb5.size
      (try simp only [World.size_alloc, World.size_drew, World.size_setCell] at hz)
      (repeat' apply And.intro) <;> (first | omega | (rw [hc _ _ (by first | omega | (simp only [World.size_alloc, World.size_drew, World.size_setCell]; omega))]; first | (simp [go_sem, F4]; done) | (simp [*]; done)) | (rw [hf _ _ (by first | omega | (simp only [World.size_alloc, World.size_drew, World.size_setCell]; omega))]; first | (simp [go_sem, F4]; done) | (simp [*]; done)))
    clear hb5 F4
    simp only [] at by1 rb ⊢
    have HB1 := Lib.hid by1; have HRB := Lib.hid rb
    clear by1 rb
    go_upto_region 6 with (fail)
    obtain ⟨Db, hDb⟩ : ∃ b, b = w5.heap.size := ⟨_, rfl⟩
    obtain ⟨w6, hw6⟩ : ∃ x, x = w5.alloc (.cells #[.int .i8 d0, .int .i8 d1, .int .i8 d2, .int .i8 d3] 25) := ⟨_, rfl⟩
    have hbA : Below w5.heap.size w5 w6 := by rw [hw6]; exact below_al (Below.refl _ _) _
    have F6 : Cb < w6.heap.size ∧ w6.cell? ⟨w.heap.size, 0, none⟩ = some (.int .i8 a0) ∧ w6.cell? ⟨w.heap.size, 1, none⟩ = some (.int .i8 a1) ∧ w6.cell? ⟨w.heap.size, 2, none⟩ = some (.int .i8 a2) ∧ w6.cell? ⟨w.heap.size, 3, none⟩ = some (.int .i8 a3) ∧ w6.cell? ⟨w.heap.size + 1, 0, none⟩ = some (.int .i8 b0) ∧ w6.cell? ⟨w.heap.size + 1, 1, none⟩ = some (.int .i8 b1) ∧ w6.cell? ⟨w.heap.size + 1, 2, none⟩ = some (.int .i8 b2) ∧ w6.cell? ⟨w.heap.size + 1, 3, none⟩ = some (.int .i8 b3) ∧ w6.cell? ⟨Cb, 0, none⟩ = some (.int .i8 c0) ∧ w6.cell? ⟨Cb, 1, none⟩ = some (.int .i8 c1) ∧ w6.cell? ⟨Cb, 2, none⟩ = some (.int .i8 c2) ∧ w6.cell? ⟨Cb, 3, none⟩ = some (.int .i8 c3) := by
      obtain ⟨hc, hf⟩ := bcell hbA
      have hz := hbA.size
      (try simp only [World.size_alloc, World.size_drew, World.size_setCell] at hz)
      (repeat' apply And.intro) <;> (first | omega | (rw [hc _ _ (by first | omega | (simp only [World.size_alloc, World.size_drew, World.size_setCell]; omega))]; first | (simp [go_sem, F5]; done) | (simp [*]; done)) | (rw [hf _ _ (by first | omega | (simp only [World.size_alloc, World.size_drew, World.size_setCell]; omega))]; first | (simp [go_sem, F5]; done) | (simp [*]; done)))
    have FD : Db < w6.heap.size ∧ w6.cell? ⟨Db, 0, none⟩ = some (.int .i8 d0) ∧ w6.cell? ⟨Db, 1, none⟩ = some (.int .i8 d1) ∧ w6.cell? ⟨Db, 2, none⟩ = some (.int .i8 d2) ∧ w6.cell? ⟨Db, 3, none⟩ = some (.int .i8 d3) := by
      have z : Db < w6.heap.size := by rw [hw6, hDb]; simp
      refine ⟨z, ?_, ?_, ?_, ?_⟩ <;> (rw [hw6, hDb]; simp [go_sem])
    have B6 : Below w.heap.size w w6 := by rw [hw6]; exact below_al B5 _
    rw [← hw6, ← hDb]
    have S6 := B6.size
    clear hw6 hDb F5 B5 S5 hbA B4 S4
    go_cut [63] (fun s wx => s = .bool false ∧ (Cb < wx.heap.size ∧ wx.cell? ⟨w.heap.size, 0, none⟩ = some (.int .i8 a0) ∧ wx.cell? ⟨w.heap.size, 1, none⟩ = some (.int .i8 a1) ∧ wx.cell? ⟨w.heap.size, 2, none⟩ = some (.int .i8 a2) ∧ wx.cell? ⟨w.heap.size, 3, none⟩ = some (.int .i8 a3) ∧ wx.cell? ⟨w.heap.size + 1, 0, none⟩ = some (.int .i8 b0) ∧ wx.cell? ⟨w.heap.size + 1, 1, none⟩ = some (.int .i8 b1) ∧ wx.cell? ⟨w.heap.size + 1, 2, none⟩ = some (.int .i8 b2) ∧ wx.cell? ⟨w.heap.size + 1, 3, none⟩ = some (.int .i8 b3) ∧ wx.cell? ⟨Cb, 0, none⟩ = some (.int .i8 c0) ∧ wx.cell? ⟨Cb, 1, none⟩ = some (.int .i8 c1) ∧ wx.cell? ⟨Cb, 2, none⟩ = some (.int .i8 c2) ∧ wx.cell? ⟨Cb, 3, none⟩ = some (.int .i8 c3)) ∧ Below w.heap.size w wx)
    case first =>
      cases ok
      · have e := HRB.out rfl
        subst e
        clear HRB HB1
        go_wp2
        all_goals go_meet
        all_goals exact ⟨rfl, F6, B6⟩
      · obtain ⟨y1, _⟩ := HB1.out rfl
        have Y1 := Lib.hid y1
        clear HRB HB1 y1
        go_wp2_with fail
        refine (rune4 _ _ _ _ _).mono ?_
        rw [Y1.out]
        rintro e w7 ⟨rfl, hb7⟩
        have B7 : Below w.heap.size w w7 := below_via hb7 B6
        have F7 : Cb < w7.heap.size ∧ w7.cell? ⟨w.heap.size, 0, none⟩ = some (.int .i8 a0) ∧ w7.cell? ⟨w.heap.size, 1, none⟩ = some (.int .i8 a1) ∧ w7.cell? ⟨w.heap.size, 2, none⟩ = some (.int .i8 a2) ∧ w7.cell? ⟨w.heap.size, 3, none⟩ = some (.int .i8 a3) ∧ w7.cell? ⟨w.heap.size + 1, 0, none⟩ = some (.int .i8 b0) ∧ w7.cell? ⟨w.heap.size + 1, 1, none⟩ = some (.int .i8 b1) ∧ w7.cell? ⟨w.heap.size + 1, 2, none⟩ = some (.int .i8 b2) ∧ w7.cell? ⟨w.heap.size + 1, 3, none⟩ = some (.int .i8 b3) ∧ w7.cell? ⟨Cb, 0, none⟩ = some (.int .i8 c0) ∧ w7.cell? ⟨Cb, 1, none⟩ = some (.int .i8 c1) ∧ w7.cell? ⟨Cb, 2, none⟩ = some (.int .i8 c2) ∧ w7.cell? ⟨Cb, 3, none⟩ = some (.int .i8 c3) := by
          obtain ⟨hc, hf⟩ := bcell hb7
          have hz := hb7.size
          (try simp only [World.size_alloc, World.size_drew, World.size_setCell] at hz)
          (repeat' apply And.intro) <;> (first | omega | (rw [hc _ _ (by first | omega | (simp only [World.size_alloc, World.size_drew, World.size_setCell]; omega))]; first | (simp [go_sem, F6]; done) | (simp [*]; done)) | (rw [hf _ _ (by first | omega | (simp only [World.size_alloc, World.size_drew, World.size_setCell]; omega))]; first | (simp [go_sem, F6]; done) | (simp [*]; done)))
        clear hb7 Y1
        go_wp2
        all_goals go_meet
        all_goals exact ⟨rfl, F7, B7⟩
    case rest =>
      obtain ⟨rfl, FR, BR⟩ := hcut
      clear F6 B6 S6 HRB HB1 FD
      have SR := BR.size
      go_upto_region 8 with (fail)
      go_cut [12, 13] (fun p q wx => ∃ P Q : Nat, p = .pointer (some ⟨P, 0, none⟩) ∧ q = .pointer (some ⟨Q, 0, none⟩) ∧ (w.heap.size < wx.heap.size ∧ w.heap.size + 1 < wx.heap.size ∧ Cb < wx.heap.size ∧ P < wx.heap.size ∧ Q < wx.heap.size ∧ wx.cell? ⟨w.heap.size, 0, none⟩ = some (.int .i8 a0) ∧ wx.cell? ⟨w.heap.size, 1, none⟩ = some (.int .i8 a1) ∧ wx.cell? ⟨w.heap.size, 2, none⟩ = some (.int .i8 a2) ∧ wx.cell? ⟨w.heap.size, 3, none⟩ = some (.int .i8 a3) ∧ wx.cell? ⟨w.heap.size + 1, 0, none⟩ = some (.int .i8 b0) ∧ wx.cell? ⟨w.heap.size + 1, 1, none⟩ = some (.int .i8 b1) ∧ wx.cell? ⟨w.heap.size + 1, 2, none⟩ = some (.int .i8 b2) ∧ wx.cell? ⟨w.heap.size + 1, 3, none⟩ = some (.int .i8 b3) ∧ wx.cell? ⟨Cb, 0, none⟩ = some (.int .i8 c0) ∧ wx.cell? ⟨Cb, 1, none⟩ = some (.int .i8 c1) ∧ wx.cell? ⟨Cb, 2, none⟩ = some (.int .i8 c2) ∧ wx.cell? ⟨Cb, 3, none⟩ = some (.int .i8 c3) ∧ wx.cell? ⟨P, 0, none⟩ = some (.int .i8 a0) ∧ wx.cell? ⟨P, 1, none⟩ = some (.int .i8 a1) ∧ wx.cell? ⟨P, 2, none⟩ = some (.int .i8 a2) ∧ wx.cell? ⟨P, 3, none⟩ = some (.int .i8 a3) ∧ wx.cell? ⟨Q, 0, none⟩ = some (.int .i8 b0) ∧ wx.cell? ⟨Q, 1, none⟩ = some (.int .i8 b1) ∧ wx.cell? ⟨Q, 2, none⟩ = some (.int .i8 b2) ∧ wx.cell? ⟨Q, 3, none⟩ = some (.int .i8 b3)) ∧ Below w.heap.size w wx)
      case first =>
        have n0 : w.heap.size < wc.heap.size := by omega
        have n1 : w.heap.size + 1 < wc.heap.size := by omega
        have n2 : w.heap.size < wc.heap.size + 1 := by omega
        have n3 : w.heap.size ≠ wc.heap.size := by omega
        have n4 : w.heap.size + 1 ≠ wc.heap.size := by omega
        have n5 : w.heap.size ≠ wc.heap.size + 1 := by omega
        have n6 : Cb < wc.heap.size + 1 := by omega
        have n7 : Cb ≠ wc.heap.size := by omega
        have n8 : Cb ≠ wc.heap.size + 1 := by omega
        go_region
        all_goals go_wp2
        all_goals go_meet
        all_goals refine ⟨_, _, rfl, rfl, ?_, by go_grown⟩
        all_goals ((repeat' apply And.intro) <;> first | (simp; omega) | (simp [go_sem]; done) | (refine cell_drew ?_; refine cell_alloc (by simp; omega) ?_; refine cell_alloc (by omega) ?_; simp [FR]))
      case rest =>
        obtain ⟨P, Q, rfl, rfl, FP, BP⟩ := hcut
        clear FR BR SR
        have SP := BP.size
        go_wp2_with fail
        have hR : ∃ R, R = mergeA [⟨a0, a1, a2, a3⟩, ⟨b0, b1, b2, b3⟩] := ⟨_, rfl⟩
        obtain ⟨⟨m0, m1, m2, m3⟩, hR⟩ := hR
        refine (mg2 a0 a1 a2 a3 b0 b1 b2 b3 m0 m1 m2 m3 _ _ hR.symm (by simp) (by simp [go_sem])).mono ?_
        have h1 := merge_swap ⟨a0, a1, a2, a3⟩ ⟨b0, b1, b2, b3⟩
        have h2 := merge_again ⟨a0, a1, a2, a3⟩ ⟨b0, b1, b2, b3⟩
        have h3 := merge_first ⟨a0, a1, a2, a3⟩ ⟨b0, b1, b2, b3⟩
        have h4 := merge_assoc ⟨a0, a1, a2, a3⟩ ⟨b0, b1, b2, b3⟩ ⟨c0, c1, c2, c3⟩
        rw [← hR] at h1 h2 h3 h4
        obtain ⟨⟨s0, s1, s2, s3⟩, hS⟩ : ∃ R, R = mergeA [⟨a0, a1, a2, a3⟩] := ⟨_, rfl⟩
        obtain ⟨⟨y0, y1, y2, y3⟩, hY⟩ : ∃ R, R = mergeA [⟨b0, b1, b2, b3⟩, ⟨c0, c1, c2, c3⟩] := ⟨_, rfl⟩
        rw [← hS] at h3
        rw [← hY] at h4
        obtain ⟨⟨z0, z1, z2, z3⟩, hZ⟩ : ∃ R, R = mergeA [⟨a0, a1, a2, a3⟩, ⟨y0, y1, y2, y3⟩] := ⟨_, rfl⟩
        rw [← hZ] at h4
        have H1 := Lib.hid h1; have H2 := Lib.hid h2; have H3 := Lib.hid h3; have H4 := Lib.hid h4
        have HS := Lib.hid hS.symm; have HY := Lib.hid hY.symm; have HZ := Lib.hid hZ.symm
        clear h1 h2 h3 h4 hS hY hZ hR
        rintro e w8 ⟨rfl, hb8⟩
        have B8 : Below w.heap.size w w8 := below_via hb8 (by go_grown)
        have S8 := B8.size
        have F8 : w.heap.size < w8.heap.size ∧ w.heap.size + 1 < w8.heap.size ∧ Cb < w8.heap.size ∧ P < w8.heap.size ∧ Q < w8.heap.size ∧ w8.cell? ⟨w.heap.size, 0, none⟩ = some (.int .i8 a0) ∧ w8.cell? ⟨w.heap.size, 1, none⟩ = some (.int .i8 a1) ∧ w8.cell? ⟨w.heap.size, 2, none⟩ = some (.int .i8 a2) ∧ w8.cell? ⟨w.heap.size, 3, none⟩ = some (.int .i8 a3) ∧ w8.cell? ⟨w.heap.size + 1, 0, none⟩ = some (.int .i8 b0) ∧ w8.cell? ⟨w.heap.size + 1, 1, none⟩ = some (.int .i8 b1) ∧ w8.cell? ⟨w.heap.size + 1, 2, none⟩ = some (.int .i8 b2) ∧ w8.cell? ⟨w.heap.size + 1, 3, none⟩ = some (.int .i8 b3) ∧ w8.cell? ⟨Cb, 0, none⟩ = some (.int .i8 c0) ∧ w8.cell? ⟨Cb, 1, none⟩ = some (.int .i8 c1) ∧ w8.cell? ⟨Cb, 2, none⟩ = some (.int .i8 c2) ∧ w8.cell? ⟨Cb, 3, none⟩ = some (.int .i8 c3) ∧ w8.cell? ⟨P, 0, none⟩ = some (.int .i8 a0) ∧ w8.cell? ⟨P, 1, none⟩ = some (.int .i8 a1) ∧ w8.cell? ⟨P, 2, none⟩ = some (.int .i8 a2) ∧ w8.cell? ⟨P, 3, none⟩ = some (.int .i8 a3) ∧ w8.cell? ⟨Q, 0, none⟩ = some (.int .i8 b0) ∧ w8.cell? ⟨Q, 1, none⟩ = some (.int .i8 b1) ∧ w8.cell? ⟨Q, 2, none⟩ = some (.int .i8 b2) ∧ w8.cell? ⟨Q, 3, none⟩ = some (.int .i8 b3) := by
          obtain ⟨hc, hf⟩ := bcell hb8
          have hz := hb8.size
          (try simp only [World.size_alloc, World.size_drew, World.size_setCell] at hz)
          (repeat' apply And.intro) <;> (first | omega | (rw [hc _ _ (by first | omega | (simp only [World.size_alloc, World.size_drew, World.size_setCell]; omega))]; first | (simp [go_sem, FP]; done) | (simp [*]; done)) | (rw [hf _ _ (by first | omega | (simp only [World.size_alloc, World.size_drew, World.size_setCell]; omega))]; first | (simp [go_sem, FP]; done) | (simp [*]; done)))
        clear hb8 FP BP SP
        go_upto_region 10 with (fail)
        obtain ⟨Mb, hMb⟩ : ∃ b, b = w8.heap.size := ⟨_, rfl⟩
        obtain ⟨w9, hw9⟩ : ∃ x, x = w8.alloc (.cells #[.int .i8 m0, .int .i8 m1, .int .i8 m2, .int .i8 m3] 25) := ⟨_, rfl⟩
        have hbA : Below w8.heap.size w8 w9 := by rw [hw9]; exact below_al (Below.refl _ _) _
        have F9 : w.heap.size < w9.heap.size ∧ w.heap.size + 1 < w9.heap.size ∧ Cb < w9.heap.size ∧ P < w9.heap.size ∧ Q < w9.heap.size ∧ w9.cell? ⟨w.heap.size, 0, none⟩ = some (.int .i8 a0) ∧ w9.cell? ⟨w.heap.size, 1, none⟩ = some (.int .i8 a1) ∧ w9.cell? ⟨w.heap.size, 2, none⟩ = some (.int .i8 a2) ∧ w9.cell? ⟨w.heap.size, 3, none⟩ = some (.int .i8 a3) ∧ w9.cell? ⟨w.heap.size + 1, 0, none⟩ = some (.int .i8 b0) ∧ w9.cell? ⟨w.heap.size + 1, 1, none⟩ = some (.int .i8 b1) ∧ w9.cell? ⟨w.heap.size + 1, 2, none⟩ = some (.int .i8 b2) ∧ w9.cell? ⟨w.heap.size + 1, 3, none⟩ = some (.int .i8 b3) ∧ w9.cell? ⟨Cb, 0, none⟩ = some (.int .i8 c0) ∧ w9.cell? ⟨Cb, 1, none⟩ = some (.int .i8 c1) ∧ w9.cell? ⟨Cb, 2, none⟩ = some (.int .i8 c2) ∧ w9.cell? ⟨Cb, 3, none⟩ = some (.int .i8 c3) ∧ w9.cell? ⟨P, 0, none⟩ = some (.int .i8 a0) ∧ w9.cell? ⟨P, 1, none⟩ = some (.int .i8 a1) ∧ w9.cell? ⟨P, 2, none⟩ = some (.int .i8 a2) ∧ w9.cell? ⟨P, 3, none⟩ = some (.int .i8 a3) ∧ w9.cell? ⟨Q, 0, none⟩ = some (.int .i8 b0) ∧ w9.cell? ⟨Q, 1, none⟩ = some (.int .i8 b1) ∧ w9.cell? ⟨Q, 2, none⟩ = some (.int .i8 b2) ∧ w9.cell? ⟨Q, 3, none⟩ = some (.int .i8 b3) := by
          obtain ⟨hc, hf⟩ := bcell hbA
          have hz := hbA.size
          (try simp only [World.size_alloc, World.size_drew, World.size_setCell] at hz)
          (repeat' apply And.intro) <;> (first | omega | (rw [hc _ _ (by first | omega | (simp only [World.size_alloc, World.size_drew, World.size_setCell]; omega))]; first | (simp [go_sem, F8]; done) | (simp [*]; done)) | (rw [hf _ _ (by first | omega | (simp only [World.size_alloc, World.size_drew, World.size_setCell]; omega))]; first | (simp [go_sem, F8]; done) | (simp [*]; done)))
        have FM : Mb < w9.heap.size ∧ w9.cell? ⟨Mb, 0, none⟩ = some (.int .i8 m0) ∧ w9.cell? ⟨Mb, 1, none⟩ = some (.int .i8 m1) ∧ w9.cell? ⟨Mb, 2, none⟩ = some (.int .i8 m2) ∧ w9.cell? ⟨Mb, 3, none⟩ = some (.int .i8 m3) := by
          have z : Mb < w9.heap.size := by rw [hw9, hMb]; simp
          refine ⟨z, ?_, ?_, ?_, ?_⟩ <;> (rw [hw9, hMb]; simp [go_sem])
        have B9 : Below w.heap.size w w9 := by rw [hw9]; exact below_al B8 _
        rw [← hw9, ← hMb]
        have S9 := B9.size
        clear hw9 hMb F8 B8 S8 hbA
        have F9M : w.heap.size < w9.heap.size ∧ w.heap.size + 1 < w9.heap.size ∧ Cb < w9.heap.size ∧ P < w9.heap.size ∧ Q < w9.heap.size ∧ Mb < w9.heap.size ∧ w9.cell? ⟨w.heap.size, 0, none⟩ = some (.int .i8 a0) ∧ w9.cell? ⟨w.heap.size, 1, none⟩ = some (.int .i8 a1) ∧ w9.cell? ⟨w.heap.size, 2, none⟩ = some (.int .i8 a2) ∧ w9.cell? ⟨w.heap.size, 3, none⟩ = some (.int .i8 a3) ∧ w9.cell? ⟨w.heap.size + 1, 0, none⟩ = some (.int .i8 b0) ∧ w9.cell? ⟨w.heap.size + 1, 1, none⟩ = some (.int .i8 b1) ∧ w9.cell? ⟨w.heap.size + 1, 2, none⟩ = some (.int .i8 b2) ∧ w9.cell? ⟨w.heap.size + 1, 3, none⟩ = some (.int .i8 b3) ∧ w9.cell? ⟨Cb, 0, none⟩ = some (.int .i8 c0) ∧ w9.cell? ⟨Cb, 1, none⟩ = some (.int .i8 c1) ∧ w9.cell? ⟨Cb, 2, none⟩ = some (.int .i8 c2) ∧ w9.cell? ⟨Cb, 3, none⟩ = some (.int .i8 c3) ∧ w9.cell? ⟨P, 0, none⟩ = some (.int .i8 a0) ∧ w9.cell? ⟨P, 1, none⟩ = some (.int .i8 a1) ∧ w9.cell? ⟨P, 2, none⟩ = some (.int .i8 a2) ∧ w9.cell? ⟨P, 3, none⟩ = some (.int .i8 a3) ∧ w9.cell? ⟨Q, 0, none⟩ = some (.int .i8 b0) ∧ w9.cell? ⟨Q, 1, none⟩ = some (.int .i8 b1) ∧ w9.cell? ⟨Q, 2, none⟩ = some (.int .i8 b2) ∧ w9.cell? ⟨Q, 3, none⟩ = some (.int .i8 b3) ∧ w9.cell? ⟨Mb, 0, none⟩ = some (.int .i8 m0) ∧ w9.cell? ⟨Mb, 1, none⟩ = some (.int .i8 m1) ∧ w9.cell? ⟨Mb, 2, none⟩ = some (.int .i8 m2) ∧ w9.cell? ⟨Mb, 3, none⟩ = some (.int .i8 m3) := by
          go_split_ands
          (repeat' apply And.intro) <;> assumption
        clear FM F9
        go_cut [113] (fun s wx => s = .bool false ∧ (w.heap.size < wx.heap.size ∧ w.heap.size + 1 < wx.heap.size ∧ Cb < wx.heap.size ∧ P < wx.heap.size ∧ Q < wx.heap.size ∧ Mb < wx.heap.size ∧ wx.cell? ⟨w.heap.size, 0, none⟩ = some (.int .i8 a0) ∧ wx.cell? ⟨w.heap.size, 1, none⟩ = some (.int .i8 a1) ∧ wx.cell? ⟨w.heap.size, 2, none⟩ = some (.int .i8 a2) ∧ wx.cell? ⟨w.heap.size, 3, none⟩ = some (.int .i8 a3) ∧ wx.cell? ⟨w.heap.size + 1, 0, none⟩ = some (.int .i8 b0) ∧ wx.cell? ⟨w.heap.size + 1, 1, none⟩ = some (.int .i8 b1) ∧ wx.cell? ⟨w.heap.size + 1, 2, none⟩ = some (.int .i8 b2) ∧ wx.cell? ⟨w.heap.size + 1, 3, none⟩ = some (.int .i8 b3) ∧ wx.cell? ⟨Cb, 0, none⟩ = some (.int .i8 c0) ∧ wx.cell? ⟨Cb, 1, none⟩ = some (.int .i8 c1) ∧ wx.cell? ⟨Cb, 2, none⟩ = some (.int .i8 c2) ∧ wx.cell? ⟨Cb, 3, none⟩ = some (.int .i8 c3) ∧ wx.cell? ⟨P, 0, none⟩ = some (.int .i8 a0) ∧ wx.cell? ⟨P, 1, none⟩ = some (.int .i8 a1) ∧ wx.cell? ⟨P, 2, none⟩ = some (.int .i8 a2) ∧ wx.cell? ⟨P, 3, none⟩ = some (.int .i8 a3) ∧ wx.cell? ⟨Q, 0, none⟩ = some (.int .i8 b0) ∧ wx.cell? ⟨Q, 1, none⟩ = some (.int .i8 b1) ∧ wx.cell? ⟨Q, 2, none⟩ = some (.int .i8 b2) ∧ wx.cell? ⟨Q, 3, none⟩ = some (.int .i8 b3) ∧ wx.cell? ⟨Mb, 0, none⟩ = some (.int .i8 m0) ∧ wx.cell? ⟨Mb, 1, none⟩ = some (.int .i8 m1) ∧ wx.cell? ⟨Mb, 2, none⟩ = some (.int .i8 m2) ∧ wx.cell? ⟨Mb, 3, none⟩ = some (.int .i8 m3)) ∧ Below w.heap.size w wx)
        case first =>
          (repeat (rename_i hh; revert hh))
          revert eqs c0 c1 c2 c3 w1 Cb w2 bC X w4 ok d0 d1 d2 d3 w5 Db w6 wc u16 u17 u18 u19 u20 u21 u22 u23 u24 u25 u26 u27 u28 u29 u30 u31 u32 u33 u34 u35 u36 u37 u38 u39 u40 u41 u42 u43 u44 u45 u46 u47 u48 u49 u50 u51 u52 u53 u54 u55 u56 u57 u58 u59 u60 u61 u62 u63 u64 u65 u66 u67 u68 u69 u70 u71 u72 u73 u74 u75 u76 u77 u78 u79 u80 u81 u82 u83 u84 u85 u86 u87 u88 u89 u90 u91 u92 u93 u94 u95 u96 u97 u98 u99 u100 u101 u102 u103 u104 u105 u106 u107 u108 u109 u110 u111 u112 u113 u114 u115 u116 u117 u118 u119 u120 u121 u122 u123 u124 u125 u126 u127 u128 u129 u130 u131 u132 u133 u134 u135 u136 u137 u138 u139 u140 u141 u142 u143 u144 u145 u146 u147 u148 u149 u150 u151 u152 u153 u154 u155 u156 u157 u158 u159 P Q m0 m1 m2 m3 s0 s1 s2 s3 y0 y1 y2 y3 z0 z1 z2 z3 H1 H2 H3 H4 HS HY HZ w8 Mb w9 B9 S9 F9M
          exact hP.out
        case rest =>
          clear hP
          obtain ⟨rfl, FX, BX⟩ := hcut
          have HSc := Lib.hid (HS.out.symm.trans (merge_cnt ⟨a0, a1, a2, a3⟩))
          clear F9M B9 S9 H1 H2 H3 H4 HS HY HZ
          have FZ : w.heap.size < wc.heap.size ∧ P < wc.heap.size ∧ wc.cell? ⟨w.heap.size, 0, none⟩ = some (.int .i8 a0) ∧ wc.cell? ⟨w.heap.size, 1, none⟩ = some (.int .i8 a1) ∧ wc.cell? ⟨w.heap.size, 2, none⟩ = some (.int .i8 a2) ∧ wc.cell? ⟨w.heap.size, 3, none⟩ = some (.int .i8 a3) ∧ wc.cell? ⟨P, 0, none⟩ = some (.int .i8 a0) ∧ wc.cell? ⟨P, 1, none⟩ = some (.int .i8 a1) ∧ wc.cell? ⟨P, 2, none⟩ = some (.int .i8 a2) ∧ wc.cell? ⟨P, 3, none⟩ = some (.int .i8 a3) := by
            go_split_ands
            (repeat' apply And.intro) <;> assumption
          clear FX
          go_wp2
          go_loopw [15] (fun i wr => ∃ k : Nat, k ≤ 4 ∧ i = .int .i64 k ∧ (w.heap.size < wr.heap.size ∧ P < wr.heap.size ∧ wr.cell? ⟨w.heap.size, 0, none⟩ = some (.int .i8 a0) ∧ wr.cell? ⟨w.heap.size, 1, none⟩ = some (.int .i8 a1) ∧ wr.cell? ⟨w.heap.size, 2, none⟩ = some (.int .i8 a2) ∧ wr.cell? ⟨w.heap.size, 3, none⟩ = some (.int .i8 a3) ∧ wr.cell? ⟨P, 0, none⟩ = some (.int .i8 a0) ∧ wr.cell? ⟨P, 1, none⟩ = some (.int .i8 a1) ∧ wr.cell? ⟨P, 2, none⟩ = some (.int .i8 a2) ∧ wr.cell? ⟨P, 3, none⟩ = some (.int .i8 a3)) ∧ Below w.heap.size w wr) (fun i _ => 4 - (intOf i).toNat)
          case atStart => exact ⟨0, by omega, rfl, FZ, BX⟩
          case round =>
            obtain ⟨wo, hwo⟩ : ∃ wo : World, wo = wc := ⟨_, rfl⟩
            clear hwo FZ BX
            obtain ⟨k, hk, rfl, FZ, BX⟩ := hrel
            have SX := BX.size
            rcases (show k < 4 ∨ k = 4 by omega) with hlt | rfl
            · obtain ⟨v, hv⟩ : ∃ v, v = A4.get ⟨a0, a1, a2, a3⟩ k := ⟨_, rfl⟩
              have ck : wr.cell? ⟨w.heap.size, k, none⟩ = some (.int .i8 v) := by
                rw [hv]
                go_split_ands
                rcases (show k = 0 ∨ k = 1 ∨ k = 2 ∨ k = 3 by omega) with rfl | rfl | rfl | rfl <;> assumption
              have hix : ∀ w : World, (Instr.index 25 (.agg #[.int .i8 (cnt a0), .int .i8 (cnt a1), .int .i8 (cnt a2), .int .i8 (cnt a3)]) (.int .i64 (k : Int))).run Try.prog w = .ok (.int .i8 (cnt v)) w := by
                intro w
                rw [hv]
                rcases (show k = 0 ∨ k = 1 ∨ k = 2 ∨ k = 3 by omega) with rfl | rfl | rfl | rfl
                · exact idxA0 _ _ _ _ _
                · exact idxA1 _ _ _ _ _
                · exact idxA2 _ _ _ _ _
                · exact idxA3 _ _ _ _ _
              have FP : w.heap.size < wr.heap.size ∧ P < wr.heap.size ∧ wr.cell? ⟨P, 0, none⟩ = some (.int .i8 a0) ∧ wr.cell? ⟨P, 1, none⟩ = some (.int .i8 a1) ∧ wr.cell? ⟨P, 2, none⟩ = some (.int .i8 a2) ∧ wr.cell? ⟨P, 3, none⟩ = some (.int .i8 a3) ∧ wr.cell? ⟨w.heap.size, k, none⟩ = some (.int .i8 v) := by
                go_split_ands
                (repeat' apply And.intro) <;> assumption
              have FZh := Lib.hid FZ
              clear FZ
              have k0 : (0 : Int) ≤ (k : Int) := by omega
              have k4 : (k : Int) < 4 := by omega
              clear hv
              have HIX := Lib.hid hix
              clear hix
              have HPF := Lib.hid (show ∀ w', Below wr.heap.size wr w' → (w.heap.size < w'.heap.size ∧ P < w'.heap.size ∧ w'.cell? ⟨P, 0, none⟩ = some (.int .i8 a0) ∧ w'.cell? ⟨P, 1, none⟩ = some (.int .i8 a1) ∧ w'.cell? ⟨P, 2, none⟩ = some (.int .i8 a2) ∧ w'.cell? ⟨P, 3, none⟩ = some (.int .i8 a3) ∧ w'.cell? ⟨w.heap.size, k, none⟩ = some (.int .i8 v)) from fun w' h => by
                have S := h.size
                have F0 := FP
                go_split_ands
                (repeat' apply And.intro) <;> (first | omega | (rw [(bcell h).1 _ _ (by assumption)]; assumption)))
              have HZF := Lib.hid (show ∀ w', Below wr.heap.size wr w' → (w.heap.size < w'.heap.size ∧ P < w'.heap.size ∧ w'.cell? ⟨w.heap.size, 0, none⟩ = some (.int .i8 a0) ∧ w'.cell? ⟨w.heap.size, 1, none⟩ = some (.int .i8 a1) ∧ w'.cell? ⟨w.heap.size, 2, none⟩ = some (.int .i8 a2) ∧ w'.cell? ⟨w.heap.size, 3, none⟩ = some (.int .i8 a3) ∧ w'.cell? ⟨P, 0, none⟩ = some (.int .i8 a0) ∧ w'.cell? ⟨P, 1, none⟩ = some (.int .i8 a1) ∧ w'.cell? ⟨P, 2, none⟩ = some (.int .i8 a2) ∧ w'.cell? ⟨P, 3, none⟩ = some (.int .i8 a3)) from fun w' h => by
                have S := h.size
                have F0 := FZh.out
                clear FP
                go_split_ands
                (repeat' apply And.intro) <;> (first | omega | (rw [(bcell h).1 _ _ (by assumption)]; assumption)))
              clear FP ck
              rcases (show v < 0 ∨ 4 < v ∨ (0 ≤ v ∧ v ≤ 4) by omega) with h | h | ⟨h, h'⟩
              · have e : cnt v = 0 := cnt_out _ (.inl h)
                have hix := HIX.out
                rw [e] at hix
                clear e HIX
                go_upto_region 15 with (fail)
                have H00 := Lib.hid (Below.drew (Below.refl wr.heap.size wr))
                refine wp_region_noPanic ?_
                refine wp_region_held (S := fun w' => Below wr.heap.size wr w') (by kernel_rfl) ?_
                change wpAnyH _ _ _ _ _ 41 (Array.replicate 41 false) _ _
                refine wpAnyH_take (i := 0) (v := ?vq0_0) (by simp only [List.getElem?_toArray, List.getElem?_cons_succ, List.getElem?_cons_zero]; rfl) (by kernel_rfl) (by kernel_rfl) (by kernel_rfl) (fun _ _ _ h => h) (.inl ⟨by rfl, ?tq0_0⟩) ?sq0_0 ?_
                case tq0_0 => (intro w' h; clear h; go_simp; try rfl)
                case sq0_0 => exact H00.out
                (try simp only [Act.put, List.setIfInBounds_toArray, List.set_cons_zero, List.set_cons_succ])
                refine wpAnyH_take (i := 1) (v := ?vq0_1) (by simp only [List.getElem?_toArray, List.getElem?_cons_succ, List.getElem?_cons_zero]; rfl) (by kernel_rfl) (by kernel_rfl) (by kernel_rfl) (fun _ _ _ h => h) (.inl ⟨by rfl, ?tq0_1⟩) ?sq0_1 ?_
                case tq0_1 => (intro w' h; have FK := HPF.out w' h; clear h; go_split_ands; go_simp; try rfl)
                case sq0_1 => exact H00.out
                (try simp only [Act.put, List.setIfInBounds_toArray, List.set_cons_zero, List.set_cons_succ])
                refine wpAnyH_take (i := 2) (v := ?vq0_2) (by simp only [List.getElem?_toArray, List.getElem?_cons_succ, List.getElem?_cons_zero]; rfl) (by kernel_rfl) (by kernel_rfl) (by kernel_rfl) (fun _ _ _ h => h) (.inl ⟨by rfl, ?tq0_2⟩) ?sq0_2 ?_
                case tq0_2 => (intro w' h; have FK := HPF.out w' h; clear h; go_split_ands; go_simp; try rfl)
                case sq0_2 => exact H00.out
                (try simp only [Act.put, List.setIfInBounds_toArray, List.set_cons_zero, List.set_cons_succ])
                refine wpAnyH_take (i := 3) (v := .bool false) (by simp only [List.getElem?_toArray, List.getElem?_cons_succ, List.getElem?_cons_zero]; rfl) (by kernel_rfl) (by kernel_rfl) (by kernel_rfl) (fun _ _ _ h => h) (.inl ⟨by rfl, ?tq0_3⟩) H00.out ?_
                case tq0_3 => (intro w' h; clear h; go_simp; (try (first | rfl | omega | (rw [decide_eq_false_iff_not]; omega) | (rw [decide_eq_true_eq]; omega))))
                (try simp only [Act.put, List.setIfInBounds_toArray, List.set_cons_zero, List.set_cons_succ])
                refine wpAnyH_take (i := 4) (v := ?vq0_4) (by simp only [List.getElem?_toArray, List.getElem?_cons_succ, List.getElem?_cons_zero]; rfl) (by kernel_rfl) (by kernel_rfl) (by kernel_rfl) (fun _ _ _ h => h) (.inl ⟨by rfl, ?tq0_4⟩) ?sq0_4 ?_
                case tq0_4 => (intro w' h; clear h; go_simp; try rfl)
                case sq0_4 => exact H00.out
                (try simp only [Act.put, List.setIfInBounds_toArray, List.set_cons_zero, List.set_cons_succ])
                refine wpAnyH_take (i := 5) (v := undef) (by simp only [List.getElem?_toArray, List.getElem?_cons_succ, List.getElem?_cons_zero]; rfl) (by kernel_rfl) (by kernel_rfl) (by kernel_rfl) (fun _ _ _ h => h) (.inr ⟨by rfl, rfl⟩) H00.out ?_
                (try simp only [Act.put, List.setIfInBounds_toArray, List.set_cons_zero, List.set_cons_succ])
                refine wpAnyH_take (i := 6) (v := undef) (by simp only [List.getElem?_toArray, List.getElem?_cons_succ, List.getElem?_cons_zero]; rfl) (by kernel_rfl) (by kernel_rfl) (by kernel_rfl) (fun _ _ _ h => h) (.inr ⟨by rfl, rfl⟩) H00.out ?_
                (try simp only [Act.put, List.setIfInBounds_toArray, List.set_cons_zero, List.set_cons_succ])
                refine wpAnyH_take (i := 7) (v := undef) (by simp only [List.getElem?_toArray, List.getElem?_cons_succ, List.getElem?_cons_zero]; rfl) (by kernel_rfl) (by kernel_rfl) (by kernel_rfl) (fun _ _ _ h => h) (.inr ⟨by rfl, rfl⟩) H00.out ?_
                (try simp only [Act.put, List.setIfInBounds_toArray, List.set_cons_zero, List.set_cons_succ])
                refine wpAnyH_take (i := 8) (v := undef) (by simp only [List.getElem?_toArray, List.getElem?_cons_succ, List.getElem?_cons_zero]; rfl) (by kernel_rfl) (by kernel_rfl) (by kernel_rfl) (fun _ _ _ h => h) (.inr ⟨by rfl, rfl⟩) H00.out ?_
                (try simp only [Act.put, List.setIfInBounds_toArray, List.set_cons_zero, List.set_cons_succ])
                refine wpAnyH_take (i := 9) (v := ?vq0_9) (by simp only [List.getElem?_toArray, List.getElem?_cons_succ, List.getElem?_cons_zero]; rfl) (by kernel_rfl) (by kernel_rfl) (by kernel_rfl) (fun _ _ _ h => h) (.inl ⟨by rfl, ?tq0_9⟩) ?sq0_9 ?_
                case tq0_9 => (intro w' h; clear h; go_simp; try rfl)
                case sq0_9 => exact H00.out
                (try simp only [Act.put, List.setIfInBounds_toArray, List.set_cons_zero, List.set_cons_succ])
                refine wpAnyH_take (i := 10) (v := ?vq0_10) (by simp only [List.getElem?_toArray, List.getElem?_cons_succ, List.getElem?_cons_zero]; rfl) (by kernel_rfl) (by kernel_rfl) (by kernel_rfl) (fun _ _ _ h => h) (.inl ⟨by rfl, ?tq0_10⟩) ?sq0_10 ?_
                case tq0_10 => (intro w' h; clear h; go_simp; try rfl)
                case sq0_10 => exact H00.out
                (try simp only [Act.put, List.setIfInBounds_toArray, List.set_cons_zero, List.set_cons_succ])
                refine wpAnyH_take (i := 11) (v := undef) (by simp only [List.getElem?_toArray, List.getElem?_cons_succ, List.getElem?_cons_zero]; rfl) (by kernel_rfl) (by kernel_rfl) (by kernel_rfl) (fun _ _ _ h => h) (.inr ⟨by rfl, rfl⟩) H00.out ?_
                (try simp only [Act.put, List.setIfInBounds_toArray, List.set_cons_zero, List.set_cons_succ])
                refine wpAnyH_take (i := 12) (v := undef) (by simp only [List.getElem?_toArray, List.getElem?_cons_succ, List.getElem?_cons_zero]; rfl) (by kernel_rfl) (by kernel_rfl) (by kernel_rfl) (fun _ _ _ h => h) (.inr ⟨by rfl, rfl⟩) H00.out ?_
                (try simp only [Act.put, List.setIfInBounds_toArray, List.set_cons_zero, List.set_cons_succ])
                refine wpAnyH_take (i := 13) (v := undef) (by simp only [List.getElem?_toArray, List.getElem?_cons_succ, List.getElem?_cons_zero]; rfl) (by kernel_rfl) (by kernel_rfl) (by kernel_rfl) (fun _ _ _ h => h) (.inr ⟨by rfl, rfl⟩) H00.out ?_
                (try simp only [Act.put, List.setIfInBounds_toArray, List.set_cons_zero, List.set_cons_succ])
                refine wpAnyH_take (i := 14) (v := undef) (by simp only [List.getElem?_toArray, List.getElem?_cons_succ, List.getElem?_cons_zero]; rfl) (by kernel_rfl) (by kernel_rfl) (by kernel_rfl) (fun _ _ _ h => h) (.inr ⟨by rfl, rfl⟩) H00.out ?_
                (try simp only [Act.put, List.setIfInBounds_toArray, List.set_cons_zero, List.set_cons_succ])
                refine wpAnyH_take (i := 15) (v := undef) (by simp only [List.getElem?_toArray, List.getElem?_cons_succ, List.getElem?_cons_zero]; rfl) (by kernel_rfl) (by kernel_rfl) (by kernel_rfl) (fun _ _ _ h => h) (.inr ⟨by rfl, rfl⟩) H00.out ?_
                (try simp only [Act.put, List.setIfInBounds_toArray, List.set_cons_zero, List.set_cons_succ])
                refine wpAnyH_take (i := 16) (v := undef) (by simp only [List.getElem?_toArray, List.getElem?_cons_succ, List.getElem?_cons_zero]; rfl) (by kernel_rfl) (by kernel_rfl) (by kernel_rfl) (fun _ _ _ h => h) (.inr ⟨by rfl, rfl⟩) H00.out ?_
                (try simp only [Act.put, List.setIfInBounds_toArray, List.set_cons_zero, List.set_cons_succ])
                refine wpAnyH_take (i := 17) (v := undef) (by simp only [List.getElem?_toArray, List.getElem?_cons_succ, List.getElem?_cons_zero]; rfl) (by kernel_rfl) (by kernel_rfl) (by kernel_rfl) (fun _ _ _ h => h) (.inr ⟨by rfl, rfl⟩) H00.out ?_
                (try simp only [Act.put, List.setIfInBounds_toArray, List.set_cons_zero, List.set_cons_succ])
                refine wpAnyH_take (i := 18) (v := undef) (by simp only [List.getElem?_toArray, List.getElem?_cons_succ, List.getElem?_cons_zero]; rfl) (by kernel_rfl) (by kernel_rfl) (by kernel_rfl) (fun _ _ _ h => h) (.inr ⟨by rfl, rfl⟩) H00.out ?_
                (try simp only [Act.put, List.setIfInBounds_toArray, List.set_cons_zero, List.set_cons_succ])
                refine wpAnyH_take (i := 19) (v := undef) (by simp only [List.getElem?_toArray, List.getElem?_cons_succ, List.getElem?_cons_zero]; rfl) (by kernel_rfl) (by kernel_rfl) (by kernel_rfl) (fun _ _ _ h => h) (.inr ⟨by rfl, rfl⟩) H00.out ?_
                (try simp only [Act.put, List.setIfInBounds_toArray, List.set_cons_zero, List.set_cons_succ])
                refine wpAnyH_take (i := 20) (v := ?vq0_20) (by simp only [List.getElem?_toArray, List.getElem?_cons_succ, List.getElem?_cons_zero]; rfl) (by kernel_rfl) (by kernel_rfl) (by kernel_rfl) (fun _ _ _ h => h) (.inl ⟨by rfl, ?tq0_20⟩) ?sq0_20 ?_
                case tq0_20 => (intro w' h; clear h; go_simp; try rfl)
                case sq0_20 => exact H00.out
                (try simp only [Act.put, List.setIfInBounds_toArray, List.set_cons_zero, List.set_cons_succ])
                refine wpAnyH_take (i := 21) (v := ?vq0_21) (by simp only [List.getElem?_toArray, List.getElem?_cons_succ, List.getElem?_cons_zero]; rfl) (by kernel_rfl) (by kernel_rfl) (by kernel_rfl) (fun _ _ _ h => h) (.inl ⟨by rfl, ?tq0_21⟩) ?sq0_21 ?_
                case tq0_21 => (intro w' h; clear h; go_simp; try rfl)
                case sq0_21 => exact H00.out
                (try simp only [Act.put, List.setIfInBounds_toArray, List.set_cons_zero, List.set_cons_succ])
                refine wpAnyH_take (i := 22) (v := ?vq0_22) (by simp only [List.getElem?_toArray, List.getElem?_cons_succ, List.getElem?_cons_zero]; rfl) (by kernel_rfl) (by kernel_rfl) (by kernel_rfl) (fun _ _ _ h => h) (.inl ⟨by rfl, ?tq0_22⟩) ?sq0_22 ?_
                case tq0_22 => (intro w' h; clear h; go_simp; try rfl)
                case sq0_22 => exact H00.out
                (try simp only [Act.put, List.setIfInBounds_toArray, List.set_cons_zero, List.set_cons_succ])
                refine wpAnyH_take (i := 23) (v := ?vq0_23) (by simp only [List.getElem?_toArray, List.getElem?_cons_succ, List.getElem?_cons_zero]; rfl) (by kernel_rfl) (by kernel_rfl) (by kernel_rfl) (fun _ _ _ h => h) (.inl ⟨by rfl, ?tq0_23⟩) ?sq0_23 ?_
                case tq0_23 => (intro w' h; have FK := HPF.out w' h; clear h; go_split_ands; go_simp; try rfl)
                case sq0_23 => exact H00.out
                (try simp only [Act.put, List.setIfInBounds_toArray, List.set_cons_zero, List.set_cons_succ])
                refine wpAnyH_take (i := 24) (v := ?vq0_24) (by simp only [List.getElem?_toArray, List.getElem?_cons_succ, List.getElem?_cons_zero]; rfl) (by kernel_rfl) (by kernel_rfl) (by kernel_rfl) (fun _ _ _ h => h) (.inl ⟨by rfl, ?tq0_24⟩) ?sq0_24 ?_
                case tq0_24 => (intro w' h; have FK := HPF.out w' h; clear h; go_split_ands; go_simp; try rfl)
                case sq0_24 => exact H00.out
                (try simp only [Act.put, List.setIfInBounds_toArray, List.set_cons_zero, List.set_cons_succ])
                refine wpAnyH_take (i := 25) (v := .bool true) (by simp only [List.getElem?_toArray, List.getElem?_cons_succ, List.getElem?_cons_zero]; rfl) (by kernel_rfl) (by kernel_rfl) (by kernel_rfl) (fun _ _ _ h => h) (.inl ⟨by rfl, ?tq0_25⟩) H00.out ?_
                case tq0_25 => (intro w' h; clear h; go_simp; (try (first | rfl | omega | (rw [decide_eq_false_iff_not]; omega) | (rw [decide_eq_true_eq]; omega))))
                (try simp only [Act.put, List.setIfInBounds_toArray, List.set_cons_zero, List.set_cons_succ])
                refine wpAnyH_take (i := 26) (v := ?vq0_26) (by simp only [List.getElem?_toArray, List.getElem?_cons_succ, List.getElem?_cons_zero]; rfl) (by kernel_rfl) (by kernel_rfl) (by kernel_rfl) (fun _ _ _ h => h) (.inl ⟨by rfl, ?tq0_26⟩) ?sq0_26 ?_
                case tq0_26 => (intro w' h; clear h; go_simp; try rfl)
                case sq0_26 => exact H00.out
                (try simp only [Act.put, List.setIfInBounds_toArray, List.set_cons_zero, List.set_cons_succ])
                refine wpAnyH_take (i := 27) (v := undef) (by simp only [List.getElem?_toArray, List.getElem?_cons_succ, List.getElem?_cons_zero]; rfl) (by kernel_rfl) (by kernel_rfl) (by kernel_rfl) (fun _ _ _ h => h) (.inr ⟨by rfl, rfl⟩) H00.out ?_
                (try simp only [Act.put, List.setIfInBounds_toArray, List.set_cons_zero, List.set_cons_succ])
                refine wpAnyH_take (i := 28) (v := undef) (by simp only [List.getElem?_toArray, List.getElem?_cons_succ, List.getElem?_cons_zero]; rfl) (by kernel_rfl) (by kernel_rfl) (by kernel_rfl) (fun _ _ _ h => h) (.inr ⟨by rfl, rfl⟩) H00.out ?_
                (try simp only [Act.put, List.setIfInBounds_toArray, List.set_cons_zero, List.set_cons_succ])
                refine wpAnyH_take (i := 29) (v := undef) (by simp only [List.getElem?_toArray, List.getElem?_cons_succ, List.getElem?_cons_zero]; rfl) (by kernel_rfl) (by kernel_rfl) (by kernel_rfl) (fun _ _ _ h => h) (.inr ⟨by rfl, rfl⟩) H00.out ?_
                (try simp only [Act.put, List.setIfInBounds_toArray, List.set_cons_zero, List.set_cons_succ])
                refine wpAnyH_take (i := 30) (v := undef) (by simp only [List.getElem?_toArray, List.getElem?_cons_succ, List.getElem?_cons_zero]; rfl) (by kernel_rfl) (by kernel_rfl) (by kernel_rfl) (fun _ _ _ h => h) (.inr ⟨by rfl, rfl⟩) H00.out ?_
                (try simp only [Act.put, List.setIfInBounds_toArray, List.set_cons_zero, List.set_cons_succ])
                refine wpAnyH_take (i := 31) (v := ?vq0_31) (by simp only [List.getElem?_toArray, List.getElem?_cons_succ, List.getElem?_cons_zero]; rfl) (by kernel_rfl) (by kernel_rfl) (by kernel_rfl) (fun _ _ _ h => h) (.inl ⟨by rfl, ?tq0_31⟩) ?sq0_31 ?_
                case tq0_31 => (intro w' h; clear h; go_simp; try rfl)
                case sq0_31 => exact H00.out
                (try simp only [Act.put, List.setIfInBounds_toArray, List.set_cons_zero, List.set_cons_succ])
                refine wpAnyH_take (i := 32) (v := ?vq0_32) (by simp only [List.getElem?_toArray, List.getElem?_cons_succ, List.getElem?_cons_zero]; rfl) (by kernel_rfl) (by kernel_rfl) (by kernel_rfl) (fun _ _ _ h => h) (.inl ⟨by rfl, ?tq0_32⟩) ?sq0_32 ?_
                case tq0_32 => (intro w' h; clear h; go_simp; try rfl)
                case sq0_32 => exact H00.out
                (try simp only [Act.put, List.setIfInBounds_toArray, List.set_cons_zero, List.set_cons_succ])
                refine wpAnyH_take (i := 33) (v := ?vq0_33) (by simp only [List.getElem?_toArray, List.getElem?_cons_succ, List.getElem?_cons_zero]; rfl) (by kernel_rfl) (by kernel_rfl) (by kernel_rfl) (fun _ _ _ h => h) (.inl ⟨by rfl, ?tq0_33⟩) ?sq0_33 ?_
                case tq0_33 => (intro w' h; have FK := HPF.out w' h; clear h; go_split_ands; go_simp; try rfl)
                case sq0_33 => exact H00.out
                (try simp only [Act.put, List.setIfInBounds_toArray, List.set_cons_zero, List.set_cons_succ])
                refine wpAnyH_take (i := 36) (v := ?vq0_36) (by simp only [List.getElem?_toArray, List.getElem?_cons_succ, List.getElem?_cons_zero]; rfl) (by kernel_rfl) (by kernel_rfl) (by kernel_rfl) (fun _ _ _ h => h) (.inl ⟨by rfl, ?tq0_36⟩) ?sq0_36 ?_
                case tq0_36 => (intro w' h; clear h; go_simp; try rfl)
                case sq0_36 => exact H00.out
                (try simp only [Act.put, List.setIfInBounds_toArray, List.set_cons_zero, List.set_cons_succ])
                have Hbr01 := Lib.hid (show Below wr.heap.size wr (wr.drew.alloc (.cells #[.int .i8 a0, .int .i8 a1, .int .i8 a2, .int .i8 a3] 25)) from below_al H00.out _)
                have Hkr01 := Lib.hid (heap_alloc_new wr.drew (.cells #[.int .i8 a0, .int .i8 a1, .int .i8 a2, .int .i8 a3] 25))
                refine wpAnyH_one (i := 34) (by kernel_rfl) ?_
                refine wpOp_value (v := .slice (some ⟨wr.drew.heap.size, 0, none⟩) 1 1) (w' := wr.drew.alloc (.cells #[.int .i8 a0, .int .i8 a1, .int .i8 a2, .int .i8 a3] 25)) (by simp only [List.getElem?_toArray, List.getElem?_cons_succ, List.getElem?_cons_zero]; rfl) (by rfl) ?mvr01 Hbr01.out ?_
                case mvr01 => (go_simp; try rfl)
                (try simp only [Act.put, List.setIfInBounds_toArray, List.set_cons_zero, List.set_cons_succ])
                obtain ⟨wxr01, hwx⟩ : ∃ x, x = wr.drew.alloc (.cells #[.int .i8 a0, .int .i8 a1, .int .i8 a2, .int .i8 a3] 25) := ⟨_, rfl⟩
                obtain ⟨bxr01, hbx⟩ : ∃ x, x = wr.drew.heap.size := ⟨_, rfl⟩
                rw [← hwx] at Hbr01 Hkr01 ⊢
                rw [← hbx] at Hkr01 ⊢
                clear hwx hbx
                refine wpAnyH_one (i := 35) (by kernel_rfl) ?_
                refine wpOp_call (by simp only [List.getElem?_toArray, List.getElem?_cons_succ, List.getElem?_cons_zero]; rfl) (by rfl) (by go_simp; first | exact ⟨rfl, rfl⟩ | rfl) ?_
                refine (mgB1 a0 a1 a2 a3 (cnt a0) (cnt a1) (cnt a2) (cnt a3) _ _ (merge_cnt ⟨a0, a1, a2, a3⟩) Hkr01.out).mono ?_
                rintro e wyr02 ⟨rfl, hb⟩
                have Hcr02 := Lib.hid (below_via hb Hbr01.out)
                clear hb
                refine ⟨_, rfl, Hcr02.out, ?_⟩
                (try simp only [Act.put, List.setIfInBounds_toArray, List.set_cons_zero, List.set_cons_succ])
                refine wpAnyH_take (i := 37) (v := .int .i8 0) (by simp only [List.getElem?_toArray, List.getElem?_cons_succ, List.getElem?_cons_zero]; rfl) (by kernel_rfl) (by kernel_rfl) (by kernel_rfl) (fun _ _ _ h => h) (.inl ⟨by rfl, ?tq0_37⟩) Hcr02.out ?_
                case tq0_37 => (intro w' h; clear h; go_simp; (try (first | rfl | omega | (rw [decide_eq_false_iff_not]; omega) | (rw [decide_eq_true_eq]; omega))))
                (try simp only [Act.put, List.setIfInBounds_toArray, List.set_cons_zero, List.set_cons_succ])
                refine wpAnyH_take (i := 38) (v := .bool false) (by simp only [List.getElem?_toArray, List.getElem?_cons_succ, List.getElem?_cons_zero]; rfl) (by kernel_rfl) (by kernel_rfl) (by kernel_rfl) (fun _ _ _ h => h) (.inl ⟨by rfl, ?tq0_38⟩) Hcr02.out ?_
                case tq0_38 => (intro w' h; clear h; go_simp; (try (first | rfl | omega | (rw [decide_eq_false_iff_not]; omega) | (rw [decide_eq_true_eq]; omega))))
                (try simp only [Act.put, List.setIfInBounds_toArray, List.set_cons_zero, List.set_cons_succ])
                refine wpAnyH_take (i := 39) (v := ?vq0_39) (by simp only [List.getElem?_toArray, List.getElem?_cons_succ, List.getElem?_cons_zero]; rfl) (by kernel_rfl) (by kernel_rfl) (by kernel_rfl) (fun _ _ _ h => h) (.inl ⟨by rfl, ?tq0_39⟩) ?sq0_39 ?_
                case tq0_39 => (intro w' h; clear h; go_simp; try rfl)
                case sq0_39 => exact Hcr02.out
                (try simp only [Act.put, List.setIfInBounds_toArray, List.set_cons_zero, List.set_cons_succ])
                refine wpAnyH_take (i := 40) (v := ?vq0_40) (by simp only [List.getElem?_toArray, List.getElem?_cons_succ, List.getElem?_cons_zero]; rfl) (by kernel_rfl) (by kernel_rfl) (by kernel_rfl) (fun _ _ _ h => h) (.inl ⟨by rfl, ?tq0_40⟩) ?sq0_40 ?_
                case tq0_40 => (intro w' h; clear h; go_simp; try rfl)
                case sq0_40 => exact Hcr02.out
                (try simp only [Act.put, List.setIfInBounds_toArray, List.set_cons_zero, List.set_cons_succ])
                refine wpAnyH_done (by kernel_rfl) (NoPanic.normal ?_) _
                go_wp2
                go_roundw
                case rel => exact ⟨k + 1, by omega, by go_num, HZF.out _ Hcr02.out, below_via Hcr02.out BX⟩
                case measure => simp [intOf]; omega
              · have e : cnt v = 0 := cnt_out _ (.inr h)
                have hix := HIX.out
                rw [e] at hix
                clear e HIX
                go_upto_region 15 with (fail)
                have H00 := Lib.hid (Below.drew (Below.refl wr.heap.size wr))
                refine wp_region_noPanic ?_
                refine wp_region_held (S := fun w' => Below wr.heap.size wr w') (by kernel_rfl) ?_
                change wpAnyH _ _ _ _ _ 41 (Array.replicate 41 false) _ _
                refine wpAnyH_take (i := 0) (v := ?vq1_0) (by simp only [List.getElem?_toArray, List.getElem?_cons_succ, List.getElem?_cons_zero]; rfl) (by kernel_rfl) (by kernel_rfl) (by kernel_rfl) (fun _ _ _ h => h) (.inl ⟨by rfl, ?tq1_0⟩) ?sq1_0 ?_
                case tq1_0 => (intro w' h; clear h; go_simp; try rfl)
                case sq1_0 => exact H00.out
                (try simp only [Act.put, List.setIfInBounds_toArray, List.set_cons_zero, List.set_cons_succ])
                refine wpAnyH_take (i := 1) (v := ?vq1_1) (by simp only [List.getElem?_toArray, List.getElem?_cons_succ, List.getElem?_cons_zero]; rfl) (by kernel_rfl) (by kernel_rfl) (by kernel_rfl) (fun _ _ _ h => h) (.inl ⟨by rfl, ?tq1_1⟩) ?sq1_1 ?_
                case tq1_1 => (intro w' h; have FK := HPF.out w' h; clear h; go_split_ands; go_simp; try rfl)
                case sq1_1 => exact H00.out
                (try simp only [Act.put, List.setIfInBounds_toArray, List.set_cons_zero, List.set_cons_succ])
                refine wpAnyH_take (i := 2) (v := ?vq1_2) (by simp only [List.getElem?_toArray, List.getElem?_cons_succ, List.getElem?_cons_zero]; rfl) (by kernel_rfl) (by kernel_rfl) (by kernel_rfl) (fun _ _ _ h => h) (.inl ⟨by rfl, ?tq1_2⟩) ?sq1_2 ?_
                case tq1_2 => (intro w' h; have FK := HPF.out w' h; clear h; go_split_ands; go_simp; try rfl)
                case sq1_2 => exact H00.out
                (try simp only [Act.put, List.setIfInBounds_toArray, List.set_cons_zero, List.set_cons_succ])
                refine wpAnyH_take (i := 3) (v := .bool true) (by simp only [List.getElem?_toArray, List.getElem?_cons_succ, List.getElem?_cons_zero]; rfl) (by kernel_rfl) (by kernel_rfl) (by kernel_rfl) (fun _ _ _ h => h) (.inl ⟨by rfl, ?tq1_3⟩) H00.out ?_
                case tq1_3 => (intro w' h; clear h; go_simp; (try (first | rfl | omega | (rw [decide_eq_false_iff_not]; omega) | (rw [decide_eq_true_eq]; omega))))
                (try simp only [Act.put, List.setIfInBounds_toArray, List.set_cons_zero, List.set_cons_succ])
                refine wpAnyH_take (i := 4) (v := ?vq1_4) (by simp only [List.getElem?_toArray, List.getElem?_cons_succ, List.getElem?_cons_zero]; rfl) (by kernel_rfl) (by kernel_rfl) (by kernel_rfl) (fun _ _ _ h => h) (.inl ⟨by rfl, ?tq1_4⟩) ?sq1_4 ?_
                case tq1_4 => (intro w' h; clear h; go_simp; try rfl)
                case sq1_4 => exact H00.out
                (try simp only [Act.put, List.setIfInBounds_toArray, List.set_cons_zero, List.set_cons_succ])
                refine wpAnyH_take (i := 5) (v := ?vq1_5) (by simp only [List.getElem?_toArray, List.getElem?_cons_succ, List.getElem?_cons_zero]; rfl) (by kernel_rfl) (by kernel_rfl) (by kernel_rfl) (fun _ _ _ h => h) (.inl ⟨by rfl, ?tq1_5⟩) ?sq1_5 ?_
                case tq1_5 => (intro w' h; clear h; go_simp; try rfl)
                case sq1_5 => exact H00.out
                (try simp only [Act.put, List.setIfInBounds_toArray, List.set_cons_zero, List.set_cons_succ])
                refine wpAnyH_take (i := 6) (v := ?vq1_6) (by simp only [List.getElem?_toArray, List.getElem?_cons_succ, List.getElem?_cons_zero]; rfl) (by kernel_rfl) (by kernel_rfl) (by kernel_rfl) (fun _ _ _ h => h) (.inl ⟨by rfl, ?tq1_6⟩) ?sq1_6 ?_
                case tq1_6 => (intro w' h; have FK := HPF.out w' h; clear h; go_split_ands; go_simp; try rfl)
                case sq1_6 => exact H00.out
                (try simp only [Act.put, List.setIfInBounds_toArray, List.set_cons_zero, List.set_cons_succ])
                refine wpAnyH_take (i := 7) (v := ?vq1_7) (by simp only [List.getElem?_toArray, List.getElem?_cons_succ, List.getElem?_cons_zero]; rfl) (by kernel_rfl) (by kernel_rfl) (by kernel_rfl) (fun _ _ _ h => h) (.inl ⟨by rfl, ?tq1_7⟩) ?sq1_7 ?_
                case tq1_7 => (intro w' h; have FK := HPF.out w' h; clear h; go_split_ands; go_simp; try rfl)
                case sq1_7 => exact H00.out
                (try simp only [Act.put, List.setIfInBounds_toArray, List.set_cons_zero, List.set_cons_succ])
                refine wpAnyH_take (i := 8) (v := .bool false) (by simp only [List.getElem?_toArray, List.getElem?_cons_succ, List.getElem?_cons_zero]; rfl) (by kernel_rfl) (by kernel_rfl) (by kernel_rfl) (fun _ _ _ h => h) (.inl ⟨by rfl, ?tq1_8⟩) H00.out ?_
                case tq1_8 => (intro w' h; clear h; go_simp; (try (first | rfl | omega | (rw [decide_eq_false_iff_not]; omega) | (rw [decide_eq_true_eq]; omega))))
                (try simp only [Act.put, List.setIfInBounds_toArray, List.set_cons_zero, List.set_cons_succ])
                refine wpAnyH_take (i := 9) (v := ?vq1_9) (by simp only [List.getElem?_toArray, List.getElem?_cons_succ, List.getElem?_cons_zero]; rfl) (by kernel_rfl) (by kernel_rfl) (by kernel_rfl) (fun _ _ _ h => h) (.inl ⟨by rfl, ?tq1_9⟩) ?sq1_9 ?_
                case tq1_9 => (intro w' h; clear h; go_simp; try rfl)
                case sq1_9 => exact H00.out
                (try simp only [Act.put, List.setIfInBounds_toArray, List.set_cons_zero, List.set_cons_succ])
                refine wpAnyH_take (i := 10) (v := ?vq1_10) (by simp only [List.getElem?_toArray, List.getElem?_cons_succ, List.getElem?_cons_zero]; rfl) (by kernel_rfl) (by kernel_rfl) (by kernel_rfl) (fun _ _ _ h => h) (.inl ⟨by rfl, ?tq1_10⟩) ?sq1_10 ?_
                case tq1_10 => (intro w' h; clear h; go_simp; try rfl)
                case sq1_10 => exact H00.out
                (try simp only [Act.put, List.setIfInBounds_toArray, List.set_cons_zero, List.set_cons_succ])
                refine wpAnyH_take (i := 11) (v := undef) (by simp only [List.getElem?_toArray, List.getElem?_cons_succ, List.getElem?_cons_zero]; rfl) (by kernel_rfl) (by kernel_rfl) (by kernel_rfl) (fun _ _ _ h => h) (.inr ⟨by rfl, rfl⟩) H00.out ?_
                (try simp only [Act.put, List.setIfInBounds_toArray, List.set_cons_zero, List.set_cons_succ])
                refine wpAnyH_take (i := 12) (v := undef) (by simp only [List.getElem?_toArray, List.getElem?_cons_succ, List.getElem?_cons_zero]; rfl) (by kernel_rfl) (by kernel_rfl) (by kernel_rfl) (fun _ _ _ h => h) (.inr ⟨by rfl, rfl⟩) H00.out ?_
                (try simp only [Act.put, List.setIfInBounds_toArray, List.set_cons_zero, List.set_cons_succ])
                refine wpAnyH_take (i := 13) (v := undef) (by simp only [List.getElem?_toArray, List.getElem?_cons_succ, List.getElem?_cons_zero]; rfl) (by kernel_rfl) (by kernel_rfl) (by kernel_rfl) (fun _ _ _ h => h) (.inr ⟨by rfl, rfl⟩) H00.out ?_
                (try simp only [Act.put, List.setIfInBounds_toArray, List.set_cons_zero, List.set_cons_succ])
                refine wpAnyH_take (i := 14) (v := undef) (by simp only [List.getElem?_toArray, List.getElem?_cons_succ, List.getElem?_cons_zero]; rfl) (by kernel_rfl) (by kernel_rfl) (by kernel_rfl) (fun _ _ _ h => h) (.inr ⟨by rfl, rfl⟩) H00.out ?_
                (try simp only [Act.put, List.setIfInBounds_toArray, List.set_cons_zero, List.set_cons_succ])
                refine wpAnyH_take (i := 15) (v := undef) (by simp only [List.getElem?_toArray, List.getElem?_cons_succ, List.getElem?_cons_zero]; rfl) (by kernel_rfl) (by kernel_rfl) (by kernel_rfl) (fun _ _ _ h => h) (.inr ⟨by rfl, rfl⟩) H00.out ?_
                (try simp only [Act.put, List.setIfInBounds_toArray, List.set_cons_zero, List.set_cons_succ])
                refine wpAnyH_take (i := 16) (v := undef) (by simp only [List.getElem?_toArray, List.getElem?_cons_succ, List.getElem?_cons_zero]; rfl) (by kernel_rfl) (by kernel_rfl) (by kernel_rfl) (fun _ _ _ h => h) (.inr ⟨by rfl, rfl⟩) H00.out ?_
                (try simp only [Act.put, List.setIfInBounds_toArray, List.set_cons_zero, List.set_cons_succ])
                refine wpAnyH_take (i := 17) (v := undef) (by simp only [List.getElem?_toArray, List.getElem?_cons_succ, List.getElem?_cons_zero]; rfl) (by kernel_rfl) (by kernel_rfl) (by kernel_rfl) (fun _ _ _ h => h) (.inr ⟨by rfl, rfl⟩) H00.out ?_
                (try simp only [Act.put, List.setIfInBounds_toArray, List.set_cons_zero, List.set_cons_succ])
                refine wpAnyH_take (i := 18) (v := undef) (by simp only [List.getElem?_toArray, List.getElem?_cons_succ, List.getElem?_cons_zero]; rfl) (by kernel_rfl) (by kernel_rfl) (by kernel_rfl) (fun _ _ _ h => h) (.inr ⟨by rfl, rfl⟩) H00.out ?_
                (try simp only [Act.put, List.setIfInBounds_toArray, List.set_cons_zero, List.set_cons_succ])
                refine wpAnyH_take (i := 19) (v := undef) (by simp only [List.getElem?_toArray, List.getElem?_cons_succ, List.getElem?_cons_zero]; rfl) (by kernel_rfl) (by kernel_rfl) (by kernel_rfl) (fun _ _ _ h => h) (.inr ⟨by rfl, rfl⟩) H00.out ?_
                (try simp only [Act.put, List.setIfInBounds_toArray, List.set_cons_zero, List.set_cons_succ])
                refine wpAnyH_take (i := 20) (v := ?vq1_20) (by simp only [List.getElem?_toArray, List.getElem?_cons_succ, List.getElem?_cons_zero]; rfl) (by kernel_rfl) (by kernel_rfl) (by kernel_rfl) (fun _ _ _ h => h) (.inl ⟨by rfl, ?tq1_20⟩) ?sq1_20 ?_
                case tq1_20 => (intro w' h; clear h; go_simp; try rfl)
                case sq1_20 => exact H00.out
                (try simp only [Act.put, List.setIfInBounds_toArray, List.set_cons_zero, List.set_cons_succ])
                refine wpAnyH_take (i := 21) (v := ?vq1_21) (by simp only [List.getElem?_toArray, List.getElem?_cons_succ, List.getElem?_cons_zero]; rfl) (by kernel_rfl) (by kernel_rfl) (by kernel_rfl) (fun _ _ _ h => h) (.inl ⟨by rfl, ?tq1_21⟩) ?sq1_21 ?_
                case tq1_21 => (intro w' h; clear h; go_simp; try rfl)
                case sq1_21 => exact H00.out
                (try simp only [Act.put, List.setIfInBounds_toArray, List.set_cons_zero, List.set_cons_succ])
                refine wpAnyH_take (i := 22) (v := ?vq1_22) (by simp only [List.getElem?_toArray, List.getElem?_cons_succ, List.getElem?_cons_zero]; rfl) (by kernel_rfl) (by kernel_rfl) (by kernel_rfl) (fun _ _ _ h => h) (.inl ⟨by rfl, ?tq1_22⟩) ?sq1_22 ?_
                case tq1_22 => (intro w' h; clear h; go_simp; try rfl)
                case sq1_22 => exact H00.out
                (try simp only [Act.put, List.setIfInBounds_toArray, List.set_cons_zero, List.set_cons_succ])
                refine wpAnyH_take (i := 23) (v := ?vq1_23) (by simp only [List.getElem?_toArray, List.getElem?_cons_succ, List.getElem?_cons_zero]; rfl) (by kernel_rfl) (by kernel_rfl) (by kernel_rfl) (fun _ _ _ h => h) (.inl ⟨by rfl, ?tq1_23⟩) ?sq1_23 ?_
                case tq1_23 => (intro w' h; have FK := HPF.out w' h; clear h; go_split_ands; go_simp; try rfl)
                case sq1_23 => exact H00.out
                (try simp only [Act.put, List.setIfInBounds_toArray, List.set_cons_zero, List.set_cons_succ])
                refine wpAnyH_take (i := 24) (v := ?vq1_24) (by simp only [List.getElem?_toArray, List.getElem?_cons_succ, List.getElem?_cons_zero]; rfl) (by kernel_rfl) (by kernel_rfl) (by kernel_rfl) (fun _ _ _ h => h) (.inl ⟨by rfl, ?tq1_24⟩) ?sq1_24 ?_
                case tq1_24 => (intro w' h; have FK := HPF.out w' h; clear h; go_split_ands; go_simp; try rfl)
                case sq1_24 => exact H00.out
                (try simp only [Act.put, List.setIfInBounds_toArray, List.set_cons_zero, List.set_cons_succ])
                refine wpAnyH_take (i := 25) (v := .bool false) (by simp only [List.getElem?_toArray, List.getElem?_cons_succ, List.getElem?_cons_zero]; rfl) (by kernel_rfl) (by kernel_rfl) (by kernel_rfl) (fun _ _ _ h => h) (.inl ⟨by rfl, ?tq1_25⟩) H00.out ?_
                case tq1_25 => (intro w' h; clear h; go_simp; (try (first | rfl | omega | (rw [decide_eq_false_iff_not]; omega) | (rw [decide_eq_true_eq]; omega))))
                (try simp only [Act.put, List.setIfInBounds_toArray, List.set_cons_zero, List.set_cons_succ])
                refine wpAnyH_take (i := 26) (v := ?vq1_26) (by simp only [List.getElem?_toArray, List.getElem?_cons_succ, List.getElem?_cons_zero]; rfl) (by kernel_rfl) (by kernel_rfl) (by kernel_rfl) (fun _ _ _ h => h) (.inl ⟨by rfl, ?tq1_26⟩) ?sq1_26 ?_
                case tq1_26 => (intro w' h; clear h; go_simp; try rfl)
                case sq1_26 => exact H00.out
                (try simp only [Act.put, List.setIfInBounds_toArray, List.set_cons_zero, List.set_cons_succ])
                refine wpAnyH_take (i := 27) (v := ?vq1_27) (by simp only [List.getElem?_toArray, List.getElem?_cons_succ, List.getElem?_cons_zero]; rfl) (by kernel_rfl) (by kernel_rfl) (by kernel_rfl) (fun _ _ _ h => h) (.inl ⟨by rfl, ?tq1_27⟩) ?sq1_27 ?_
                case tq1_27 => (intro w' h; clear h; go_simp; try rfl)
                case sq1_27 => exact H00.out
                (try simp only [Act.put, List.setIfInBounds_toArray, List.set_cons_zero, List.set_cons_succ])
                refine wpAnyH_take (i := 28) (v := ?vq1_28) (by simp only [List.getElem?_toArray, List.getElem?_cons_succ, List.getElem?_cons_zero]; rfl) (by kernel_rfl) (by kernel_rfl) (by kernel_rfl) (fun _ _ _ h => h) (.inl ⟨by rfl, ?tq1_28⟩) ?sq1_28 ?_
                case tq1_28 => (intro w' h; have FK := HPF.out w' h; clear h; go_split_ands; go_simp; try rfl)
                case sq1_28 => exact H00.out
                (try simp only [Act.put, List.setIfInBounds_toArray, List.set_cons_zero, List.set_cons_succ])
                refine wpAnyH_take (i := 29) (v := ?vq1_29) (by simp only [List.getElem?_toArray, List.getElem?_cons_succ, List.getElem?_cons_zero]; rfl) (by kernel_rfl) (by kernel_rfl) (by kernel_rfl) (fun _ _ _ h => h) (.inl ⟨by rfl, ?tq1_29⟩) ?sq1_29 ?_
                case tq1_29 => (intro w' h; have FK := HPF.out w' h; clear h; go_split_ands; go_simp; try rfl)
                case sq1_29 => exact H00.out
                (try simp only [Act.put, List.setIfInBounds_toArray, List.set_cons_zero, List.set_cons_succ])
                refine wpAnyH_take (i := 30) (v := .bool true) (by simp only [List.getElem?_toArray, List.getElem?_cons_succ, List.getElem?_cons_zero]; rfl) (by kernel_rfl) (by kernel_rfl) (by kernel_rfl) (fun _ _ _ h => h) (.inl ⟨by rfl, ?tq1_30⟩) H00.out ?_
                case tq1_30 => (intro w' h; clear h; go_simp; (try (first | rfl | omega | (rw [decide_eq_false_iff_not]; omega) | (rw [decide_eq_true_eq]; omega))))
                (try simp only [Act.put, List.setIfInBounds_toArray, List.set_cons_zero, List.set_cons_succ])
                refine wpAnyH_take (i := 31) (v := ?vq1_31) (by simp only [List.getElem?_toArray, List.getElem?_cons_succ, List.getElem?_cons_zero]; rfl) (by kernel_rfl) (by kernel_rfl) (by kernel_rfl) (fun _ _ _ h => h) (.inl ⟨by rfl, ?tq1_31⟩) ?sq1_31 ?_
                case tq1_31 => (intro w' h; clear h; go_simp; try rfl)
                case sq1_31 => exact H00.out
                (try simp only [Act.put, List.setIfInBounds_toArray, List.set_cons_zero, List.set_cons_succ])
                refine wpAnyH_take (i := 32) (v := ?vq1_32) (by simp only [List.getElem?_toArray, List.getElem?_cons_succ, List.getElem?_cons_zero]; rfl) (by kernel_rfl) (by kernel_rfl) (by kernel_rfl) (fun _ _ _ h => h) (.inl ⟨by rfl, ?tq1_32⟩) ?sq1_32 ?_
                case tq1_32 => (intro w' h; clear h; go_simp; try rfl)
                case sq1_32 => exact H00.out
                (try simp only [Act.put, List.setIfInBounds_toArray, List.set_cons_zero, List.set_cons_succ])
                refine wpAnyH_take (i := 33) (v := ?vq1_33) (by simp only [List.getElem?_toArray, List.getElem?_cons_succ, List.getElem?_cons_zero]; rfl) (by kernel_rfl) (by kernel_rfl) (by kernel_rfl) (fun _ _ _ h => h) (.inl ⟨by rfl, ?tq1_33⟩) ?sq1_33 ?_
                case tq1_33 => (intro w' h; have FK := HPF.out w' h; clear h; go_split_ands; go_simp; try rfl)
                case sq1_33 => exact H00.out
                (try simp only [Act.put, List.setIfInBounds_toArray, List.set_cons_zero, List.set_cons_succ])
                refine wpAnyH_take (i := 36) (v := ?vq1_36) (by simp only [List.getElem?_toArray, List.getElem?_cons_succ, List.getElem?_cons_zero]; rfl) (by kernel_rfl) (by kernel_rfl) (by kernel_rfl) (fun _ _ _ h => h) (.inl ⟨by rfl, ?tq1_36⟩) ?sq1_36 ?_
                case tq1_36 => (intro w' h; clear h; go_simp; try rfl)
                case sq1_36 => exact H00.out
                (try simp only [Act.put, List.setIfInBounds_toArray, List.set_cons_zero, List.set_cons_succ])
                have Hbr11 := Lib.hid (show Below wr.heap.size wr (wr.drew.alloc (.cells #[.int .i8 a0, .int .i8 a1, .int .i8 a2, .int .i8 a3] 25)) from below_al H00.out _)
                have Hkr11 := Lib.hid (heap_alloc_new wr.drew (.cells #[.int .i8 a0, .int .i8 a1, .int .i8 a2, .int .i8 a3] 25))
                refine wpAnyH_one (i := 34) (by kernel_rfl) ?_
                refine wpOp_value (v := .slice (some ⟨wr.drew.heap.size, 0, none⟩) 1 1) (w' := wr.drew.alloc (.cells #[.int .i8 a0, .int .i8 a1, .int .i8 a2, .int .i8 a3] 25)) (by simp only [List.getElem?_toArray, List.getElem?_cons_succ, List.getElem?_cons_zero]; rfl) (by rfl) ?mvr11 Hbr11.out ?_
                case mvr11 => (go_simp; try rfl)
                (try simp only [Act.put, List.setIfInBounds_toArray, List.set_cons_zero, List.set_cons_succ])
                obtain ⟨wxr11, hwx⟩ : ∃ x, x = wr.drew.alloc (.cells #[.int .i8 a0, .int .i8 a1, .int .i8 a2, .int .i8 a3] 25) := ⟨_, rfl⟩
                obtain ⟨bxr11, hbx⟩ : ∃ x, x = wr.drew.heap.size := ⟨_, rfl⟩
                rw [← hwx] at Hbr11 Hkr11 ⊢
                rw [← hbx] at Hkr11 ⊢
                clear hwx hbx
                refine wpAnyH_one (i := 35) (by kernel_rfl) ?_
                refine wpOp_call (by simp only [List.getElem?_toArray, List.getElem?_cons_succ, List.getElem?_cons_zero]; rfl) (by rfl) (by go_simp; first | exact ⟨rfl, rfl⟩ | rfl) ?_
                refine (mgB1 a0 a1 a2 a3 (cnt a0) (cnt a1) (cnt a2) (cnt a3) _ _ (merge_cnt ⟨a0, a1, a2, a3⟩) Hkr11.out).mono ?_
                rintro e wyr12 ⟨rfl, hb⟩
                have Hcr12 := Lib.hid (below_via hb Hbr11.out)
                clear hb
                refine ⟨_, rfl, Hcr12.out, ?_⟩
                (try simp only [Act.put, List.setIfInBounds_toArray, List.set_cons_zero, List.set_cons_succ])
                refine wpAnyH_take (i := 37) (v := .int .i8 0) (by simp only [List.getElem?_toArray, List.getElem?_cons_succ, List.getElem?_cons_zero]; rfl) (by kernel_rfl) (by kernel_rfl) (by kernel_rfl) (fun _ _ _ h => h) (.inl ⟨by rfl, ?tq1_37⟩) Hcr12.out ?_
                case tq1_37 => (intro w' h; clear h; go_simp; (try (first | rfl | omega | (rw [decide_eq_false_iff_not]; omega) | (rw [decide_eq_true_eq]; omega))))
                (try simp only [Act.put, List.setIfInBounds_toArray, List.set_cons_zero, List.set_cons_succ])
                refine wpAnyH_take (i := 38) (v := .bool false) (by simp only [List.getElem?_toArray, List.getElem?_cons_succ, List.getElem?_cons_zero]; rfl) (by kernel_rfl) (by kernel_rfl) (by kernel_rfl) (fun _ _ _ h => h) (.inl ⟨by rfl, ?tq1_38⟩) Hcr12.out ?_
                case tq1_38 => (intro w' h; clear h; go_simp; (try (first | rfl | omega | (rw [decide_eq_false_iff_not]; omega) | (rw [decide_eq_true_eq]; omega))))
                (try simp only [Act.put, List.setIfInBounds_toArray, List.set_cons_zero, List.set_cons_succ])
                refine wpAnyH_take (i := 39) (v := ?vq1_39) (by simp only [List.getElem?_toArray, List.getElem?_cons_succ, List.getElem?_cons_zero]; rfl) (by kernel_rfl) (by kernel_rfl) (by kernel_rfl) (fun _ _ _ h => h) (.inl ⟨by rfl, ?tq1_39⟩) ?sq1_39 ?_
                case tq1_39 => (intro w' h; clear h; go_simp; try rfl)
                case sq1_39 => exact Hcr12.out
                (try simp only [Act.put, List.setIfInBounds_toArray, List.set_cons_zero, List.set_cons_succ])
                refine wpAnyH_take (i := 40) (v := ?vq1_40) (by simp only [List.getElem?_toArray, List.getElem?_cons_succ, List.getElem?_cons_zero]; rfl) (by kernel_rfl) (by kernel_rfl) (by kernel_rfl) (fun _ _ _ h => h) (.inl ⟨by rfl, ?tq1_40⟩) ?sq1_40 ?_
                case tq1_40 => (intro w' h; clear h; go_simp; try rfl)
                case sq1_40 => exact Hcr12.out
                (try simp only [Act.put, List.setIfInBounds_toArray, List.set_cons_zero, List.set_cons_succ])
                refine wpAnyH_done (by kernel_rfl) (NoPanic.normal ?_) _
                go_wp2
                go_roundw
                case rel => exact ⟨k + 1, by omega, by go_num, HZF.out _ Hcr12.out, below_via Hcr12.out BX⟩
                case measure => simp [intOf]; omega
              · have e : cnt v = v := cnt_in _ ⟨h, h'⟩
                have hix := HIX.out
                rw [e] at hix
                clear e HIX
                go_upto_region 15 with (fail)
                have H00 := Lib.hid (Below.drew (Below.refl wr.heap.size wr))
                refine wp_region_noPanic ?_
                refine wp_region_held (S := fun w' => Below wr.heap.size wr w') (by kernel_rfl) ?_
                change wpAnyH _ _ _ _ _ 41 (Array.replicate 41 false) _ _
                refine wpAnyH_take (i := 0) (v := ?vq2_0) (by simp only [List.getElem?_toArray, List.getElem?_cons_succ, List.getElem?_cons_zero]; rfl) (by kernel_rfl) (by kernel_rfl) (by kernel_rfl) (fun _ _ _ h => h) (.inl ⟨by rfl, ?tq2_0⟩) ?sq2_0 ?_
                case tq2_0 => (intro w' h; clear h; go_simp; try rfl)
                case sq2_0 => exact H00.out
                (try simp only [Act.put, List.setIfInBounds_toArray, List.set_cons_zero, List.set_cons_succ])
                refine wpAnyH_take (i := 1) (v := ?vq2_1) (by simp only [List.getElem?_toArray, List.getElem?_cons_succ, List.getElem?_cons_zero]; rfl) (by kernel_rfl) (by kernel_rfl) (by kernel_rfl) (fun _ _ _ h => h) (.inl ⟨by rfl, ?tq2_1⟩) ?sq2_1 ?_
                case tq2_1 => (intro w' h; have FK := HPF.out w' h; clear h; go_split_ands; go_simp; try rfl)
                case sq2_1 => exact H00.out
                (try simp only [Act.put, List.setIfInBounds_toArray, List.set_cons_zero, List.set_cons_succ])
                refine wpAnyH_take (i := 2) (v := ?vq2_2) (by simp only [List.getElem?_toArray, List.getElem?_cons_succ, List.getElem?_cons_zero]; rfl) (by kernel_rfl) (by kernel_rfl) (by kernel_rfl) (fun _ _ _ h => h) (.inl ⟨by rfl, ?tq2_2⟩) ?sq2_2 ?_
                case tq2_2 => (intro w' h; have FK := HPF.out w' h; clear h; go_split_ands; go_simp; try rfl)
                case sq2_2 => exact H00.out
                (try simp only [Act.put, List.setIfInBounds_toArray, List.set_cons_zero, List.set_cons_succ])
                refine wpAnyH_take (i := 3) (v := .bool true) (by simp only [List.getElem?_toArray, List.getElem?_cons_succ, List.getElem?_cons_zero]; rfl) (by kernel_rfl) (by kernel_rfl) (by kernel_rfl) (fun _ _ _ h => h) (.inl ⟨by rfl, ?tq2_3⟩) H00.out ?_
                case tq2_3 => (intro w' h; clear h; go_simp; (try (first | rfl | omega | (rw [decide_eq_false_iff_not]; omega) | (rw [decide_eq_true_eq]; omega))))
                (try simp only [Act.put, List.setIfInBounds_toArray, List.set_cons_zero, List.set_cons_succ])
                refine wpAnyH_take (i := 4) (v := ?vq2_4) (by simp only [List.getElem?_toArray, List.getElem?_cons_succ, List.getElem?_cons_zero]; rfl) (by kernel_rfl) (by kernel_rfl) (by kernel_rfl) (fun _ _ _ h => h) (.inl ⟨by rfl, ?tq2_4⟩) ?sq2_4 ?_
                case tq2_4 => (intro w' h; clear h; go_simp; try rfl)
                case sq2_4 => exact H00.out
                (try simp only [Act.put, List.setIfInBounds_toArray, List.set_cons_zero, List.set_cons_succ])
                refine wpAnyH_take (i := 5) (v := ?vq2_5) (by simp only [List.getElem?_toArray, List.getElem?_cons_succ, List.getElem?_cons_zero]; rfl) (by kernel_rfl) (by kernel_rfl) (by kernel_rfl) (fun _ _ _ h => h) (.inl ⟨by rfl, ?tq2_5⟩) ?sq2_5 ?_
                case tq2_5 => (intro w' h; clear h; go_simp; try rfl)
                case sq2_5 => exact H00.out
                (try simp only [Act.put, List.setIfInBounds_toArray, List.set_cons_zero, List.set_cons_succ])
                refine wpAnyH_take (i := 6) (v := ?vq2_6) (by simp only [List.getElem?_toArray, List.getElem?_cons_succ, List.getElem?_cons_zero]; rfl) (by kernel_rfl) (by kernel_rfl) (by kernel_rfl) (fun _ _ _ h => h) (.inl ⟨by rfl, ?tq2_6⟩) ?sq2_6 ?_
                case tq2_6 => (intro w' h; have FK := HPF.out w' h; clear h; go_split_ands; go_simp; try rfl)
                case sq2_6 => exact H00.out
                (try simp only [Act.put, List.setIfInBounds_toArray, List.set_cons_zero, List.set_cons_succ])
                refine wpAnyH_take (i := 7) (v := ?vq2_7) (by simp only [List.getElem?_toArray, List.getElem?_cons_succ, List.getElem?_cons_zero]; rfl) (by kernel_rfl) (by kernel_rfl) (by kernel_rfl) (fun _ _ _ h => h) (.inl ⟨by rfl, ?tq2_7⟩) ?sq2_7 ?_
                case tq2_7 => (intro w' h; have FK := HPF.out w' h; clear h; go_split_ands; go_simp; try rfl)
                case sq2_7 => exact H00.out
                (try simp only [Act.put, List.setIfInBounds_toArray, List.set_cons_zero, List.set_cons_succ])
                refine wpAnyH_take (i := 8) (v := .bool true) (by simp only [List.getElem?_toArray, List.getElem?_cons_succ, List.getElem?_cons_zero]; rfl) (by kernel_rfl) (by kernel_rfl) (by kernel_rfl) (fun _ _ _ h => h) (.inl ⟨by rfl, ?tq2_8⟩) H00.out ?_
                case tq2_8 => (intro w' h; clear h; go_simp; (try (first | rfl | omega | (rw [decide_eq_false_iff_not]; omega) | (rw [decide_eq_true_eq]; omega))))
                (try simp only [Act.put, List.setIfInBounds_toArray, List.set_cons_zero, List.set_cons_succ])
                refine wpAnyH_take (i := 9) (v := ?vq2_9) (by simp only [List.getElem?_toArray, List.getElem?_cons_succ, List.getElem?_cons_zero]; rfl) (by kernel_rfl) (by kernel_rfl) (by kernel_rfl) (fun _ _ _ h => h) (.inl ⟨by rfl, ?tq2_9⟩) ?sq2_9 ?_
                case tq2_9 => (intro w' h; clear h; go_simp; try rfl)
                case sq2_9 => exact H00.out
                (try simp only [Act.put, List.setIfInBounds_toArray, List.set_cons_zero, List.set_cons_succ])
                refine wpAnyH_take (i := 10) (v := ?vq2_10) (by simp only [List.getElem?_toArray, List.getElem?_cons_succ, List.getElem?_cons_zero]; rfl) (by kernel_rfl) (by kernel_rfl) (by kernel_rfl) (fun _ _ _ h => h) (.inl ⟨by rfl, ?tq2_10⟩) ?sq2_10 ?_
                case tq2_10 => (intro w' h; clear h; go_simp; try rfl)
                case sq2_10 => exact H00.out
                (try simp only [Act.put, List.setIfInBounds_toArray, List.set_cons_zero, List.set_cons_succ])
                refine wpAnyH_take (i := 11) (v := ?vq2_11) (by simp only [List.getElem?_toArray, List.getElem?_cons_succ, List.getElem?_cons_zero]; rfl) (by kernel_rfl) (by kernel_rfl) (by kernel_rfl) (fun _ _ _ h => h) (.inl ⟨by rfl, ?tq2_11⟩) ?sq2_11 ?_
                case tq2_11 => (intro w' h; have FK := HPF.out w' h; clear h; go_split_ands; go_simp; try rfl)
                case sq2_11 => exact H00.out
                (try simp only [Act.put, List.setIfInBounds_toArray, List.set_cons_zero, List.set_cons_succ])
                refine wpAnyH_take (i := 14) (v := ?vq2_14) (by simp only [List.getElem?_toArray, List.getElem?_cons_succ, List.getElem?_cons_zero]; rfl) (by kernel_rfl) (by kernel_rfl) (by kernel_rfl) (fun _ _ _ h => h) (.inl ⟨by rfl, ?tq2_14⟩) ?sq2_14 ?_
                case tq2_14 => (intro w' h; clear h; go_simp; try rfl)
                case sq2_14 => exact H00.out
                (try simp only [Act.put, List.setIfInBounds_toArray, List.set_cons_zero, List.set_cons_succ])
                refine wpAnyH_take (i := 16) (v := ?vq2_16) (by simp only [List.getElem?_toArray, List.getElem?_cons_succ, List.getElem?_cons_zero]; rfl) (by kernel_rfl) (by kernel_rfl) (by kernel_rfl) (fun _ _ _ h => h) (.inl ⟨by rfl, ?tq2_16⟩) ?sq2_16 ?_
                case tq2_16 => (intro w' h; clear h; go_simp; try rfl)
                case sq2_16 => exact H00.out
                (try simp only [Act.put, List.setIfInBounds_toArray, List.set_cons_zero, List.set_cons_succ])
                refine wpAnyH_take (i := 17) (v := ?vq2_17) (by simp only [List.getElem?_toArray, List.getElem?_cons_succ, List.getElem?_cons_zero]; rfl) (by kernel_rfl) (by kernel_rfl) (by kernel_rfl) (fun _ _ _ h => h) (.inl ⟨by rfl, ?tq2_17⟩) ?sq2_17 ?_
                case tq2_17 => (intro w' h; have FK := HPF.out w' h; clear h; go_split_ands; go_simp; try rfl)
                case sq2_17 => exact H00.out
                (try simp only [Act.put, List.setIfInBounds_toArray, List.set_cons_zero, List.set_cons_succ])
                refine wpAnyH_take (i := 18) (v := ?vq2_18) (by simp only [List.getElem?_toArray, List.getElem?_cons_succ, List.getElem?_cons_zero]; rfl) (by kernel_rfl) (by kernel_rfl) (by kernel_rfl) (fun _ _ _ h => h) (.inl ⟨by rfl, ?tq2_18⟩) ?sq2_18 ?_
                case tq2_18 => (intro w' h; have FK := HPF.out w' h; clear h; go_split_ands; go_simp; try rfl)
                case sq2_18 => exact H00.out
                (try simp only [Act.put, List.setIfInBounds_toArray, List.set_cons_zero, List.set_cons_succ])
                have Hbr21 := Lib.hid (show Below wr.heap.size wr (wr.drew.alloc (.cells #[.int .i8 a0, .int .i8 a1, .int .i8 a2, .int .i8 a3] 25)) from below_al H00.out _)
                have Hkr21 := Lib.hid (heap_alloc_new wr.drew (.cells #[.int .i8 a0, .int .i8 a1, .int .i8 a2, .int .i8 a3] 25))
                refine wpAnyH_one (i := 12) (by kernel_rfl) ?_
                refine wpOp_value (v := .slice (some ⟨wr.drew.heap.size, 0, none⟩) 1 1) (w' := wr.drew.alloc (.cells #[.int .i8 a0, .int .i8 a1, .int .i8 a2, .int .i8 a3] 25)) (by simp only [List.getElem?_toArray, List.getElem?_cons_succ, List.getElem?_cons_zero]; rfl) (by rfl) ?mvr21 Hbr21.out ?_
                case mvr21 => (go_simp; try rfl)
                (try simp only [Act.put, List.setIfInBounds_toArray, List.set_cons_zero, List.set_cons_succ])
                obtain ⟨wxr21, hwx⟩ : ∃ x, x = wr.drew.alloc (.cells #[.int .i8 a0, .int .i8 a1, .int .i8 a2, .int .i8 a3] 25) := ⟨_, rfl⟩
                obtain ⟨bxr21, hbx⟩ : ∃ x, x = wr.drew.heap.size := ⟨_, rfl⟩
                rw [← hwx] at Hbr21 Hkr21 ⊢
                rw [← hbx] at Hkr21 ⊢
                clear hwx hbx
                refine wpAnyH_one (i := 13) (by kernel_rfl) ?_
                refine wpOp_call (by simp only [List.getElem?_toArray, List.getElem?_cons_succ, List.getElem?_cons_zero]; rfl) (by rfl) (by go_simp; first | exact ⟨rfl, rfl⟩ | rfl) ?_
                refine (mgB1 a0 a1 a2 a3 (cnt a0) (cnt a1) (cnt a2) (cnt a3) _ _ (merge_cnt ⟨a0, a1, a2, a3⟩) Hkr21.out).mono ?_
                rintro e wyr22 ⟨rfl, hb⟩
                have Hcr22 := Lib.hid (below_via hb Hbr21.out)
                clear hb
                refine ⟨_, rfl, Hcr22.out, ?_⟩
                (try simp only [Act.put, List.setIfInBounds_toArray, List.set_cons_zero, List.set_cons_succ])
                refine wpAnyH_take (i := 15) (v := .int .i8 v) (by simp only [List.getElem?_toArray, List.getElem?_cons_succ, List.getElem?_cons_zero]; rfl) (by kernel_rfl) (by kernel_rfl) (by kernel_rfl) (fun _ _ _ h => h) (.inl ⟨by rfl, ?tq2_15⟩) Hcr22.out ?_
                case tq2_15 => (intro w' h; clear h; go_simp; (try (first | rfl | omega | (rw [decide_eq_false_iff_not]; omega) | (rw [decide_eq_true_eq]; omega))))
                (try simp only [Act.put, List.setIfInBounds_toArray, List.set_cons_zero, List.set_cons_succ])
                refine wpAnyH_take (i := 19) (v := .bool false) (by simp only [List.getElem?_toArray, List.getElem?_cons_succ, List.getElem?_cons_zero]; rfl) (by kernel_rfl) (by kernel_rfl) (by kernel_rfl) (fun _ _ _ h => h) (.inl ⟨by rfl, ?tq2_19⟩) Hcr22.out ?_
                case tq2_19 => (intro w' h; clear h; go_simp; (try (first | rfl | omega | (rw [decide_eq_false_iff_not]; omega) | (rw [decide_eq_true_eq]; omega))))
                (try simp only [Act.put, List.setIfInBounds_toArray, List.set_cons_zero, List.set_cons_succ])
                refine wpAnyH_take (i := 20) (v := ?vq2_20) (by simp only [List.getElem?_toArray, List.getElem?_cons_succ, List.getElem?_cons_zero]; rfl) (by kernel_rfl) (by kernel_rfl) (by kernel_rfl) (fun _ _ _ h => h) (.inl ⟨by rfl, ?tq2_20⟩) ?sq2_20 ?_
                case tq2_20 => (intro w' h; clear h; go_simp; try rfl)
                case sq2_20 => exact Hcr22.out
                (try simp only [Act.put, List.setIfInBounds_toArray, List.set_cons_zero, List.set_cons_succ])
                refine wpAnyH_take (i := 21) (v := ?vq2_21) (by simp only [List.getElem?_toArray, List.getElem?_cons_succ, List.getElem?_cons_zero]; rfl) (by kernel_rfl) (by kernel_rfl) (by kernel_rfl) (fun _ _ _ h => h) (.inl ⟨by rfl, ?tq2_21⟩) ?sq2_21 ?_
                case tq2_21 => (intro w' h; clear h; go_simp; try rfl)
                case sq2_21 => exact Hcr22.out
                (try simp only [Act.put, List.setIfInBounds_toArray, List.set_cons_zero, List.set_cons_succ])
                refine wpAnyH_take (i := 22) (v := ?vq2_22) (by simp only [List.getElem?_toArray, List.getElem?_cons_succ, List.getElem?_cons_zero]; rfl) (by kernel_rfl) (by kernel_rfl) (by kernel_rfl) (fun _ _ _ h => h) (.inl ⟨by rfl, ?tq2_22⟩) ?sq2_22 ?_
                case tq2_22 => (intro w' h; clear h; go_simp; try rfl)
                case sq2_22 => exact Hcr22.out
                (try simp only [Act.put, List.setIfInBounds_toArray, List.set_cons_zero, List.set_cons_succ])
                refine wpAnyH_take (i := 23) (v := ?vq2_23) (by simp only [List.getElem?_toArray, List.getElem?_cons_succ, List.getElem?_cons_zero]; rfl) (by kernel_rfl) (by kernel_rfl) (by kernel_rfl) (fun _ _ _ h => h) (.inl ⟨by rfl, ?tq2_23⟩) ?sq2_23 ?_
                case tq2_23 => (intro w' h; have FK := HPF.out w' h; clear h; go_split_ands; go_simp; try rfl)
                case sq2_23 => exact Hcr22.out
                (try simp only [Act.put, List.setIfInBounds_toArray, List.set_cons_zero, List.set_cons_succ])
                refine wpAnyH_take (i := 24) (v := ?vq2_24) (by simp only [List.getElem?_toArray, List.getElem?_cons_succ, List.getElem?_cons_zero]; rfl) (by kernel_rfl) (by kernel_rfl) (by kernel_rfl) (fun _ _ _ h => h) (.inl ⟨by rfl, ?tq2_24⟩) ?sq2_24 ?_
                case tq2_24 => (intro w' h; have FK := HPF.out w' h; clear h; go_split_ands; go_simp; try rfl)
                case sq2_24 => exact Hcr22.out
                (try simp only [Act.put, List.setIfInBounds_toArray, List.set_cons_zero, List.set_cons_succ])
                refine wpAnyH_take (i := 25) (v := .bool false) (by simp only [List.getElem?_toArray, List.getElem?_cons_succ, List.getElem?_cons_zero]; rfl) (by kernel_rfl) (by kernel_rfl) (by kernel_rfl) (fun _ _ _ h => h) (.inl ⟨by rfl, ?tq2_25⟩) Hcr22.out ?_
                case tq2_25 => (intro w' h; clear h; go_simp; (try (first | rfl | omega | (rw [decide_eq_false_iff_not]; omega) | (rw [decide_eq_true_eq]; omega))))
                (try simp only [Act.put, List.setIfInBounds_toArray, List.set_cons_zero, List.set_cons_succ])
                refine wpAnyH_take (i := 26) (v := ?vq2_26) (by simp only [List.getElem?_toArray, List.getElem?_cons_succ, List.getElem?_cons_zero]; rfl) (by kernel_rfl) (by kernel_rfl) (by kernel_rfl) (fun _ _ _ h => h) (.inl ⟨by rfl, ?tq2_26⟩) ?sq2_26 ?_
                case tq2_26 => (intro w' h; clear h; go_simp; try rfl)
                case sq2_26 => exact Hcr22.out
                (try simp only [Act.put, List.setIfInBounds_toArray, List.set_cons_zero, List.set_cons_succ])
                refine wpAnyH_take (i := 27) (v := ?vq2_27) (by simp only [List.getElem?_toArray, List.getElem?_cons_succ, List.getElem?_cons_zero]; rfl) (by kernel_rfl) (by kernel_rfl) (by kernel_rfl) (fun _ _ _ h => h) (.inl ⟨by rfl, ?tq2_27⟩) ?sq2_27 ?_
                case tq2_27 => (intro w' h; clear h; go_simp; try rfl)
                case sq2_27 => exact Hcr22.out
                (try simp only [Act.put, List.setIfInBounds_toArray, List.set_cons_zero, List.set_cons_succ])
                refine wpAnyH_take (i := 28) (v := ?vq2_28) (by simp only [List.getElem?_toArray, List.getElem?_cons_succ, List.getElem?_cons_zero]; rfl) (by kernel_rfl) (by kernel_rfl) (by kernel_rfl) (fun _ _ _ h => h) (.inl ⟨by rfl, ?tq2_28⟩) ?sq2_28 ?_
                case tq2_28 => (intro w' h; have FK := HPF.out w' h; clear h; go_split_ands; go_simp; try rfl)
                case sq2_28 => exact Hcr22.out
                (try simp only [Act.put, List.setIfInBounds_toArray, List.set_cons_zero, List.set_cons_succ])
                refine wpAnyH_take (i := 29) (v := ?vq2_29) (by simp only [List.getElem?_toArray, List.getElem?_cons_succ, List.getElem?_cons_zero]; rfl) (by kernel_rfl) (by kernel_rfl) (by kernel_rfl) (fun _ _ _ h => h) (.inl ⟨by rfl, ?tq2_29⟩) ?sq2_29 ?_
                case tq2_29 => (intro w' h; have FK := HPF.out w' h; clear h; go_split_ands; go_simp; try rfl)
                case sq2_29 => exact Hcr22.out
                (try simp only [Act.put, List.setIfInBounds_toArray, List.set_cons_zero, List.set_cons_succ])
                refine wpAnyH_take (i := 30) (v := .bool false) (by simp only [List.getElem?_toArray, List.getElem?_cons_succ, List.getElem?_cons_zero]; rfl) (by kernel_rfl) (by kernel_rfl) (by kernel_rfl) (fun _ _ _ h => h) (.inl ⟨by rfl, ?tq2_30⟩) Hcr22.out ?_
                case tq2_30 => (intro w' h; clear h; go_simp; (try (first | rfl | omega | (rw [decide_eq_false_iff_not]; omega) | (rw [decide_eq_true_eq]; omega))))
                (try simp only [Act.put, List.setIfInBounds_toArray, List.set_cons_zero, List.set_cons_succ])
                refine wpAnyH_take (i := 31) (v := ?vq2_31) (by simp only [List.getElem?_toArray, List.getElem?_cons_succ, List.getElem?_cons_zero]; rfl) (by kernel_rfl) (by kernel_rfl) (by kernel_rfl) (fun _ _ _ h => h) (.inl ⟨by rfl, ?tq2_31⟩) ?sq2_31 ?_
                case tq2_31 => (intro w' h; clear h; go_simp; try rfl)
                case sq2_31 => exact Hcr22.out
                (try simp only [Act.put, List.setIfInBounds_toArray, List.set_cons_zero, List.set_cons_succ])
                refine wpAnyH_take (i := 32) (v := ?vq2_32) (by simp only [List.getElem?_toArray, List.getElem?_cons_succ, List.getElem?_cons_zero]; rfl) (by kernel_rfl) (by kernel_rfl) (by kernel_rfl) (fun _ _ _ h => h) (.inl ⟨by rfl, ?tq2_32⟩) ?sq2_32 ?_
                case tq2_32 => (intro w' h; clear h; go_simp; try rfl)
                case sq2_32 => exact Hcr22.out
                (try simp only [Act.put, List.setIfInBounds_toArray, List.set_cons_zero, List.set_cons_succ])
                refine wpAnyH_take (i := 33) (v := undef) (by simp only [List.getElem?_toArray, List.getElem?_cons_succ, List.getElem?_cons_zero]; rfl) (by kernel_rfl) (by kernel_rfl) (by kernel_rfl) (fun _ _ _ h => h) (.inr ⟨by rfl, rfl⟩) Hcr22.out ?_
                (try simp only [Act.put, List.setIfInBounds_toArray, List.set_cons_zero, List.set_cons_succ])
                refine wpAnyH_take (i := 34) (v := undef) (by simp only [List.getElem?_toArray, List.getElem?_cons_succ, List.getElem?_cons_zero]; rfl) (by kernel_rfl) (by kernel_rfl) (by kernel_rfl) (fun _ _ _ h => h) (.inr ⟨by rfl, rfl⟩) Hcr22.out ?_
                (try simp only [Act.put, List.setIfInBounds_toArray, List.set_cons_zero, List.set_cons_succ])
                refine wpAnyH_take (i := 35) (v := undef) (by simp only [List.getElem?_toArray, List.getElem?_cons_succ, List.getElem?_cons_zero]; rfl) (by kernel_rfl) (by kernel_rfl) (by kernel_rfl) (fun _ _ _ h => h) (.inr ⟨by rfl, rfl⟩) Hcr22.out ?_
                (try simp only [Act.put, List.setIfInBounds_toArray, List.set_cons_zero, List.set_cons_succ])
                refine wpAnyH_take (i := 36) (v := undef) (by simp only [List.getElem?_toArray, List.getElem?_cons_succ, List.getElem?_cons_zero]; rfl) (by kernel_rfl) (by kernel_rfl) (by kernel_rfl) (fun _ _ _ h => h) (.inr ⟨by rfl, rfl⟩) Hcr22.out ?_
                (try simp only [Act.put, List.setIfInBounds_toArray, List.set_cons_zero, List.set_cons_succ])
                refine wpAnyH_take (i := 37) (v := undef) (by simp only [List.getElem?_toArray, List.getElem?_cons_succ, List.getElem?_cons_zero]; rfl) (by kernel_rfl) (by kernel_rfl) (by kernel_rfl) (fun _ _ _ h => h) (.inr ⟨by rfl, rfl⟩) Hcr22.out ?_
                (try simp only [Act.put, List.setIfInBounds_toArray, List.set_cons_zero, List.set_cons_succ])
                refine wpAnyH_take (i := 38) (v := undef) (by simp only [List.getElem?_toArray, List.getElem?_cons_succ, List.getElem?_cons_zero]; rfl) (by kernel_rfl) (by kernel_rfl) (by kernel_rfl) (fun _ _ _ h => h) (.inr ⟨by rfl, rfl⟩) Hcr22.out ?_
                (try simp only [Act.put, List.setIfInBounds_toArray, List.set_cons_zero, List.set_cons_succ])
                refine wpAnyH_take (i := 39) (v := ?vq2_39) (by simp only [List.getElem?_toArray, List.getElem?_cons_succ, List.getElem?_cons_zero]; rfl) (by kernel_rfl) (by kernel_rfl) (by kernel_rfl) (fun _ _ _ h => h) (.inl ⟨by rfl, ?tq2_39⟩) ?sq2_39 ?_
                case tq2_39 => (intro w' h; clear h; go_simp; try rfl)
                case sq2_39 => exact Hcr22.out
                (try simp only [Act.put, List.setIfInBounds_toArray, List.set_cons_zero, List.set_cons_succ])
                refine wpAnyH_take (i := 40) (v := ?vq2_40) (by simp only [List.getElem?_toArray, List.getElem?_cons_succ, List.getElem?_cons_zero]; rfl) (by kernel_rfl) (by kernel_rfl) (by kernel_rfl) (fun _ _ _ h => h) (.inl ⟨by rfl, ?tq2_40⟩) ?sq2_40 ?_
                case tq2_40 => (intro w' h; clear h; go_simp; try rfl)
                case sq2_40 => exact Hcr22.out
                (try simp only [Act.put, List.setIfInBounds_toArray, List.set_cons_zero, List.set_cons_succ])
                refine wpAnyH_done (by kernel_rfl) (NoPanic.normal ?_) _
                go_wp2
                go_roundw
                case rel => exact ⟨k + 1, by omega, by go_num, HZF.out _ Hcr22.out, below_via Hcr22.out BX⟩
                case measure => simp [intOf]; omega
            · clear hk
              go_wp2_with fail
              refine (wakes_any _).mono ?_
              rintro e w12 ⟨rfl, hb12⟩
              have B12 := below_via hb12 BX
              go_wp2
              go_ret
              exact ⟨rfl, B12⟩⟩
end Go.Proofs.Ytebalohoblaedaa
