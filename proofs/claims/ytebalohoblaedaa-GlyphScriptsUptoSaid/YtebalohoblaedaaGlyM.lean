/- Layer 13: At. -/
import Derived.Test.YtebalohoblaedaaGlyL
import Derived.IntWalk
namespace Go.Proofs.Ytebalohoblaedaa
open Go.RowKit
set_option linter.unusedVariables false
set_option linter.unusedSimpArgs false

def noArms (a : A4) : Bool := a.u == 0 && a.r == 0 && a.d == 0 && a.l == 0
theorem rune4 (a b c d : Int) (w : World) : Calls Try.prog 14 #[.agg #[.int .i8 a, .int .i8 b, .int .i8 c, .int .i8 d]] w fun e w' => e = .returned (.int .i32 (runeA ⟨a, b, c, d⟩)) ∧ Below w.heap.size w w' := rune_any ⟨a, b, c, d⟩ w
theorem at_nil (x y : Int) (w : World) : Calls Try.prog 25 #[.pointer none, .int .i64 x, .int .i64 y] w fun e w' => e = .returned (.tuple #[.int .i32 0, .bool false]) ∧ Below w.heap.size w w' := by
  go_enter Try.func25, Try.ntmps25
  go_wp2
  go_quiet (fail)
  all_goals go_wp2
  all_goals go_ret2
  all_goals exact ⟨rfl, below_drewN (Below.refl _ _) _⟩
set_option maxRecDepth 100000 in
set_option maxHeartbeats 8000000 in
theorem at_out (g gc W H : Nat) (L : List A4) (x y : Int) (w : World) (hp : PlanAt w g gc W H L) (h : x < 0 ∨ (W : Int) ≤ x ∨ y < 0 ∨ (H : Int) ≤ y) : Calls Try.prog 25 #[.pointer (some ⟨g, 0, none⟩), .int .i64 x, .int .i64 y] w fun e w' => e = .returned (.tuple #[.int .i32 0, .bool false]) ∧ Below w.heap.size w w' := by
  obtain ⟨hg, hgc, c0, c1, c2⟩ := hp.cells
  clear hp
  by_cases h1 : x < 0
  · clear h
    have d1 : decide (x < 0) = true := by simpa using h1
    go_enter Try.func25, Try.ntmps25
    go_wp2
    go_quiet (fail)
    all_goals go_wp2
    all_goals go_ret2
    all_goals exact ⟨rfl, below_drewN (Below.refl _ _) _⟩
  have d1 : decide (x < 0) = false := by simpa using h1
  by_cases h2 : (W : Int) ≤ x
  · clear h
    have d2 : decide ((W : Int) ≤ x) = true := by simpa using h2
    go_enter Try.func25, Try.ntmps25
    go_wp2
    go_quiet (fail)
    all_goals go_wp2
    all_goals go_ret2
    all_goals exact ⟨rfl, below_drewN (Below.refl _ _) _⟩
  have d2 : decide ((W : Int) ≤ x) = false := by simpa using h2
  by_cases h3 : y < 0
  · clear h
    have d3 : decide (y < 0) = true := by simpa using h3
    go_enter Try.func25, Try.ntmps25
    go_wp2
    go_quiet (fail)
    all_goals go_wp2
    all_goals go_ret2
    all_goals exact ⟨rfl, below_drewN (Below.refl _ _) _⟩
  have d3 : decide (y < 0) = false := by simpa using h3
  have h4 : (H : Int) ≤ y := by omega
  clear h
  have d4 : decide ((H : Int) ≤ y) = true := by simpa using h4
  go_enter Try.func25, Try.ntmps25
  go_wp2
  go_quiet (fail)
  all_goals go_wp2
  all_goals go_ret2
  all_goals exact ⟨rfl, below_drewN (Below.refl _ _) _⟩
set_option maxRecDepth 100000 in
set_option maxHeartbeats 8000000 in
theorem at_in (g gc W H : Nat) (L : List A4) (x y : Nat) (hx : x < W) (hy : y < H) (w : World) (hp : PlanAt w g gc W H L) : Calls Try.prog 25 #[.pointer (some ⟨g, 0, none⟩), .int .i64 (x : Int), .int .i64 (y : Int)] w fun e w' => e = .returned (if noArms (L.getD (y * W + x) zA) = true then .tuple #[.int .i32 0, .bool false] else .tuple #[.int .i32 (runeA (L.getD (y * W + x) zA)), .bool true]) ∧ Below w.heap.size w w' := by
  obtain ⟨hg, hgc, c0, c1, c2⟩ := hp.cells
  have hb := hp.bn
  have hw := hp.bw
  have hh := hp.bh
  have hn : y * W + x < W * H := by
    have : (y + 1) * W ≤ H * W := Nat.mul_le_mul_right W hy
    rw [Nat.mul_comm W H]
    rw [Nat.add_mul] at this
    omega
  obtain ⟨l0, l1, l2, l3⟩ := hp.cell (y * W + x) hn
  generalize L.getD (y * W + x) zA = a at l0 l1 l2 l3 ⊢
  obtain ⟨a0, a1, a2, a3⟩ := a
  simp only [] at l0 l1 l2 l3
  have E : RowKit.Hid (noArms ⟨a0, a1, a2, a3⟩ = (a0 == 0 && a1 == 0 && a2 == 0 && a3 == 0)) := Lib.hid rfl
  clear hp
  have eqs := eqArms
  obtain ⟨n, hN⟩ : ∃ n, n = y * W := ⟨_, rfl⟩
  have hm : (y : Int) * (W : Int) = (n : Int) := by rw [hN, Int.natCast_mul]
  rw [← hN] at l0 l1 l2 l3 hn
  have HN := Lib.hid hN
  clear hN
  generalize hNM : W * H = NM at c2 hb hn
  have HNM := Lib.hid hNM
  clear hNM
  have hnx : n + x ≤ 1048576 := by omega
  have HNX := Lib.hid hn
  have q1 : IntKind.i64.wrap (n : Int) = n := IntWalk.i64_in _ (by omega)
  have q2 : IntKind.i64.wrap ((n : Int) + x) = n + x := IntWalk.i64_in _ (by omega)
  have q3 : ((n : Int) + x).toNat = n + x := by omega
  have q4 : 0 ≤ (n : Int) + x := by omega
  have q5 : (n : Int) + x < NM := by omega
  cases ha : (a0 == 0 && a1 == 0 && a2 == 0 && a3 == 0)
  · rw [ha] at E
    rw [if_neg (by rw [E.out]; decide)]
    go_enter Try.func25, Try.ntmps25
    go_wp2
    go_quiet (fail)
    go_wp2
    have F0 : (g < w.heap.size ∧ gc < w.heap.size ∧ w.cell? ⟨g, 0, none⟩ = some (.int .i64 (W : Int)) ∧ w.cell? ⟨g, 2, none⟩ = some (.slice (some ⟨gc, 0, none⟩) NM NM) ∧ w.cell? ⟨gc, (n + x) * 4, none⟩ = some (.int .i8 a0) ∧ w.cell? ⟨gc, (n + x) * 4 + 1, none⟩ = some (.int .i8 a1) ∧ w.cell? ⟨gc, (n + x) * 4 + 2, none⟩ = some (.int .i8 a2) ∧ w.cell? ⟨gc, (n + x) * 4 + 3, none⟩ = some (.int .i8 a3)) := ⟨hg, hgc, c0, c2, l0, l1, l2, l3⟩
    clear hg hgc c0 c1 c2 l0 l1 l2 l3
    go_region_held3 (fun w' => (g < w'.heap.size ∧ gc < w'.heap.size ∧ w'.cell? ⟨g, 0, none⟩ = some (.int .i64 (W : Int)) ∧ w'.cell? ⟨g, 2, none⟩ = some (.slice (some ⟨gc, 0, none⟩) NM NM) ∧ w'.cell? ⟨gc, (n + x) * 4, none⟩ = some (.int .i8 a0) ∧ w'.cell? ⟨gc, (n + x) * 4 + 1, none⟩ = some (.int .i8 a1) ∧ w'.cell? ⟨gc, (n + x) * 4 + 2, none⟩ = some (.int .i8 a2) ∧ w'.cell? ⟨gc, (n + x) * 4 + 3, none⟩ = some (.int .i8 a3))) (first | (simp [go_sem, F0]; done) | (exact F0) | (exact ⟨Nat.lt_of_lt_of_le F0.1 hz, Nat.lt_of_lt_of_le F0.2.1 hz, (hc _ _ F0.1).trans F0.2.2.1, (hc _ _ F0.1).trans F0.2.2.2.1, (hc _ _ F0.2.1).trans F0.2.2.2.2.1, (hc _ _ F0.2.1).trans F0.2.2.2.2.2.1, (hc _ _ F0.2.1).trans F0.2.2.2.2.2.2.1, (hc _ _ F0.2.1).trans F0.2.2.2.2.2.2.2⟩)) (first | (go_at_call 14; refine (rune4 _ _ _ _ _).mono ?_; rintro e w9 ⟨rfl, hb⟩; have hc : ∀ b o, b < w.heap.size → w9.cell? ⟨b, o, none⟩ = w.cell? ⟨b, o, none⟩ := (bcell hb).1; have hz : w.heap.size ≤ w9.heap.size := hb.size))
    all_goals
      go_wp2
      go_ret2
      exact ⟨rfl, below_via (by assumption) (Below.drew (below_drewN (Below.refl _ _) _))⟩
  · rw [ha] at E
    rw [if_pos E.out]
    go_enter Try.func25, Try.ntmps25
    go_wp2
    go_quiet (fail)
    all_goals go_wp2
    all_goals go_ret2
    all_goals exact ⟨rfl, below_drewN (Below.refl _ _) _⟩
end Go.Proofs.Ytebalohoblaedaa
