/- Layer 13: the walk of GlyphTable. -/
import Derived.Test.YtebalohoblaedaaGlyR
namespace Go.Proofs.Ytebalohoblaedaa
open Go.RowKit
set_option linter.unusedVariables false
set_option linter.unusedSimpArgs false

set_option maxRecDepth 100000 in
set_option maxHeartbeats 4000000 in
theorem GlyphTable_walk (w : World) : Calls Try.prog 4 #[] w fun e w' => e = .returned (.bool true) ∧ Below w.heap.size w w' := by
  go_enter Try.func4, Try.ntmps4
  go_wp2
  go_loopw [1] (fun i wr => ∃ k : Nat, k ≤ 625 ∧ i = .int .i64 k ∧ Below w.heap.size w wr) (fun i _ => 625 - (intOf i).toNat)
  case atStart => exact ⟨0, by omega, rfl, Below.refl _ _⟩
  case round =>
    obtain ⟨k, hk, rfl, BW⟩ := hrel
    by_cases hlt : k < 625
    · obtain ⟨v0, hv0⟩ : ∃ v, (k : Int) % 5 = v := ⟨_, rfl⟩
      obtain ⟨v1, hv1⟩ : ∃ v, (k : Int) / 5 % 5 = v := ⟨_, rfl⟩
      obtain ⟨v2, hv2⟩ : ∃ v, (k : Int) / 25 % 5 = v := ⟨_, rfl⟩
      obtain ⟨v3, hv3⟩ : ∃ v, (k : Int) / 125 = v := ⟨_, rfl⟩
      have n0 : 0 ≤ v0 ∧ v0 ≤ 4 := by omega
      have n1 : 0 ≤ v1 ∧ v1 ≤ 4 := by omega
      have n2 : 0 ≤ v2 ∧ v2 ≤ 4 := by omega
      have n3 : 0 ≤ v3 ∧ v3 ≤ 4 := by omega
      go_wp2
      clear hv0 hv1 hv2 hv3
      go_region_held3 (fun w' => wr.heap.size < w'.heap.size ∧ w'.cell? ⟨wr.heap.size, 0, none⟩ = some (.int .i8 v0) ∧ w'.cell? ⟨wr.heap.size, 1, none⟩ = some (.int .i8 v1) ∧ w'.cell? ⟨wr.heap.size, 2, none⟩ = some (.int .i8 v2) ∧ w'.cell? ⟨wr.heap.size, 3, none⟩ = some (.int .i8 v3)) (first | (simp [go_sem]; done) | (go_split_ands; refine ⟨by omega, ?_⟩; ((repeat' apply And.intro) <;> (rw [hc _ _ (by omega)]; assumption))))
        (first | (go_at_call 14; refine (rune4r _ _ _ _ _).mono ?_; rintro e w1 ⟨rfl, hb⟩; obtain ⟨hc, hf⟩ := bcell hb; have hz := hb.size) | (go_at_call 15; refine (rrune4 _ _ _ _ _).mono ?_; rintro e w1 ⟨rfl, hb⟩; obtain ⟨hc, hf⟩ := bcell hb; have hz := hb.size))
      all_goals go_wp2
      all_goals
        go_roundw
        case rel => exact ⟨k + 1, by omega, by go_num, below_via (by assumption) (below_via (by assumption) (Below.drew (below_al BW _)))⟩
        case measure => simp [intOf]; omega
    · have hge : (625 : Int) ≤ (k : Int) := by omega
      clear hlt hk
      go_wp2
      go_loopw [3, 4, 5, 6, 7] (fun i _ _ _ _ wr => ∃ k : Nat, k ≤ 160 ∧ i = .int .i32 (9456 + (k : Int)) ∧ Below w.heap.size w wr) (fun i _ _ _ _ _ => 9616 - (intOf i).toNat)
      case atStart => exact ⟨0, by omega, rfl, BW⟩
      case round =>
        clear BW hge
        obtain ⟨k, hk, rfl, BW⟩ := hrel
        have eqs := eqArms
        by_cases hlt : k < 160
        · go_wp2_with fail
          refine (of_any _ _).mono ?_
          rw [of_eq]
          rintro e w1 ⟨rfl, hb1⟩
          have B1 := below_via hb1 BW
          clear hb1
          have HR : RowKit.Hid (∃ q, q = rof (9456 + (k : Int))) := Lib.hid ⟨_, rfl⟩
          obtain ⟨q, hq⟩ := HR.out
          rw [← hq]
          obtain ⟨⟨q0, q1, q2, q3⟩, qb⟩ := q
          have HQ := Lib.hid hq
          clear hq HR
          go_wp2_with fail
          refine (rof_any _ _).mono ?_
          rw [← HQ.out]
          rintro e w2 ⟨rfl, hb2⟩
          have B2 := below_via hb2 (below_al B1 _)
          have F2 : w1.heap.size < w2.heap.size ∧ w2.cell? ⟨w1.heap.size, 0, none⟩ = some (.int .i8 q0) ∧ w2.cell? ⟨w1.heap.size, 1, none⟩ = some (.int .i8 q1) ∧ w2.cell? ⟨w1.heap.size, 2, none⟩ = some (.int .i8 q2) ∧ w2.cell? ⟨w1.heap.size, 3, none⟩ = some (.int .i8 q3) := by
            obtain ⟨hc, hf⟩ := bcell hb2
            have hz := hb2.size
            simp only [World.size_alloc] at hz
            refine ⟨by omega, ?_, ?_, ?_, ?_⟩ <;> (rw [hc _ _ (by simp)]; simp [go_sem])
          clear hb2
          have ee : (q0 == q0 && q1 == q1 && q2 == q2 && q3 == q3) = true := by simp
          go_wp2
          go_roundw
          case rel =>
            exact ⟨k + 1, by omega, by go_num, below_al B2 _⟩
          case measure => simp [intOf]; omega
        · have h160 : 9616 ≤ 9456 + (k : Int) := by omega
          go_wp2_with fail
          refine (wakes_any _).mono ?_
          rintro e w1 ⟨rfl, hb⟩
          have B1 := below_via hb BW
          go_wp2
          go_ret
          exact ⟨rfl, B1⟩
end Go.Proofs.Ytebalohoblaedaa
