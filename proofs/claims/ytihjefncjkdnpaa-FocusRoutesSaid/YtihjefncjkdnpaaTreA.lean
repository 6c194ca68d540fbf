/- Trees: contracts of the small functions: items, colours, names, kinds. -/
import Derived.Test.YtihjefncjkdnpaaTreM
import Derived.Lib.Strings
namespace Go.Proofs.Ytihjefncjkdnpaa
open Go.RowKit
set_option linter.unusedVariables false
set_option linter.unusedSimpArgs false

theorem ret_dec {p : Prop} [Decidable p] {b : Bool} (h : p ↔ b = true) : Ending.returned (.bool b) = .returned (.bool (decide p)) := by
  have : b = decide p := by rw [Bool.eq_iff_iff, decide_eq_true_eq]; exact h.symm
  rw [this]

set_option maxHeartbeats 4000000 in
theorem tree_from_any (n m : Int) (w : World) : Calls Try.prog 89 #[.int .i64 n, .int .i64 m] w fun e w' => e = .returned (.bool (decide (0 ≤ n ∧ n ≤ m))) ∧ w = w' := by
  go_enter Try.func89, Try.ntmps89
  go_wp2
  all_goals go_ret
  all_goals refine ⟨ret_bool ?_, rfl⟩
  all_goals first | (simp; done) | (simp; omega) | omega | (simp [*]; done) | (simp [*]; omega)

set_option maxHeartbeats 4000000 in
theorem tree_leaf_any (k : Int) (w : World) : Calls Try.prog 71 #[.int .i8 k] w fun e w' => e = .returned (.bool (leafB k)) ∧ w = w' := by
  rcases (show k = 2 ∨ k = 3 ∨ k = 4 ∨ k = 5 ∨ k = 6 ∨ (k < 2 ∨ 6 < k) by omega) with rfl | rfl | rfl | rfl | rfl | h
  case' inr.inr.inr.inr.inr =>
    have e : leafB k = true := by unfold leafB; simp; omega
    have e2 : (k == 2) = false := by simp; omega
    have e3 : (k == 3) = false := by simp; omega
    have e4 : (k == 4) = false := by simp; omega
    have e5 : (k == 5) = false := by simp; omega
    have e6 : (k == 6) = false := by simp; omega
    rw [e]
    clear e h
    go_enter Try.func71, Try.ntmps71
    go_wp2
    go_ret
    exact ⟨rfl, rfl⟩
  all_goals
    go_enter Try.func71, Try.ntmps71
    go_wp2
    go_ret
    exact ⟨rfl, rfl⟩

set_option maxHeartbeats 4000000 in
theorem tint_Right_any (c : Int) (w : World) : Calls Try.prog 90 #[.int .i32 c] w fun e w' => e = .returned (.bool (colB c)) ∧ w = w' := by
  rcases (show c = 0 ∨ c = 1 ∨ (c ≠ 0 ∧ c ≠ 1) by omega) with rfl | rfl | ⟨h0, h1⟩
  · go_enter Try.func90, Try.ntmps90
    go_wp2
    go_ret
    exact ⟨rfl, rfl⟩
  · go_enter Try.func90, Try.ntmps90
    go_wp2
    go_ret
    exact ⟨rfl, rfl⟩
  · have e : colB c = decide ((256 ≤ c ∧ c < 512) ∨ (16777216 ≤ c ∧ c < 33554432)) := by unfold colB; simp [h0, h1]
    have e0 : (c == 0) = false := by simp; omega
    have e1 : (c == 1) = false := by simp; omega
    rw [e]
    clear e h0 h1
    go_enter Try.func90, Try.ntmps90
    go_wp2
    all_goals go_ret
    all_goals refine ⟨ret_bool ?_, rfl⟩
    all_goals (rw [Bool.eq_iff_iff]; simp; first | omega | (simp only [beq_eq_false_iff_ne] at k0 k1 k2 k3; omega))

/-- an item's numbers, but its kind -/
def limB (x : It) : Bool := decide (0 ≤ x.lo ∧ x.lo ≤ 4096 ∧ (x.hi = 0 ∨ (x.lo ≤ x.hi ∧ 1 ≤ x.hi ∧ x.hi ≤ 4096)))
theorem itemB_no {x : It} (h : limB x = false) : itemB x = false := by
  unfold limB at h; unfold itemB
  simp only [decide_eq_false_iff_not] at h ⊢
  exact fun ⟨a, b, c, _⟩ => h ⟨a, b, c⟩
theorem itemB_yes {x : It} (h : limB x = true) : itemB x = decide ((x.k = 0 ∧ x.n = 0 ∧ x.d = 0) ∨ (x.k = 1 ∧ 0 ≤ x.n ∧ x.n ≤ 4096 ∧ x.d = 0) ∨ (x.k = 2 ∧ 0 ≤ x.n ∧ x.n ≤ 1000 ∧ 1 ≤ x.d ∧ x.d ≤ 1000) ∨ (x.k = 3 ∧ 1 ≤ x.n ∧ x.n ≤ 1000 ∧ x.d = 0)) := by
  unfold limB at h; unfold itemB
  simp only [decide_eq_true_eq] at h
  simp [h]
set_option maxHeartbeats 8000000 in
theorem solve_Right_any (x : It) (w : World) : Calls Try.prog 88 #[.agg #[.int .i8 x.k, .int .i64 x.n, .int .i64 x.d, .int .i64 x.lo, .int .i64 x.hi]] w fun e w' => e = .returned (.bool (itemB x)) ∧ Below w.heap.size w w' := by
  cases hl : limB x
  · rw [itemB_no hl]
    unfold limB at hl
    obtain ⟨k, n, d, lo, hi⟩ := x
    simp only [decide_eq_false_iff_not] at hl ⊢
    rcases (show lo < 0 ∨ (0 ≤ lo ∧ 4096 < lo) ∨ (0 ≤ lo ∧ lo ≤ 4096 ∧ (hi != 0) = true ∧ hi < max lo 1) ∨ (0 ≤ lo ∧ lo ≤ 4096 ∧ (hi != 0) = true ∧ max lo 1 ≤ hi ∧ 4096 < hi) by rw [bne_iff_ne]; omega) with h | h | ⟨h1, h2, h3, h4⟩ | ⟨h1, h2, h3, h4, h5⟩
    all_goals clear hl
    all_goals go_enter Try.func88, Try.ntmps88
    all_goals go_wp2
    all_goals go_ret
    all_goals exact ⟨rfl, by go_grown⟩
  · rw [itemB_yes hl]
    unfold limB at hl
    obtain ⟨k, n, d, lo, hi⟩ := x
    simp only [decide_eq_true_eq] at hl ⊢
    obtain ⟨l1, l2, hl⟩ := hl
    rcases (show hi = 0 ∨ ((hi != 0) = true ∧ max lo 1 ≤ hi ∧ hi ≤ 4096) by rw [bne_iff_ne]; omega) with rfl | ⟨d1, d2, d3⟩
    all_goals clear hl
    all_goals rcases (show k = 0 ∨ k = 1 ∨ k = 2 ∨ k = 3 ∨ ((k == 0) = false ∧ (k == 1) = false ∧ (k == 2) = false ∧ (k == 3) = false) by simp only [beq_eq_false_iff_ne]; omega) with rfl | rfl | rfl | rfl | ⟨k0, k1, k2, k3⟩
    all_goals go_enter Try.func88, Try.ntmps88
    all_goals go_wp2
    all_goals go_ret
    all_goals refine ⟨ret_bool ?_, by go_grown⟩
    all_goals (rw [Bool.eq_iff_iff]; simp; first | omega | (simp only [beq_eq_false_iff_ne] at k0 k1 k2 k3; omega))

set_option maxHeartbeats 4000000 in
theorem tree_name_any (s : ByteArray) (w : World) (hs : s.size ≤ 9223372036854775807) : Calls Try.prog 70 #[.string s] w fun e w' => e = .returned (.bool (nameB s)) ∧ w = w' := by
  by_cases h0 : s.size = 0
  · have e : nameB s = false := nameB_no (by omega)
    have e1 : s.toList = [] := by rw [ByteArray.toList_eq]; exact List.eq_nil_of_length_eq_zero (by rw [← Lib.size_eq]; exact h0)
    rw [e]
    clear e h0
    go_enter Try.func70, Try.ntmps70
    go_wp2
    go_ret
    exact ⟨rfl, rfl⟩
  · have e1 : (s.toList == []) = false := by rw [ByteArray.toList_eq, beq_eq_false_iff_ne]; intro e; rw [Lib.size_eq, e] at h0; exact h0 rfl
    have e2 : s.toList.isEmpty = false := by rw [List.isEmpty_eq_false_iff, ByteArray.toList_eq]; intro e; rw [Lib.size_eq, e] at h0; exact h0 rfl
    by_cases h1 : 32 < s.size
    · have e : nameB s = false := nameB_no (by omega)
      have h2 : (32 : Int) < (s.size : Int) := by omega
      rw [e]
      clear e h0
      go_enter Try.func70, Try.ntmps70
      go_wp2
      go_ret
      exact ⟨rfl, rfl⟩
    · have h2 : (s.size : Int) ≤ 32 := by omega
      go_enter Try.func70, Try.ntmps70
      go_wp2
      go_loop [3, 4] (fun i c => ∃ k : Nat, k ≤ s.size ∧ i = .int .i64 k ∧ okAll s k) (fun i _ => s.size - (intOf i).toNat)
      case atStart => exact ⟨0, Nat.zero_le _, rfl, fun i hi => absurd hi (Nat.not_lt_zero _)⟩
      case round =>
        obtain ⟨k, hk, rfl, HA⟩ := hrel
        have HA := Lib.hid HA
        by_cases hlt : k < s.size
        · have hg : s.data.toList.getD k 0 = s[k] := by rw [List.getD_eq_getElem?_getD, List.getElem?_eq_getElem (by rw [← Lib.size_eq]; exact hlt)]; rfl
          have HY := Lib.hid (fun h : okC k (s[k].toNat : Int) = true => okAll_succ HA.out (by rw [hg]; exact h))
          have HN := Lib.hid (fun h : okC k (s[k].toNat : Int) = false => okAll_no hlt (by rw [hg]; exact h))
          clear hg HA
          rcases (show (97 ≤ (s[k].toNat : Int) ∧ (s[k].toNat : Int) ≤ 122) ∨ ((s[k].toNat : Int) < 97 ∧ 65 ≤ (s[k].toNat : Int) ∧ (s[k].toNat : Int) ≤ 90) ∨ (0 < k ∧ 48 ≤ (s[k].toNat : Int) ∧ (s[k].toNat : Int) ≤ 57) ∨ (0 < k ∧ (s[k].toNat : Int) = 45) ∨ (0 < k ∧ (s[k].toNat : Int) = 95) ∨ (¬ (97 ≤ (s[k].toNat : Int) ∧ (s[k].toNat : Int) ≤ 122) ∧ ¬ (65 ≤ (s[k].toNat : Int) ∧ (s[k].toNat : Int) ≤ 90) ∧ 0 < k ∧ ¬ (48 ≤ (s[k].toNat : Int) ∧ (s[k].toNat : Int) ≤ 57) ∧ (s[k].toNat : Int) ≠ 45 ∧ (s[k].toNat : Int) ≠ 95) ∨ (¬ (97 ≤ (s[k].toNat : Int) ∧ (s[k].toNat : Int) ≤ 122) ∧ ¬ (65 ≤ (s[k].toNat : Int) ∧ (s[k].toNat : Int) ≤ 90) ∧ k = 0) by omega) with ⟨h1, h2⟩ | ⟨h1, h2, h3⟩ | ⟨h1, h2, h3⟩ | ⟨h1, h2⟩ | ⟨h1, h2⟩ | ⟨h1, h2, h3, h4, h5, h6⟩ | ⟨h1, h2, h3⟩
          · have HY := Lib.hid (HY.out (by unfold okC; simp; omega))
            clear HN
            go_wp2
            go_round
            case rel => exact ⟨k + 1, by omega, by go_num, HY.out⟩
            case measure => simp [intOf]; omega
          · have HY := Lib.hid (HY.out (by unfold okC; simp; omega))
            clear HN
            go_wp2
            go_round
            case rel => exact ⟨k + 1, by omega, by go_num, HY.out⟩
            case measure => simp [intOf]; omega
          · have HY := Lib.hid (HY.out (by unfold okC; simp; omega))
            clear HN
            have d1 : (s[k].toNat : Int) < 97 := by omega
            have d2 : (s[k].toNat : Int) < 65 := by omega
            have d3 : (0 : Int) < (k : Int) := by omega
            have d4 : (s[k].toNat : Int) ≠ 45 := by omega
            have d5 : (s[k].toNat : Int) ≠ 95 := by omega
            go_wp2
            go_round
            case rel => exact ⟨k + 1, by omega, by go_num, HY.out⟩
            case measure => simp [intOf]; omega
          · have HY := Lib.hid (HY.out (by unfold okC; simp; omega))
            clear HN
            have d0 : ((s[k].toNat : Int) == 45) = true := by rw [beq_iff_eq]; exact h2
            have d0' : ((s[k].toNat : Int) != 45) = false := by rw [bne_eq_false_iff_eq]; exact h2
            have d1 : (s[k].toNat : Int) < 97 := by omega
            have d2 : (s[k].toNat : Int) < 65 := by omega
            have d3 : (0 : Int) < (k : Int) := by omega
            have d4 : (s[k].toNat : Int) < 48 := by omega
            clear h2
            go_wp2
            go_round
            case rel => exact ⟨k + 1, by omega, by go_num, HY.out⟩
            case measure => simp [intOf]; omega
          · have HY := Lib.hid (HY.out (by unfold okC; simp; omega))
            clear HN
            have d0 : ((s[k].toNat : Int) == 45) = false := by rw [beq_eq_false_iff_ne]; omega
            have d0' : ((s[k].toNat : Int) != 45) = true := by rw [bne_iff_ne]; omega
            have d5 : ((s[k].toNat : Int) == 95) = true := by rw [beq_iff_eq]; exact h2
            have d5' : ((s[k].toNat : Int) != 95) = false := by rw [bne_eq_false_iff_eq]; exact h2
            have d1 : (s[k].toNat : Int) < 97 := by omega
            have d2 : 90 < (s[k].toNat : Int) := by omega
            have d3 : (0 : Int) < (k : Int) := by omega
            have d4 : 57 < (s[k].toNat : Int) := by omega
            clear h2
            go_wp2
            go_round
            case rel => exact ⟨k + 1, by omega, by go_num, HY.out⟩
            case measure => simp [intOf]; omega
          · have E := Lib.hid (HN.out (by unfold okC; simp; omega))
            clear HY HN
            have d0 : ((s[k].toNat : Int) == 45) = false := by rw [beq_eq_false_iff_ne]; omega
            have d0' : ((s[k].toNat : Int) != 45) = true := by rw [bne_iff_ne]; omega
            have d5 : ((s[k].toNat : Int) == 95) = false := by rw [beq_eq_false_iff_ne]; omega
            have d5' : ((s[k].toNat : Int) != 95) = true := by rw [bne_iff_ne]; omega
            have d3 : (0 : Int) < (k : Int) := by omega
            rcases (show (s[k].toNat : Int) < 48 ∨ 57 < (s[k].toNat : Int) by omega) with d6 | d6
            all_goals rcases (show (s[k].toNat : Int) < 65 ∨ 90 < (s[k].toNat : Int) by omega) with d7 | d7
            all_goals rcases (show (s[k].toNat : Int) < 97 ∨ 122 < (s[k].toNat : Int) by omega) with d8 | d8
            all_goals first | (exfalso; omega) | skip
            all_goals clear h1 h2 h4 h5 h6
            all_goals go_wp2
            all_goals go_ret
            all_goals exact ⟨ret_bool E.out.symm, rfl⟩
          · subst h3
            have E := Lib.hid (HN.out (by unfold okC; simp; omega))
            clear HY HN
            rcases (show (s[0].toNat : Int) < 65 ∨ (90 < (s[0].toNat : Int) ∧ (s[0].toNat : Int) < 97) ∨ 122 < (s[0].toNat : Int) by omega) with d7 | ⟨d7, d8⟩ | d8
            all_goals clear h1 h2
            all_goals go_wp2
            all_goals go_ret
            all_goals exact ⟨ret_bool E.out.symm, rfl⟩
        · have hk2 : k = s.size := by omega
          subst hk2
          have E := Lib.hid (nameB_yes (by omega) (by omega) HA.out)
          go_wp2
          go_ret
          exact ⟨ret_bool E.out.symm, rfl⟩
end Go.Proofs.Ytihjefncjkdnpaa
