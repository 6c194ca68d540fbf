/- Trees: contracts of the reference's small functions. -/
import Derived.Test.YtihjefncjkdnpaaTreN
import Derived.Deep.AppendLies
namespace Go.Proofs.Ytihjefncjkdnpaa
open Go.RowKit Go.Deep
set_option linter.unusedVariables false
set_option linter.unusedSimpArgs false

theorem ret_pair {a b x : Int} (h : a = b) : Ending.returned (.tuple #[.int .i64 b, .int .i64 x]) = .returned (.tuple #[.int .i64 a, .int .i64 x]) := by rw [h]
/-- which sort of colour -/
def sortK (c : Int) : Int := if c = 1 then 1 else if 256 ≤ c ∧ c ≤ 511 then 2 else if 16777216 ≤ c ∧ c ≤ 33554431 then 3 else 0
set_option maxHeartbeats 4000000 in
theorem ref_sort_any (c : Int) (w : World) (hc : -2147483648 ≤ c ∧ c ≤ 2147483647) : Calls Try.prog 97 #[.int .i32 c] w fun e w' => ∃ x : Int, e = .returned (.tuple #[.int .i64 (sortK c), .int .i64 x]) ∧ w = w' := by
  have k1 : sortK 1 = 1 := rfl
  rcases (show c = 1 ∨ (256 ≤ c ∧ c ≤ 511) ∨ (16777216 ≤ c ∧ c ≤ 33554431) ∨ ((c < 256 ∧ c ≠ 1) ∨ (511 < c ∧ c < 16777216) ∨ 33554431 < c) by omega) with rfl | ⟨h1, h2⟩ | ⟨h1, h2⟩ | h
  · go_enter Try.func97, Try.ntmps97
    go_wp2
    go_ret2
    exact ⟨_, rfl, rfl⟩
  · have e : sortK c = 2 := by unfold sortK; rw [if_neg (by omega), if_pos ⟨h1, h2⟩]
    have d : (c == 1) = false := by rw [beq_eq_false_iff_ne]; omega
    have E := Lib.hid e
    clear e
    go_enter Try.func97, Try.ntmps97
    go_wp2
    go_ret2
    exact ⟨_, ret_pair E.out, rfl⟩
  · have e : sortK c = 3 := by unfold sortK; rw [if_neg (by omega), if_neg (by omega), if_pos ⟨h1, h2⟩]
    have d : (c == 1) = false := by rw [beq_eq_false_iff_ne]; omega
    have d2 : 256 ≤ c := by omega
    have d3 : 511 < c := by omega
    have d4 : decide (c ≤ 511) = false := by rw [decide_eq_false_iff_not]; omega
    have E := Lib.hid e
    clear e
    go_enter Try.func97, Try.ntmps97
    go_wp2
    go_ret2
    exact ⟨_, ret_pair E.out, rfl⟩
  · have e : sortK c = 0 := by unfold sortK; rw [if_neg (by omega), if_neg (by omega), if_neg (by omega)]
    have d : (c == 1) = false := by rw [beq_eq_false_iff_ne]; omega
    have E := Lib.hid e
    have k0 : (0 : Int) = sortK c := e.symm
    have K0 := Lib.hid k0
    clear e k0
    rcases (show (c < 256 ∧ c < 16777216) ∨ (256 ≤ c ∧ 511 < c ∧ c < 16777216) ∨ (256 ≤ c ∧ 511 < c ∧ 16777216 ≤ c ∧ 33554431 < c) by omega) with ⟨z1, z2⟩ | ⟨z1, z2, z3⟩ | ⟨z1, z2, z3, z4⟩
    all_goals clear h
    all_goals go_enter Try.func97, Try.ntmps97
    all_goals go_wp2
    all_goals go_ret2
    all_goals first | exact ⟨_, ret_pair E.out, rfl⟩ | exact ⟨⟨_, ret_pair E.out⟩, rfl⟩

set_option maxHeartbeats 4000000 in
theorem ref_Right_any (c : Int) (w : World) (hc : -2147483648 ≤ c ∧ c ≤ 2147483647) : Calls Try.prog 94 #[.int .i32 c] w fun e w' => e = .returned (.bool (colB c)) ∧ w = w' := by
  have hk : sortK c = 0 ∨ sortK c ≠ 0 := by omega
  have e : colB c = (decide (sortK c ≠ 0) || decide (c = 0)) := by
    unfold colB sortK
    rw [Bool.eq_iff_iff]
    simp only [decide_eq_true_eq, Bool.or_eq_true]
    split <;> (try split) <;> (try split) <;> omega
  have E := Lib.hid e
  clear e
  rcases hk with hk | hk
  · have d : (sortK c != 0) = false := by rw [bne_eq_false_iff_eq]; exact hk
    have D := Lib.hid hk
    clear hk
    go_enter Try.func94, Try.ntmps94
    go_wp2_with fail
    refine (ref_sort_any _ _ hc).mono ?_
    generalize sortK c = k at *
    rintro e w' ⟨x, rfl, rfl⟩
    go_wp2
    go_ret
    exact ⟨ret_bool (by rw [E.out, Bool.eq_iff_iff]; simp [D.out]), rfl⟩
  · have d : (sortK c != 0) = true := by rw [bne_iff_ne]; exact hk
    have D := Lib.hid hk
    clear hk
    go_enter Try.func94, Try.ntmps94
    go_wp2_with fail
    refine (ref_sort_any _ _ hc).mono ?_
    generalize sortK c = k at *
    rintro e w' ⟨x, rfl, rfl⟩
    go_wp2
    go_ret
    exact ⟨ret_bool (by rw [E.out, Bool.eq_iff_iff]; simp [D.out]), rfl⟩

set_option maxHeartbeats 4000000 in
theorem ref_Leaf_any (k : Int) (w : World) (hk : 1 ≤ k) : Calls Try.prog 92 #[.int .i8 k] w fun e w' => e = .returned (.bool (leafB k)) ∧ w = w' := by
  rcases (show k = 1 ∨ k = 2 ∨ k = 3 ∨ k = 4 ∨ k = 5 ∨ k = 6 ∨ 6 < k by omega) with rfl | rfl | rfl | rfl | rfl | rfl | h
  case' inr.inr.inr.inr.inr.inr =>
    have e : leafB k = true := by unfold leafB; simp; omega
    have e2 : (k == 1) = false := by simp; omega
    have e3 : 7 ≤ k := by omega
    rw [e]
    clear e h hk
    go_enter Try.func92, Try.ntmps92
    go_wp2
    go_ret
    exact ⟨ret_bool (by simp), rfl⟩
  all_goals
    clear hk
    go_enter Try.func92, Try.ntmps92
    go_wp2
    go_ret
    exact ⟨rfl, rfl⟩

set_option maxHeartbeats 8000000 in
theorem ref_Item_any (x : It) (w : World) : Calls Try.prog 93 #[.agg #[.int .i8 x.k, .int .i64 x.n, .int .i64 x.d, .int .i64 x.lo, .int .i64 x.hi]] w fun e w' => e = .returned (.bool (itemB x)) ∧ Below w.heap.size w w' := by
  cases hl : limB x
  · rw [itemB_no hl]
    unfold limB at hl
    obtain ⟨k, n, d, lo, hi⟩ := x
    simp only [decide_eq_false_iff_not] at hl ⊢
    rcases (show lo < 0 ∨ (0 ≤ lo ∧ 4096 < lo) ∨ (0 ≤ lo ∧ lo ≤ 4096 ∧ (hi != 0) = true ∧ hi < lo) ∨ (0 ≤ lo ∧ lo ≤ 4096 ∧ (hi != 0) = true ∧ lo ≤ hi ∧ hi < 1) ∨ (0 ≤ lo ∧ lo ≤ 4096 ∧ (hi != 0) = true ∧ lo ≤ hi ∧ 1 ≤ hi ∧ 4096 < hi) by rw [bne_iff_ne]; omega) with h | h | ⟨h1, h2, h3, h4⟩ | ⟨h1, h2, h3, h4, h5⟩ | ⟨h1, h2, h3, h4, h5, h6⟩
    all_goals clear hl
    all_goals go_enter Try.func93, Try.ntmps93
    all_goals go_wp2
    all_goals go_ret
    all_goals exact ⟨rfl, by go_grown⟩
  · rw [itemB_yes hl]
    unfold limB at hl
    obtain ⟨k, n, d, lo, hi⟩ := x
    simp only [decide_eq_true_eq] at hl ⊢
    obtain ⟨l1, l2, hl⟩ := hl
    rcases (show hi = 0 ∨ ((hi != 0) = true ∧ lo ≤ hi ∧ 1 ≤ hi ∧ hi ≤ 4096) by rw [bne_iff_ne]; omega) with rfl | ⟨d1, d2, d3, d4⟩
    all_goals clear hl
    all_goals rcases (show k = 0 ∨ k = 1 ∨ k = 2 ∨ k = 3 ∨ ((k == 0) = false ∧ (k == 1) = false ∧ (k == 2) = false ∧ (k == 3) = false) by simp only [beq_eq_false_iff_ne]; omega) with rfl | rfl | rfl | rfl | ⟨k0, k1, k2, k3⟩
    all_goals go_enter Try.func93, Try.ntmps93
    all_goals go_wp2
    all_goals go_ret
    all_goals refine ⟨ret_bool ?_, by go_grown⟩
    all_goals (rw [Bool.eq_iff_iff]; simp; first | omega | (simp only [beq_eq_false_iff_ne] at k0 k1 k2 k3; omega))

set_option maxHeartbeats 4000000 in
theorem ref_Name_any (s : ByteArray) (w : World) (hs : s.size ≤ 9223372036854775807) : Calls Try.prog 91 #[.string s] w fun e w' => e = .returned (.bool (nameB s)) ∧ w = w' := by
  by_cases h0 : s.size = 0
  · have e : nameB s = false := nameB_no (by omega)
    have e1 : s.toList = [] := by rw [ByteArray.toList_eq]; exact List.eq_nil_of_length_eq_zero (by rw [← Lib.size_eq]; exact h0)
    rw [e]
    have h1' : (s.size : Int) < 1 := by omega
    clear e h0
    go_enter Try.func91, Try.ntmps91
    go_wp2
    go_ret
    exact ⟨rfl, rfl⟩
  · have e1 : (s.toList == []) = false := by rw [ByteArray.toList_eq, beq_eq_false_iff_ne]; intro e; rw [Lib.size_eq, e] at h0; exact h0 rfl
    have e2 : s.toList.isEmpty = false := by rw [List.isEmpty_eq_false_iff, ByteArray.toList_eq]; intro e; rw [Lib.size_eq, e] at h0; exact h0 rfl
    by_cases h1 : 32 < s.size
    · have e : nameB s = false := nameB_no (by omega)
      have h2 : (32 : Int) < (s.size : Int) := by omega
      have h3 : (1 : Int) ≤ (s.size : Int) := by omega
      rw [e]
      clear e h0
      go_enter Try.func91, Try.ntmps91
      go_wp2
      go_ret
      exact ⟨rfl, rfl⟩
    · have h2 : (s.size : Int) ≤ 32 := by omega
      have h3 : (1 : Int) ≤ (s.size : Int) := by omega
      go_enter Try.func91, Try.ntmps91
      go_wp2
      go_loop [3, 4] (fun i c => ∃ k : Nat, k ≤ s.size ∧ i = .int .i64 k ∧ okAll s k) (fun i _ => s.size - (intOf i).toNat)
      case atStart => exact ⟨0, Nat.zero_le _, rfl, fun i hi => absurd hi (Nat.not_lt_zero _)⟩
      case round =>
        obtain ⟨k, hk, rfl, HA⟩ := hrel
        have HA := Lib.hid HA
        by_cases hlt : k < s.size
        · have hg : s.data.toList.getD k 0 = s[k] := by rw [List.getD_eq_getElem?_getD, List.getElem?_eq_getElem (by rw [← Lib.size_eq]; exact hlt)]; rfl
          have HY := Lib.hid (fun h : okC k (s[k].toNat : Int) = true => okAll_succ HA.out (by rw [hg]; exact h))
          have HN := Lib.hid (fun h : okC k (s[k].toNat : Int) = false => okAll_no hlt (by rw [hg]; exact h))
          clear hg HA
          rcases (show (97 ≤ (s[k].toNat : Int) ∧ (s[k].toNat : Int) ≤ 122) ∨ ((s[k].toNat : Int) < 97 ∧ 65 ≤ (s[k].toNat : Int) ∧ (s[k].toNat : Int) ≤ 90) ∨ (0 < k ∧ 48 ≤ (s[k].toNat : Int) ∧ (s[k].toNat : Int) ≤ 57) ∨ (0 < k ∧ (s[k].toNat : Int) = 45) ∨ (0 < k ∧ (s[k].toNat : Int) = 95) ∨ (¬ (97 ≤ (s[k].toNat : Int) ∧ (s[k].toNat : Int) ≤ 122) ∧ ¬ (65 ≤ (s[k].toNat : Int) ∧ (s[k].toNat : Int) ≤ 90) ∧ 0 < k ∧ ¬ (48 ≤ (s[k].toNat : Int) ∧ (s[k].toNat : Int) ≤ 57) ∧ (s[k].toNat : Int) ≠ 45 ∧ (s[k].toNat : Int) ≠ 95) ∨ (¬ (97 ≤ (s[k].toNat : Int) ∧ (s[k].toNat : Int) ≤ 122) ∧ ¬ (65 ≤ (s[k].toNat : Int) ∧ (s[k].toNat : Int) ≤ 90) ∧ k = 0) by omega) with ⟨h1, h2⟩ | ⟨h1, h2, h3⟩ | ⟨h1, h2, h3⟩ | ⟨h1, h2⟩ | ⟨h1, h2⟩ | ⟨h1, h2, h3, h4, h5, h6⟩ | ⟨h1, h2, h3⟩
          · have HY := Lib.hid (HY.out (by unfold okC; simp; omega))
            clear HN
            go_wp2
            go_round
            case rel => exact ⟨k + 1, by omega, by go_num, HY.out⟩
            case measure => simp [intOf]; omega
          · have HY := Lib.hid (HY.out (by unfold okC; simp; omega))
            clear HN
            go_wp2
            go_round
            case rel => exact ⟨k + 1, by omega, by go_num, HY.out⟩
            case measure => simp [intOf]; omega
          · have HY := Lib.hid (HY.out (by unfold okC; simp; omega))
            clear HN
            have d1 : (s[k].toNat : Int) < 97 := by omega
            have d2 : (s[k].toNat : Int) < 65 := by omega
            have d3 : (0 : Int) < (k : Int) := by omega
            have d9 : ((k : Int) == 0) = false := by rw [beq_eq_false_iff_ne]; omega
            have d4 : ((s[k].toNat : Int) != 45) = true := by rw [bne_iff_ne]; omega
            have d5 : ((s[k].toNat : Int) != 95) = true := by rw [bne_iff_ne]; omega
            have d6 : ((k : Int) == 0) = false := by rw [beq_eq_false_iff_ne]; omega
            go_wp2
            go_round
            case rel => exact ⟨k + 1, by omega, by go_num, HY.out⟩
            case measure => simp [intOf]; omega
          · have HY := Lib.hid (HY.out (by unfold okC; simp; omega))
            clear HN
            have d0 : ((s[k].toNat : Int) == 45) = true := by rw [beq_iff_eq]; exact h2
            have d0' : ((s[k].toNat : Int) != 45) = false := by rw [bne_eq_false_iff_eq]; exact h2
            have d1 : (s[k].toNat : Int) < 97 := by omega
            have d2 : (s[k].toNat : Int) < 65 := by omega
            have d3 : (0 : Int) < (k : Int) := by omega
            have d9 : ((k : Int) == 0) = false := by rw [beq_eq_false_iff_ne]; omega
            have d4 : (s[k].toNat : Int) < 48 := by omega
            clear h2
            go_wp2
            go_round
            case rel => exact ⟨k + 1, by omega, by go_num, HY.out⟩
            case measure => simp [intOf]; omega
          · have HY := Lib.hid (HY.out (by unfold okC; simp; omega))
            clear HN
            have d0 : ((s[k].toNat : Int) == 45) = false := by rw [beq_eq_false_iff_ne]; omega
            have d0' : ((s[k].toNat : Int) != 45) = true := by rw [bne_iff_ne]; omega
            have d5 : ((s[k].toNat : Int) == 95) = true := by rw [beq_iff_eq]; exact h2
            have d5' : ((s[k].toNat : Int) != 95) = false := by rw [bne_eq_false_iff_eq]; exact h2
            have d1 : (s[k].toNat : Int) < 97 := by omega
            have d2 : 90 < (s[k].toNat : Int) := by omega
            have d3 : (0 : Int) < (k : Int) := by omega
            have d9 : ((k : Int) == 0) = false := by rw [beq_eq_false_iff_ne]; omega
            have d4 : 57 < (s[k].toNat : Int) := by omega
            clear h2
            go_wp2
            go_round
            case rel => exact ⟨k + 1, by omega, by go_num, HY.out⟩
            case measure => simp [intOf]; omega
          · have E := Lib.hid (HN.out (by unfold okC; simp; omega))
            clear HY HN
            have d0 : ((s[k].toNat : Int) == 45) = false := by rw [beq_eq_false_iff_ne]; omega
            have d0' : ((s[k].toNat : Int) != 45) = true := by rw [bne_iff_ne]; omega
            have d5 : ((s[k].toNat : Int) == 95) = false := by rw [beq_eq_false_iff_ne]; omega
            have d5' : ((s[k].toNat : Int) != 95) = true := by rw [bne_iff_ne]; omega
            have d3 : (0 : Int) < (k : Int) := by omega
            have d9 : ((k : Int) == 0) = false := by rw [beq_eq_false_iff_ne]; omega
            rcases (show ((s[k].toNat : Int) < 48 ∧ (s[k].toNat : Int) < 65 ∧ (s[k].toNat : Int) < 97) ∨ (48 ≤ (s[k].toNat : Int) ∧ 57 < (s[k].toNat : Int) ∧ (s[k].toNat : Int) < 65 ∧ (s[k].toNat : Int) < 97) ∨ (48 ≤ (s[k].toNat : Int) ∧ 57 < (s[k].toNat : Int) ∧ 65 ≤ (s[k].toNat : Int) ∧ 90 < (s[k].toNat : Int) ∧ (s[k].toNat : Int) < 97) ∨ (48 ≤ (s[k].toNat : Int) ∧ 57 < (s[k].toNat : Int) ∧ 65 ≤ (s[k].toNat : Int) ∧ 90 < (s[k].toNat : Int) ∧ 97 ≤ (s[k].toNat : Int) ∧ 122 < (s[k].toNat : Int)) by omega) with ⟨z1, z2, z3⟩ | ⟨z1, z2, z3, z4⟩ | ⟨z1, z2, z3, z4, z5⟩ | ⟨z1, z2, z3, z4, z5, z6⟩
            all_goals (try have y1 : decide ((s[k].toNat : Int) ≤ 90) = false := by rw [decide_eq_false_iff_not]; omega)
            all_goals (try have y2 : decide ((s[k].toNat : Int) ≤ 122) = false := by rw [decide_eq_false_iff_not]; omega)
            all_goals clear h1 h2 h4 h5 h6
            all_goals go_wp2
            all_goals go_ret
            all_goals exact ⟨ret_bool E.out.symm, rfl⟩
          · subst h3
            have E := Lib.hid (HN.out (by unfold okC; simp; omega))
            clear HY HN
            rcases (show ((s[0].toNat : Int) < 65 ∧ (s[0].toNat : Int) < 97) ∨ (65 ≤ (s[0].toNat : Int) ∧ 90 < (s[0].toNat : Int) ∧ (s[0].toNat : Int) < 97) ∨ (65 ≤ (s[0].toNat : Int) ∧ 90 < (s[0].toNat : Int) ∧ 97 ≤ (s[0].toNat : Int) ∧ 122 < (s[0].toNat : Int)) by omega) with ⟨z1, z2⟩ | ⟨z1, z2, z3⟩ | ⟨z1, z2, z3, z4⟩
            all_goals (try have y1 : decide ((s[0].toNat : Int) ≤ 90) = false := by rw [decide_eq_false_iff_not]; omega)
            all_goals (try have y2 : decide ((s[0].toNat : Int) ≤ 122) = false := by rw [decide_eq_false_iff_not]; omega)
            all_goals clear h1 h2
            all_goals go_wp2
            all_goals go_ret
            all_goals exact ⟨ret_bool E.out.symm, rfl⟩
        · have hk2 : k = s.size := by omega
          subst hk2
          have E := Lib.hid (nameB_yes (by omega) (by omega) HA.out)
          go_wp2
          go_ret
          exact ⟨ret_bool E.out.symm, rfl⟩
end Go.Proofs.Ytihjefncjkdnpaa
