/- Trees: contract of the reference's fields. -/
import Derived.Test.YtihjefncjkdnpaaTrrB
namespace Go.Proofs.Ytihjefncjkdnpaa
open Go.RowKit Go.Deep
set_option linter.unusedVariables false
set_option linter.unusedSimpArgs false

set_option maxRecDepth 100000 in
set_option maxHeartbeats 8000000 in
theorem ref_fields_any (x : Nd) (kv cv : Value) (w : World) (hx : NdOk x) : Calls Try.prog 79 #[.agg (ndV x kv cv).toArray] w fun e w' => e = .returned (.bool (fieldsB x)) ∧ Below w.heap.size w w' := by
  obtain ⟨cs, hcs⟩ : ∃ cs, cs = ndV x kv cv := ⟨_, rfl⟩
  obtain ⟨w0, hw0⟩ : ∃ w0, w0 = w.alloc (.cells cs.toArray 53) := ⟨_, rfl⟩
  have hc : ∀ j, j < 34 → w0.cell? ⟨w.heap.size, j, none⟩ = (ndV x kv cv)[j]? := fun j hj => by rw [hw0, hcs]; exact box_cells w x kv cv _ j hj
  have B0 : Below w.heap.size w w0 := by rw [hw0]; exact below_al (Below.refl _ _) _
  have hz : w.heap.size < w0.heap.size := by rw [hw0]; simp
  rw [← hcs]
  have HW0 := Lib.hid hw0
  clear hw0
  have c14 : w0.cell? ⟨w.heap.size, 14, none⟩ = some (.int .i64 x.gap) := hc 14 (by omega)
  have c19 : w0.cell? ⟨w.heap.size, 19, none⟩ = some (.int .i8 x.border) := hc 19 (by omega)
  have c20 : w0.cell? ⟨w.heap.size, 20, none⟩ = some (.int .i8 x.align) := hc 20 (by omega)
  have c21 : w0.cell? ⟨w.heap.size, 21, none⟩ = some (.int .i8 x.cross) := hc 21 (by omega)
  have c23 : w0.cell? ⟨w.heap.size, 23, none⟩ = some (.int .i8 x.wrap) := hc 23 (by omega)
  have c24 : w0.cell? ⟨w.heap.size, 24, none⟩ = some (.int .i32 x.fg) := hc 24 (by omega)
  have c25 : w0.cell? ⟨w.heap.size, 25, none⟩ = some (.int .i32 x.bg) := hc 25 (by omega)
  have c33 : w0.cell? ⟨w.heap.size, 33, none⟩ = some (.int .u8 x.flags) := hc 33 (by omega)
  have pads : ∀ i, i < 4 → w0.cell? ⟨w.heap.size, 15 + i, none⟩ = some (.int .i64 (padAt x i)) := fun i hi => by
    rcases i with _ | _ | _ | _ | i
    · exact hc 15 (by omega)
    · exact hc 16 (by omega)
    · exact hc 17 (by omega)
    · exact hc 18 (by omega)
    · omega
  have places : ∀ i, i < 4 → w0.cell? ⟨w.heap.size, 29 + i, none⟩ = some (.int .i64 (placeAt x i)) := fun i hi => by
    rcases i with _ | _ | _ | _ | i
    · exact hc 29 (by omega)
    · exact hc 30 (by omega)
    · exact hc 31 (by omega)
    · exact hc 32 (by omega)
    · omega
  have P := Lib.hid pads
  have Q := Lib.hid places
  have HF := Lib.hid hx.fg
  have HB := Lib.hid hx.bg
  clear hc pads places hx hcs
  rcases (show x.gap < 0 ∨ 0 ≤ x.gap by omega) with h0 | h0
  · have E := Lib.hid (show fieldsB x = false by unfold fieldsB; rw [show restB x = false by unfold restB; rw [decide_eq_false_iff_not]; omega, Bool.and_false]; rfl)
    go_enter Try.func79, Try.ntmps79
    go_upto_region 1 with (fail)
    rw [← HW0.out]
    go_wp2
    go_ret
    exact ⟨ret_bool E.out.symm, B0⟩
  rcases (show 4096 < x.gap ∨ x.gap ≤ 4096 by omega) with h1 | h1
  · have E := Lib.hid (show fieldsB x = false by unfold fieldsB; rw [show restB x = false by unfold restB; rw [decide_eq_false_iff_not]; omega, Bool.and_false]; rfl)
    go_enter Try.func79, Try.ntmps79
    go_upto_region 1 with (fail)
    rw [← HW0.out]
    go_wp2
    go_ret
    exact ⟨ret_bool E.out.symm, B0⟩
  rcases (show x.border < 0 ∨ 0 ≤ x.border by omega) with h2 | h2
  · have E := Lib.hid (show fieldsB x = false by unfold fieldsB; rw [show restB x = false by unfold restB; rw [decide_eq_false_iff_not]; omega, Bool.and_false]; rfl)
    go_enter Try.func79, Try.ntmps79
    go_upto_region 1 with (fail)
    rw [← HW0.out]
    go_wp2
    go_ret
    exact ⟨ret_bool E.out.symm, B0⟩
  rcases (show 4 < x.border ∨ x.border ≤ 4 by omega) with h3 | h3
  · have E := Lib.hid (show fieldsB x = false by unfold fieldsB; rw [show restB x = false by unfold restB; rw [decide_eq_false_iff_not]; omega, Bool.and_false]; rfl)
    go_enter Try.func79, Try.ntmps79
    go_upto_region 1 with (fail)
    rw [← HW0.out]
    go_wp2
    go_ret
    exact ⟨ret_bool E.out.symm, B0⟩
  rcases (show x.align < 0 ∨ 0 ≤ x.align by omega) with h4 | h4
  · have E := Lib.hid (show fieldsB x = false by unfold fieldsB; rw [show restB x = false by unfold restB; rw [decide_eq_false_iff_not]; omega, Bool.and_false]; rfl)
    go_enter Try.func79, Try.ntmps79
    go_upto_region 1 with (fail)
    rw [← HW0.out]
    go_wp2
    go_ret
    exact ⟨ret_bool E.out.symm, B0⟩
  rcases (show 5 < x.align ∨ x.align ≤ 5 by omega) with h5 | h5
  · have E := Lib.hid (show fieldsB x = false by unfold fieldsB; rw [show restB x = false by unfold restB; rw [decide_eq_false_iff_not]; omega, Bool.and_false]; rfl)
    go_enter Try.func79, Try.ntmps79
    go_upto_region 1 with (fail)
    rw [← HW0.out]
    go_wp2
    go_ret
    exact ⟨ret_bool E.out.symm, B0⟩
  rcases (show x.cross < 0 ∨ 0 ≤ x.cross by omega) with h6 | h6
  · have E := Lib.hid (show fieldsB x = false by unfold fieldsB; rw [show restB x = false by unfold restB; rw [decide_eq_false_iff_not]; omega, Bool.and_false]; rfl)
    go_enter Try.func79, Try.ntmps79
    go_upto_region 1 with (fail)
    rw [← HW0.out]
    go_wp2
    go_ret
    exact ⟨ret_bool E.out.symm, B0⟩
  rcases (show 5 < x.cross ∨ x.cross ≤ 5 by omega) with h7 | h7
  · have E := Lib.hid (show fieldsB x = false by unfold fieldsB; rw [show restB x = false by unfold restB; rw [decide_eq_false_iff_not]; omega, Bool.and_false]; rfl)
    go_enter Try.func79, Try.ntmps79
    go_upto_region 1 with (fail)
    rw [← HW0.out]
    go_wp2
    go_ret
    exact ⟨ret_bool E.out.symm, B0⟩
  rcases (show x.wrap < 0 ∨ 0 ≤ x.wrap by omega) with h8 | h8
  · have E := Lib.hid (show fieldsB x = false by unfold fieldsB; rw [show restB x = false by unfold restB; rw [decide_eq_false_iff_not]; omega, Bool.and_false]; rfl)
    go_enter Try.func79, Try.ntmps79
    go_upto_region 1 with (fail)
    rw [← HW0.out]
    go_wp2
    go_ret
    exact ⟨ret_bool E.out.symm, B0⟩
  rcases (show 2 < x.wrap ∨ x.wrap ≤ 2 by omega) with h9 | h9
  · have E := Lib.hid (show fieldsB x = false by unfold fieldsB; rw [show restB x = false by unfold restB; rw [decide_eq_false_iff_not]; omega, Bool.and_false]; rfl)
    go_enter Try.func79, Try.ntmps79
    go_upto_region 1 with (fail)
    rw [← HW0.out]
    go_wp2
    go_ret
    exact ⟨ret_bool E.out.symm, B0⟩
  rcases (show 7 < x.flags ∨ x.flags ≤ 7 by omega) with h10 | h10
  · have E := Lib.hid (show fieldsB x = false by unfold fieldsB; rw [show restB x = false by unfold restB; rw [decide_eq_false_iff_not]; omega, Bool.and_false]; rfl)
    go_enter Try.func79, Try.ntmps79
    go_upto_region 1 with (fail)
    rw [← HW0.out]
    go_wp2
    go_ret
    exact ⟨ret_bool E.out.symm, B0⟩
  have E := Lib.hid (show fieldsB x = (padsB x && (colB x.fg && colB x.bg)) by unfold fieldsB; rw [show restB x = true by unfold restB; rw [decide_eq_true_eq]; omega, Bool.and_true, Bool.and_assoc])
  go_enter Try.func79, Try.ntmps79
  go_upto_region 1 with (fail)
  rw [← HW0.out]
  go_wp2
  clear h0 h1 h2 h3 h4 h5 h6 h7 h8 h9 h10
  go_loop [3] (fun i => ∃ k : Nat, k ≤ 4 ∧ i = .int .i64 k ∧ RowKit.Hid (∀ j, j < k → padOk x j)) (fun i => 4 - (intOf i).toNat)
  case atStart => exact ⟨0, by omega, rfl, Lib.hid (fun j hj => absurd hj (Nat.not_lt_zero _))⟩
  case round =>
    obtain ⟨k, hk, rfl, HA⟩ := hrel
    by_cases hlt : k < 4
    · have p := P.out k hlt
      have q := Q.out k hlt
      have hd : decide ((k : Int) < 4) = true := by rw [decide_eq_true_eq]; omega
      have hk4 : (k : Int) < 4 := by omega
      rcases (show padAt x k < 0 ∨ (0 ≤ padAt x k ∧ 4096 < padAt x k) ∨ (0 ≤ padAt x k ∧ padAt x k ≤ 4096 ∧ placeAt x k < -4096) ∨ (0 ≤ padAt x k ∧ padAt x k ≤ 4096 ∧ -4096 ≤ placeAt x k ∧ 4096 < placeAt x k) ∨ (0 ≤ padAt x k ∧ padAt x k ≤ 4096 ∧ -4096 ≤ placeAt x k ∧ placeAt x k ≤ 4096) by omega) with g1 | ⟨g1, g2⟩ | ⟨g1, g2, g3⟩ | ⟨g1, g2, g3, g4⟩ | ⟨g1, g2, g3, g4⟩
      · have E := Lib.hid (E.out.trans (by rw [pads_no hlt (fun h => absurd h.1 (by omega)), Bool.false_and]))
        clear HA
        go_wp2
        go_ret
        exact ⟨ret_bool E.out.symm, B0⟩
      · have E := Lib.hid (E.out.trans (by rw [pads_no hlt (fun h => absurd h.2.1 (by omega)), Bool.false_and]))
        clear HA
        go_wp2
        go_ret
        exact ⟨ret_bool E.out.symm, B0⟩
      · have E := Lib.hid (E.out.trans (by rw [pads_no hlt (fun h => absurd h.2.2.1 (by omega)), Bool.false_and]))
        clear HA
        go_wp2
        go_ret
        exact ⟨ret_bool E.out.symm, B0⟩
      · have E := Lib.hid (E.out.trans (by rw [pads_no hlt (fun h => absurd h.2.2.2 (by omega)), Bool.false_and]))
        clear HA
        go_wp2
        go_ret
        exact ⟨ret_bool E.out.symm, B0⟩
      · have HA' := Lib.hid (show ∀ j, j < k + 1 → padOk x j from fun j hj => by
          by_cases e : j = k
          · subst e; exact ⟨g1, g2, g3, g4⟩
          · exact HA.out j (by omega))
        clear HA
        go_wp2
        go_round
        case rel => exact ⟨k + 1, by omega, by go_num, HA'⟩
        case measure => simp [intOf]; omega
    · obtain rfl : k = 4 := by omega
      have E := Lib.hid (E.out.trans (by rw [pads_yes HA.out, Bool.true_and]))
      clear HA P Q
      cases hf : colB x.fg
      · have E := Lib.hid (E.out.trans (by rw [hf, Bool.false_and]))
        have HC := Lib.hid hf
        clear hf
        go_wp2_with fail
        refine (ref_Right_any x.fg _ HF.out).mono ?_
        rw [HC.out]
        rintro e w' ⟨rfl, rfl⟩
        go_wp2
        go_ret
        exact ⟨ret_bool E.out.symm, B0⟩
      · have E := Lib.hid (E.out.trans (by rw [hf, Bool.true_and]))
        have HC := Lib.hid hf
        clear hf
        go_wp2_with fail
        refine (ref_Right_any x.fg _ HF.out).mono ?_
        rw [HC.out]
        rintro e w' ⟨rfl, rfl⟩
        go_wp2_with fail
        refine (ref_Right_any x.bg _ HB.out).mono ?_
        rintro e w' ⟨rfl, rfl⟩
        go_wp2
        go_ret
        exact ⟨ret_bool E.out.symm, B0⟩
end Go.Proofs.Ytihjefncjkdnpaa
