/- Trees: contract of fields. -/
import Derived.Test.YtihjefncjkdnpaaTreB
namespace Go.Proofs.Ytihjefncjkdnpaa
open Go.RowKit
set_option linter.unusedVariables false
set_option linter.unusedSimpArgs false

def padAt (x : Nd) (i : Nat) : Int := match i with | 0 => x.p0 | 1 => x.p1 | 2 => x.p2 | _ => x.p3
def placeAt (x : Nd) (i : Nat) : Int := match i with | 0 => x.x0 | 1 => x.x1 | 2 => x.x2 | _ => x.x3
def padOk (x : Nd) (i : Nat) : Prop := 0 ≤ padAt x i ∧ padAt x i ≤ 4096 ∧ -4096 ≤ placeAt x i ∧ placeAt x i ≤ 4096
theorem pads_yes {x : Nd} (h : ∀ i, i < 4 → padOk x i) : padsB x = true := by
  have h0 := h 0 (by omega); have h1 := h 1 (by omega); have h2 := h 2 (by omega); have h3 := h 3 (by omega)
  unfold padsB; rw [decide_eq_true_eq]; exact ⟨h0, h1, h2, h3⟩
theorem pads_no {x : Nd} {i : Nat} (hi : i < 4) (h : ¬ padOk x i) : padsB x = false := by
  unfold padsB; rw [decide_eq_false_iff_not]
  rintro ⟨h0, h1, h2, h3⟩
  rcases i with _ | _ | _ | _ | i
  · exact h h0
  · exact h h1
  · exact h h2
  · exact h h3
  · omega
set_option maxRecDepth 100000 in
set_option maxHeartbeats 8000000 in
theorem tree_fields_any (b o : Nat) (x : Nd) (w : World) (h : NdAt w b o x) (hx : NdOk x) : Calls Try.prog 73 #[.pointer (some ⟨b, o, none⟩)] w fun e w' => e = .returned (.bool (fieldsB x)) ∧ w = w' := by
  obtain ⟨kv, cv, _, _, hc⟩ := h
  have c14 : w.cell? ⟨b, o + 14, none⟩ = some (.int .i64 x.gap) := hc 14 (by omega)
  have c19 : w.cell? ⟨b, o + 19, none⟩ = some (.int .i8 x.border) := hc 19 (by omega)
  have c20 : w.cell? ⟨b, o + 20, none⟩ = some (.int .i8 x.align) := hc 20 (by omega)
  have c21 : w.cell? ⟨b, o + 21, none⟩ = some (.int .i8 x.cross) := hc 21 (by omega)
  have c23 : w.cell? ⟨b, o + 23, none⟩ = some (.int .i8 x.wrap) := hc 23 (by omega)
  have c24 : w.cell? ⟨b, o + 24, none⟩ = some (.int .i32 x.fg) := hc 24 (by omega)
  have c25 : w.cell? ⟨b, o + 25, none⟩ = some (.int .i32 x.bg) := hc 25 (by omega)
  have c33 : w.cell? ⟨b, o + 33, none⟩ = some (.int .u8 x.flags) := hc 33 (by omega)
  have pads : ∀ i, i < 4 → w.cell? ⟨b, o + 15 + i, none⟩ = some (.int .i64 (padAt x i)) := fun i hi => by
    rw [Nat.add_assoc]
    rcases i with _ | _ | _ | _ | i
    · exact hc 15 (by omega)
    · exact hc 16 (by omega)
    · exact hc 17 (by omega)
    · exact hc 18 (by omega)
    · omega
  have places : ∀ i, i < 4 → w.cell? ⟨b, o + 29 + i, none⟩ = some (.int .i64 (placeAt x i)) := fun i hi => by
    rw [Nat.add_assoc]
    rcases i with _ | _ | _ | _ | i
    · exact hc 29 (by omega)
    · exact hc 30 (by omega)
    · exact hc 31 (by omega)
    · exact hc 32 (by omega)
    · omega
  have b1 := hx.border
  have b2 := hx.align
  have b3 := hx.cross
  have b4 := hx.wrap
  have b5 := hx.flags
  have P := Lib.hid pads
  have Q := Lib.hid places
  clear hc pads places hx
  go_enter Try.func73, Try.ntmps73
  go_wp2
  go_loop [4] (fun i => ∃ k : Nat, k ≤ 4 ∧ i = .int .i64 k ∧ RowKit.Hid (∀ j, j < k → padOk x j)) (fun i => 4 - (intOf i).toNat)
  case atStart => exact ⟨0, by omega, rfl, Lib.hid (fun j hj => absurd hj (Nat.not_lt_zero _))⟩
  case round =>
    obtain ⟨k, hk, rfl, HA⟩ := hrel
    by_cases hlt : k < 4
    · have p := P.out k hlt
      have q := Q.out k hlt
      have hd : decide ((k : Int) < 4) = true := by rw [decide_eq_true_eq]; omega
      have hk4 : (k : Int) < 4 := by omega
      by_cases h1 : 0 ≤ padAt x k ∧ padAt x k ≤ 4096
      · by_cases h2 : -4096 ≤ placeAt x k ∧ placeAt x k ≤ 4096
        · have HA' := Lib.hid (show ∀ j, j < k + 1 → padOk x j from fun j hj => by
            by_cases e : j = k
            · subst e; exact ⟨h1.1, h1.2, h2.1, h2.2⟩
            · exact HA.out j (by omega))
          have D := Lib.hid (show decide (0 ≤ padAt x k ∧ padAt x k ≤ 4096) = true by rw [decide_eq_true_eq]; exact h1)
          obtain ⟨h3, h4⟩ := h2
          clear HA h1
          go_wp2_with fail
          refine (tree_from_any (padAt x k) 4096 _).mono ?_
          rw [D.out]
          rintro e w' ⟨rfl, rfl⟩
          go_wp2
          go_round
          case rel => exact ⟨k + 1, by omega, by go_num, HA'⟩
          case measure => simp [intOf]; omega
        · have E := Lib.hid (show fieldsB x = false by unfold fieldsB; rw [pads_no hlt (fun h => h2 ⟨h.2.2.1, h.2.2.2⟩)]; rfl)
          have D := Lib.hid (show decide (0 ≤ padAt x k ∧ padAt x k ≤ 4096) = true by rw [decide_eq_true_eq]; exact h1)
          rcases (show placeAt x k < -4096 ∨ (-4096 ≤ placeAt x k ∧ 4096 < placeAt x k) by omega) with h3 | ⟨h3, h4⟩
          all_goals clear h1 h2 HA
          all_goals go_wp2_with fail
          all_goals refine (tree_from_any (padAt x k) 4096 _).mono ?_
          all_goals rw [D.out]
          all_goals rintro e w' ⟨rfl, rfl⟩
          all_goals go_wp2
          all_goals go_ret
          all_goals exact ⟨ret_bool E.out.symm, rfl⟩
      · have E := Lib.hid (show fieldsB x = false by unfold fieldsB; rw [pads_no hlt (fun h => h1 ⟨h.1, h.2.1⟩)]; rfl)
        have D := Lib.hid (show decide (0 ≤ padAt x k ∧ padAt x k ≤ 4096) = false by rw [decide_eq_false_iff_not]; exact h1)
        clear h1 HA
        go_wp2_with fail
        refine (tree_from_any (padAt x k) 4096 _).mono ?_
        rw [D.out]
        rintro e w' ⟨rfl, rfl⟩
        go_wp2
        go_ret
        exact ⟨ret_bool E.out.symm, rfl⟩
    · obtain rfl : k = 4 := by omega
      have E := Lib.hid (show fieldsB x = (restB x && colB x.fg && colB x.bg) by unfold fieldsB; rw [pads_yes HA.out]; rfl)
      clear HA P Q
      by_cases h0 : 0 ≤ x.gap ∧ x.gap ≤ 4096
      · have D0 := Lib.hid (show decide (0 ≤ x.gap ∧ x.gap ≤ 4096) = true by rw [decide_eq_true_eq]; exact h0)
        by_cases h1 : 0 ≤ x.border ∧ x.border ≤ 4
        · have D1 := Lib.hid (show decide (0 ≤ x.border ∧ x.border ≤ 4) = true by rw [decide_eq_true_eq]; exact h1)
          by_cases h2 : 0 ≤ x.align ∧ x.align ≤ 5
          · have D2 := Lib.hid (show decide (0 ≤ x.align ∧ x.align ≤ 5) = true by rw [decide_eq_true_eq]; exact h2)
            by_cases h3 : 0 ≤ x.cross ∧ x.cross ≤ 5
            · have D3 := Lib.hid (show decide (0 ≤ x.cross ∧ x.cross ≤ 5) = true by rw [decide_eq_true_eq]; exact h3)
              by_cases h4 : 0 ≤ x.wrap ∧ x.wrap ≤ 2
              · have D4 := Lib.hid (show decide (0 ≤ x.wrap ∧ x.wrap ≤ 2) = true by rw [decide_eq_true_eq]; exact h4)
                rcases (show x.flags ≤ 7 ∨ 7 < x.flags by omega) with f7 | f7
                · have E := Lib.hid (E.out.trans (show _ = (colB x.fg && colB x.bg) by rw [show restB x = true by unfold restB; rw [decide_eq_true_eq]; omega, Bool.true_and]))
                  clear h0 h1 h2 h3 h4
                  cases hf : colB x.fg
                  · have E := Lib.hid (E.out.trans (by rw [hf, Bool.false_and]))
                    have HF := Lib.hid hf
                    clear hf
                    go_wp2_with fail
                    refine (tree_from_any (x.gap) 4096 _).mono ?_
                    rw [show decide (0 ≤ x.gap ∧ x.gap ≤ 4096) = true from D0.out]
                    rintro e w' ⟨rfl, rfl⟩
                    go_wp2_with fail
                    refine (tree_from_any (x.border) 4 _).mono ?_
                    rw [show decide (0 ≤ x.border ∧ x.border ≤ 4) = true from D1.out]
                    rintro e w' ⟨rfl, rfl⟩
                    go_wp2_with fail
                    refine (tree_from_any (x.align) 5 _).mono ?_
                    rw [show decide (0 ≤ x.align ∧ x.align ≤ 5) = true from D2.out]
                    rintro e w' ⟨rfl, rfl⟩
                    go_wp2_with fail
                    refine (tree_from_any (x.cross) 5 _).mono ?_
                    rw [show decide (0 ≤ x.cross ∧ x.cross ≤ 5) = true from D3.out]
                    rintro e w' ⟨rfl, rfl⟩
                    go_wp2_with fail
                    refine (tree_from_any (x.wrap) 2 _).mono ?_
                    rw [show decide (0 ≤ x.wrap ∧ x.wrap ≤ 2) = true from D4.out]
                    rintro e w' ⟨rfl, rfl⟩
                    go_wp2_with fail
                    refine (tint_Right_any x.fg _).mono ?_
                    rw [HF.out]
                    rintro e w' ⟨rfl, rfl⟩
                    go_wp2
                    go_ret
                    exact ⟨ret_bool E.out.symm, rfl⟩
                  · have E := Lib.hid (E.out.trans (by rw [hf, Bool.true_and]))
                    have HF := Lib.hid hf
                    clear hf
                    go_wp2_with fail
                    refine (tree_from_any (x.gap) 4096 _).mono ?_
                    rw [show decide (0 ≤ x.gap ∧ x.gap ≤ 4096) = true from D0.out]
                    rintro e w' ⟨rfl, rfl⟩
                    go_wp2_with fail
                    refine (tree_from_any (x.border) 4 _).mono ?_
                    rw [show decide (0 ≤ x.border ∧ x.border ≤ 4) = true from D1.out]
                    rintro e w' ⟨rfl, rfl⟩
                    go_wp2_with fail
                    refine (tree_from_any (x.align) 5 _).mono ?_
                    rw [show decide (0 ≤ x.align ∧ x.align ≤ 5) = true from D2.out]
                    rintro e w' ⟨rfl, rfl⟩
                    go_wp2_with fail
                    refine (tree_from_any (x.cross) 5 _).mono ?_
                    rw [show decide (0 ≤ x.cross ∧ x.cross ≤ 5) = true from D3.out]
                    rintro e w' ⟨rfl, rfl⟩
                    go_wp2_with fail
                    refine (tree_from_any (x.wrap) 2 _).mono ?_
                    rw [show decide (0 ≤ x.wrap ∧ x.wrap ≤ 2) = true from D4.out]
                    rintro e w' ⟨rfl, rfl⟩
                    go_wp2_with fail
                    refine (tint_Right_any x.fg _).mono ?_
                    rw [HF.out]
                    rintro e w' ⟨rfl, rfl⟩
                    go_wp2_with fail
                    refine (tint_Right_any x.bg _).mono ?_
                    rintro e w' ⟨rfl, rfl⟩
                    go_wp2
                    go_ret
                    exact ⟨ret_bool E.out.symm, rfl⟩
                · have E := Lib.hid (E.out.trans (show _ = false by rw [show restB x = false by unfold restB; rw [decide_eq_false_iff_not]; omega]; rfl))
                  clear h0 h1 h2 h3 h4
                  go_wp2_with fail
                  refine (tree_from_any (x.gap) 4096 _).mono ?_
                  rw [show decide (0 ≤ x.gap ∧ x.gap ≤ 4096) = true from D0.out]
                  rintro e w' ⟨rfl, rfl⟩
                  go_wp2_with fail
                  refine (tree_from_any (x.border) 4 _).mono ?_
                  rw [show decide (0 ≤ x.border ∧ x.border ≤ 4) = true from D1.out]
                  rintro e w' ⟨rfl, rfl⟩
                  go_wp2_with fail
                  refine (tree_from_any (x.align) 5 _).mono ?_
                  rw [show decide (0 ≤ x.align ∧ x.align ≤ 5) = true from D2.out]
                  rintro e w' ⟨rfl, rfl⟩
                  go_wp2_with fail
                  refine (tree_from_any (x.cross) 5 _).mono ?_
                  rw [show decide (0 ≤ x.cross ∧ x.cross ≤ 5) = true from D3.out]
                  rintro e w' ⟨rfl, rfl⟩
                  go_wp2_with fail
                  refine (tree_from_any (x.wrap) 2 _).mono ?_
                  rw [show decide (0 ≤ x.wrap ∧ x.wrap ≤ 2) = true from D4.out]
                  rintro e w' ⟨rfl, rfl⟩
                  go_wp2
                  go_ret
                  exact ⟨ret_bool E.out.symm, rfl⟩
              · have D4 := Lib.hid (show decide (0 ≤ x.wrap ∧ x.wrap ≤ 2) = false by rw [decide_eq_false_iff_not]; exact h4)
                have E := Lib.hid (E.out.trans (show _ = false by rw [show restB x = false by unfold restB; rw [decide_eq_false_iff_not]; omega]; rfl))
                clear h0 h1 h2 h3 h4
                go_wp2_with fail
                refine (tree_from_any (x.gap) 4096 _).mono ?_
                rw [show decide (0 ≤ x.gap ∧ x.gap ≤ 4096) = true from D0.out]
                rintro e w' ⟨rfl, rfl⟩
                go_wp2_with fail
                refine (tree_from_any (x.border) 4 _).mono ?_
                rw [show decide (0 ≤ x.border ∧ x.border ≤ 4) = true from D1.out]
                rintro e w' ⟨rfl, rfl⟩
                go_wp2_with fail
                refine (tree_from_any (x.align) 5 _).mono ?_
                rw [show decide (0 ≤ x.align ∧ x.align ≤ 5) = true from D2.out]
                rintro e w' ⟨rfl, rfl⟩
                go_wp2_with fail
                refine (tree_from_any (x.cross) 5 _).mono ?_
                rw [show decide (0 ≤ x.cross ∧ x.cross ≤ 5) = true from D3.out]
                rintro e w' ⟨rfl, rfl⟩
                go_wp2_with fail
                refine (tree_from_any (x.wrap) 2 _).mono ?_
                rw [show decide (0 ≤ x.wrap ∧ x.wrap ≤ 2) = false from D4.out]
                rintro e w' ⟨rfl, rfl⟩
                go_wp2
                go_ret
                exact ⟨ret_bool E.out.symm, rfl⟩
            · have D3 := Lib.hid (show decide (0 ≤ x.cross ∧ x.cross ≤ 5) = false by rw [decide_eq_false_iff_not]; exact h3)
              have E := Lib.hid (E.out.trans (show _ = false by rw [show restB x = false by unfold restB; rw [decide_eq_false_iff_not]; omega]; rfl))
              clear h0 h1 h2 h3
              go_wp2_with fail
              refine (tree_from_any (x.gap) 4096 _).mono ?_
              rw [show decide (0 ≤ x.gap ∧ x.gap ≤ 4096) = true from D0.out]
              rintro e w' ⟨rfl, rfl⟩
              go_wp2_with fail
              refine (tree_from_any (x.border) 4 _).mono ?_
              rw [show decide (0 ≤ x.border ∧ x.border ≤ 4) = true from D1.out]
              rintro e w' ⟨rfl, rfl⟩
              go_wp2_with fail
              refine (tree_from_any (x.align) 5 _).mono ?_
              rw [show decide (0 ≤ x.align ∧ x.align ≤ 5) = true from D2.out]
              rintro e w' ⟨rfl, rfl⟩
              go_wp2_with fail
              refine (tree_from_any (x.cross) 5 _).mono ?_
              rw [show decide (0 ≤ x.cross ∧ x.cross ≤ 5) = false from D3.out]
              rintro e w' ⟨rfl, rfl⟩
              go_wp2
              go_ret
              exact ⟨ret_bool E.out.symm, rfl⟩
          · have D2 := Lib.hid (show decide (0 ≤ x.align ∧ x.align ≤ 5) = false by rw [decide_eq_false_iff_not]; exact h2)
            have E := Lib.hid (E.out.trans (show _ = false by rw [show restB x = false by unfold restB; rw [decide_eq_false_iff_not]; omega]; rfl))
            clear h0 h1 h2
            go_wp2_with fail
            refine (tree_from_any (x.gap) 4096 _).mono ?_
            rw [show decide (0 ≤ x.gap ∧ x.gap ≤ 4096) = true from D0.out]
            rintro e w' ⟨rfl, rfl⟩
            go_wp2_with fail
            refine (tree_from_any (x.border) 4 _).mono ?_
            rw [show decide (0 ≤ x.border ∧ x.border ≤ 4) = true from D1.out]
            rintro e w' ⟨rfl, rfl⟩
            go_wp2_with fail
            refine (tree_from_any (x.align) 5 _).mono ?_
            rw [show decide (0 ≤ x.align ∧ x.align ≤ 5) = false from D2.out]
            rintro e w' ⟨rfl, rfl⟩
            go_wp2
            go_ret
            exact ⟨ret_bool E.out.symm, rfl⟩
        · have D1 := Lib.hid (show decide (0 ≤ x.border ∧ x.border ≤ 4) = false by rw [decide_eq_false_iff_not]; exact h1)
          have E := Lib.hid (E.out.trans (show _ = false by rw [show restB x = false by unfold restB; rw [decide_eq_false_iff_not]; omega]; rfl))
          clear h0 h1
          go_wp2_with fail
          refine (tree_from_any (x.gap) 4096 _).mono ?_
          rw [show decide (0 ≤ x.gap ∧ x.gap ≤ 4096) = true from D0.out]
          rintro e w' ⟨rfl, rfl⟩
          go_wp2_with fail
          refine (tree_from_any (x.border) 4 _).mono ?_
          rw [show decide (0 ≤ x.border ∧ x.border ≤ 4) = false from D1.out]
          rintro e w' ⟨rfl, rfl⟩
          go_wp2
          go_ret
          exact ⟨ret_bool E.out.symm, rfl⟩
      · have D0 := Lib.hid (show decide (0 ≤ x.gap ∧ x.gap ≤ 4096) = false by rw [decide_eq_false_iff_not]; exact h0)
        have E := Lib.hid (E.out.trans (show _ = false by rw [show restB x = false by unfold restB; rw [decide_eq_false_iff_not]; omega]; rfl))
        clear h0
        go_wp2_with fail
        refine (tree_from_any (x.gap) 4096 _).mono ?_
        rw [show decide (0 ≤ x.gap ∧ x.gap ≤ 4096) = false from D0.out]
        rintro e w' ⟨rfl, rfl⟩
        go_wp2
        go_ret
        exact ⟨ret_bool E.out.symm, rfl⟩
end Go.Proofs.Ytihjefncjkdnpaa
