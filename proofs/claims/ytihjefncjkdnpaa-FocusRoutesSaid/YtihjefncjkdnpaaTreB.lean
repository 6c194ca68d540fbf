/- Trees: contracts of items and fields. -/
import Derived.Test.YtihjefncjkdnpaaTreA
namespace Go.Proofs.Ytihjefncjkdnpaa
open Go.RowKit
set_option linter.unusedVariables false
set_option linter.unusedSimpArgs false

theorem all_items {l : List It} (h : ∀ j, j < l.length → itemB (l.getD j zIt) = true) : l.all itemB = true := by
  rw [List.all_eq_true]
  intro y hy
  obtain ⟨j, hj, rfl⟩ := List.getElem_of_mem hy
  have := h j hj
  rwa [List.getD_eq_getElem?_getD, List.getElem?_eq_getElem hj] at this
theorem all_items_no {l : List It} {j : Nat} (hj : j < l.length) (h : itemB (l.getD j zIt) = false) : l.all itemB = false := by
  rw [List.all_eq_false]
  refine ⟨l.getD j zIt, ?_, by rw [h]; decide⟩
  rw [List.getD_eq_getElem?_getD, List.getElem?_eq_getElem hj]
  exact List.getElem_mem hj
set_option maxRecDepth 100000 in
set_option maxHeartbeats 8000000 in
theorem tree_items_any (b o : Nat) (x : Nd) (w : World) (h : NdAt w b o x) (hz : b < w.heap.size) : Calls Try.prog 72 #[.pointer (some ⟨b, o, none⟩)] w fun e w' => e = .returned (.bool (itemsB x)) ∧ Below w.heap.size w w' := by
  obtain ⟨kv, cv, _, hcols, hc⟩ := h
  have c0 : w.cell? ⟨b, o, none⟩ = some (.int .i8 x.kind) := hc 0 (by omega)
  have c4 : w.cell? ⟨b, o + 4, none⟩ = some (.int .i8 x.iw.k) := hc 4 (by omega)
  have c5 : w.cell? ⟨b, o + 5, none⟩ = some (.int .i64 x.iw.n) := hc 5 (by omega)
  have c6 : w.cell? ⟨b, o + 6, none⟩ = some (.int .i64 x.iw.d) := hc 6 (by omega)
  have c7 : w.cell? ⟨b, o + 7, none⟩ = some (.int .i64 x.iw.lo) := hc 7 (by omega)
  have c8 : w.cell? ⟨b, o + 8, none⟩ = some (.int .i64 x.iw.hi) := hc 8 (by omega)
  have c9 : w.cell? ⟨b, o + 9, none⟩ = some (.int .i8 x.ih.k) := hc 9 (by omega)
  have c10 : w.cell? ⟨b, o + 10, none⟩ = some (.int .i64 x.ih.n) := hc 10 (by omega)
  have c11 : w.cell? ⟨b, o + 11, none⟩ = some (.int .i64 x.ih.d) := hc 11 (by omega)
  have c12 : w.cell? ⟨b, o + 12, none⟩ = some (.int .i64 x.ih.lo) := hc 12 (by omega)
  have c13 : w.cell? ⟨b, o + 13, none⟩ = some (.int .i64 x.ih.hi) := hc 13 (by omega)
  have c28 : w.cell? ⟨b, o + 28, none⟩ = some cv := hc 28 (by omega)
  obtain ⟨p, c, rfl, hl1, hl2, _, hcols⟩ := hcols
  have hn : x.cols.length ≤ 9223372036854775807 := by omega
  have HC := Lib.hid hcols
  clear hc hcols
  cases hW : itemB x.iw
  · have E := Lib.hid (show itemsB x = false by unfold itemsB; rw [hW]; rfl)
    have HW := Lib.hid hW
    clear hW
    go_enter Try.func72, Try.ntmps72
    go_wp2_with fail
    refine (solve_Right_any x.iw _).mono ?_
    rw [HW.out]
    rintro e w1 ⟨rfl, hb1⟩
    go_wp2
    go_ret
    exact ⟨ret_bool E.out.symm, hb1⟩
  · cases hH : itemB x.ih
    · have E := Lib.hid (show itemsB x = false by unfold itemsB; rw [hW, hH]; rfl)
      have HW := Lib.hid hW
      have HH := Lib.hid hH
      clear hW hH
      go_enter Try.func72, Try.ntmps72
      go_wp2_with fail
      refine (solve_Right_any x.iw _).mono ?_
      rw [HW.out]
      rintro e w1 ⟨rfl, hb1⟩
      obtain ⟨hc1, _⟩ := bcell hb1
      go_wp2_with fail
      refine (solve_Right_any x.ih _).mono ?_
      rw [HH.out]
      rintro e w2 ⟨rfl, hb2⟩
      go_wp2
      go_ret
      exact ⟨ret_bool E.out.symm, below_via hb2 hb1⟩
    · have E := Lib.hid (show itemsB x = (x.cols.all itemB && (if x.kind = 4 then decide (0 < x.cols.length ∧ x.cols.length ≤ 64) else if x.kind = 8 then decide (x.cols.length ≤ 64) else decide (x.cols.length = 0))) by unfold itemsB; rw [hW, hH]; rfl)
      have HW := Lib.hid hW
      have HH := Lib.hid hH
      clear hW hH
      go_enter Try.func72, Try.ntmps72
      go_wp2_with fail
      refine (solve_Right_any x.iw _).mono ?_
      rw [HW.out]
      rintro e w1 ⟨rfl, hb1⟩
      obtain ⟨hc1, _⟩ := bcell hb1
      go_wp2_with fail
      refine (solve_Right_any x.ih _).mono ?_
      rw [HH.out]
      rintro e w2 ⟨rfl, hb2⟩
      have B2 : Below w.heap.size w w2 := below_via hb2 hb1
      clear hc1 hb1 hb2
      have H0 : w2.cell? ⟨b, o, none⟩ = some (.int .i8 x.kind) := by rw [(bcell B2).1 _ _ hz]; exact c0
      have H28 : w2.cell? ⟨b, o + 28, none⟩ = some (.slice p x.cols.length c) := by rw [(bcell B2).1 _ _ hz]; exact c28
      clear c0 c4 c5 c6 c7 c8 c9 c10 c11 c12 c13 c28
      have H0 := Lib.hid H0
      go_wp2
      go_loopw [24] (fun i wr => ∃ k : Nat, k ≤ x.cols.length ∧ i = .int .i64 k ∧ RowKit.Hid (∀ j, j < k → itemB (x.cols.getD j zIt) = true) ∧ Below w.heap.size w wr ∧ wr.cell? ⟨b, o, none⟩ = some (.int .i8 x.kind) ∧ wr.cell? ⟨b, o + 28, none⟩ = some (.slice p x.cols.length c)) (fun i _ => x.cols.length - (intOf i).toNat)
      case atStart => exact ⟨0, Nat.zero_le _, rfl, Lib.hid (fun j hj => absurd hj (Nat.not_lt_zero _)), B2, H0.out, H28⟩
      case round =>
        clear H28 H0 B2
        obtain ⟨k, hk, rfl, HA, BW, r0, r28⟩ := hrel
        have SW := BW.size
        by_cases hlt : k < x.cols.length
        · obtain ⟨bc, oc, rfl, hbz, hcc⟩ := HC.out (by omega)
          have g : ∀ j, j < 5 → wr.cell? ⟨bc, oc + (k * 5 + j), none⟩ = (itV (x.cols.getD k zIt))[j]? := fun j hj => by rw [(bcell BW).1 _ _ hbz]; exact hcc k hlt j hj
          have hbw : bc < wr.heap.size := by omega
          have hzw : b < wr.heap.size := by omega
          cases hy : itemB (x.cols.getD k zIt)
          · have E := Lib.hid (E.out.trans (by rw [all_items_no hlt hy, Bool.false_and]))
            generalize x.cols.getD k zIt = y at *
            have HY := Lib.hid hy
            clear hy hcc
            have g0 : wr.cell? ⟨bc, oc + k * 5, none⟩ = some (.int .i8 y.k) := g 0 (by omega)
            have g1 : wr.cell? ⟨bc, oc + k * 5 + 1, none⟩ = some (.int .i64 y.n) := by rw [Nat.add_assoc]; exact g 1 (by omega)
            have g2 : wr.cell? ⟨bc, oc + k * 5 + 2, none⟩ = some (.int .i64 y.d) := by rw [Nat.add_assoc]; exact g 2 (by omega)
            have g3 : wr.cell? ⟨bc, oc + k * 5 + 3, none⟩ = some (.int .i64 y.lo) := by rw [Nat.add_assoc]; exact g 3 (by omega)
            have g4 : wr.cell? ⟨bc, oc + k * 5 + 4, none⟩ = some (.int .i64 y.hi) := by rw [Nat.add_assoc]; exact g 4 (by omega)
            clear g
            go_wp2_with fail
            refine (solve_Right_any y _).mono ?_
            rw [HY.out]
            rintro e w3 ⟨rfl, hb3⟩
            go_wp2
            go_ret
            exact ⟨ret_bool E.out.symm, below_via hb3 (by go_grown)⟩
          · have HA' := Lib.hid (show ∀ j, j < k + 1 → itemB (x.cols.getD j zIt) = true from fun j hj => by
              by_cases e : j = k
              · subst e; exact hy
              · exact HA.out j (by omega))
            clear HA
            generalize x.cols.getD k zIt = y at g hy
            have HY := Lib.hid hy
            clear hy hcc
            have g0 : wr.cell? ⟨bc, oc + k * 5, none⟩ = some (.int .i8 y.k) := g 0 (by omega)
            have g1 : wr.cell? ⟨bc, oc + k * 5 + 1, none⟩ = some (.int .i64 y.n) := by rw [Nat.add_assoc]; exact g 1 (by omega)
            have g2 : wr.cell? ⟨bc, oc + k * 5 + 2, none⟩ = some (.int .i64 y.d) := by rw [Nat.add_assoc]; exact g 2 (by omega)
            have g3 : wr.cell? ⟨bc, oc + k * 5 + 3, none⟩ = some (.int .i64 y.lo) := by rw [Nat.add_assoc]; exact g 3 (by omega)
            have g4 : wr.cell? ⟨bc, oc + k * 5 + 4, none⟩ = some (.int .i64 y.hi) := by rw [Nat.add_assoc]; exact g 4 (by omega)
            clear g
            go_wp2_with fail
            refine (solve_Right_any y _).mono ?_
            rw [HY.out]
            rintro e w3 ⟨rfl, hb3⟩
            have D3 := below_via hb3 (below_al (Below.refl wr.heap.size wr) _)
            have B3 : Below w.heap.size w w3 := below_via D3 BW
            have r0' : w3.cell? ⟨b, o, none⟩ = some (.int .i8 x.kind) := by rw [(bcell D3).1 _ _ hzw]; exact r0
            have r28' : w3.cell? ⟨b, o + 28, none⟩ = some (.slice (some ⟨bc, oc, none⟩) x.cols.length c) := by rw [(bcell D3).1 _ _ hzw]; exact r28
            clear hb3 D3 r0 r28
            go_wp2
            go_roundw
            case rel => exact ⟨k + 1, by omega, by go_num, HA', B3, r0', r28'⟩
            case measure => simp [intOf]; omega
        · obtain rfl : k = x.cols.length := by omega
          have E := Lib.hid (E.out.trans (by rw [all_items HA.out, Bool.true_and]))
          clear HA HC
          rcases (show x.kind = 4 ∨ x.kind = 8 ∨ (x.kind ≠ 4 ∧ x.kind ≠ 8) by omega) with hx | hx | ⟨h4, h8⟩
          · have E := Lib.hid (E.out.trans (by rw [if_pos hx]))
            rw [hx] at r0
            clear hx
            rcases (show x.cols.length = 0 ∨ 0 < x.cols.length by omega) with h0 | h0
            · have d0 : decide (0 < x.cols.length) = false := by rw [decide_eq_false_iff_not]; omega
              go_wp2
              go_ret
              exact ⟨ret_bool (E.out.trans (by rw [Bool.eq_iff_iff]; simp; omega)).symm, BW⟩
            · go_wp2
              go_ret
              exact ⟨ret_bool (E.out.trans (by rw [Bool.eq_iff_iff]; simp; omega)).symm, BW⟩
          · have E := Lib.hid (E.out.trans (by rw [if_neg (by omega), if_pos hx]))
            rw [hx] at r0
            clear hx
            go_wp2
            go_ret
            exact ⟨ret_bool (E.out.trans (by rw [Bool.eq_iff_iff]; first | (simp; done) | (simp; omega))).symm, BW⟩
          · have E := Lib.hid (E.out.trans (by rw [if_neg h4, if_neg h8]))
            have e4 : (x.kind == 4) = false := by rw [beq_eq_false_iff_ne]; exact h4
            have e8 : (x.kind == 8) = false := by rw [beq_eq_false_iff_ne]; exact h8
            clear h4 h8
            go_wp2
            go_ret
            exact ⟨ret_bool (E.out.trans (by rw [Bool.eq_iff_iff]; first | (simp; done) | (simp; omega))).symm, BW⟩
end Go.Proofs.Ytihjefncjkdnpaa
