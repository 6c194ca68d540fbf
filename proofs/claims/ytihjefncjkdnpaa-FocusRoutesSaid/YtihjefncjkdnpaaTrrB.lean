/- Trees: contracts of the reference's items, fields. -/
import Derived.Test.YtihjefncjkdnpaaTrrA
import Derived.Outline
namespace Go.Proofs.Ytihjefncjkdnpaa
open Go.RowKit Go.Deep
set_option linter.unusedVariables false
set_option linter.unusedSimpArgs false

theorem box_cells (w : World) (x : Nd) (kv cv : Value) (T : TypeId) (j : Nat) (hj : j < 34) : (w.alloc (.cells (ndV x kv cv).toArray T)).cell? ⟨w.heap.size, j, none⟩ = (ndV x kv cv)[j]? := by
  rw [cell_of_row _ w.heap.size j (ndV x kv cv).toArray T (0, 0) (blk_alloc_new _ _)]
  simp
set_option maxRecDepth 100000 in
set_option maxHeartbeats 8000000 in
theorem ref_items_any (x : Nd) (kv cv : Value) (w : World) (hcols : ItsAt w cv x.cols) : Calls Try.prog 78 #[.agg (ndV x kv cv).toArray] w fun e w' => e = .returned (.bool (itemsB x)) ∧ Below w.heap.size w w' := by
  obtain ⟨cs, hcs⟩ : ∃ cs, cs = ndV x kv cv := ⟨_, rfl⟩
  obtain ⟨w0, hw0⟩ : ∃ w0, w0 = w.alloc (.cells cs.toArray 53) := ⟨_, rfl⟩
  have hc : ∀ j, j < 34 → w0.cell? ⟨w.heap.size, j, none⟩ = (ndV x kv cv)[j]? := fun j hj => by rw [hw0, hcs]; exact box_cells w x kv cv _ j hj
  have B0 : Below w.heap.size w w0 := by rw [hw0]; exact below_al (Below.refl _ _) _
  have hz : w.heap.size < w0.heap.size := by rw [hw0]; simp
  rw [← hcs]
  have HW0 := Lib.hid hw0
  clear hw0
  have hcols0 := hcols.later B0 (Nat.le_refl _)
  clear hcols
  obtain ⟨p, c, rfl, hl1, hl2, _, hcols⟩ := hcols0
  have hn : x.cols.length ≤ 9223372036854775807 := by omega
  have HC := Lib.hid hcols
  have c0 : w0.cell? ⟨w.heap.size, 0, none⟩ = some (.int .i8 x.kind) := hc 0 (by omega)
  have c4 : w0.cell? ⟨w.heap.size, 4, none⟩ = some (.int .i8 x.iw.k) := hc 4 (by omega)
  have c5 : w0.cell? ⟨w.heap.size, 5, none⟩ = some (.int .i64 x.iw.n) := hc 5 (by omega)
  have c6 : w0.cell? ⟨w.heap.size, 6, none⟩ = some (.int .i64 x.iw.d) := hc 6 (by omega)
  have c7 : w0.cell? ⟨w.heap.size, 7, none⟩ = some (.int .i64 x.iw.lo) := hc 7 (by omega)
  have c8 : w0.cell? ⟨w.heap.size, 8, none⟩ = some (.int .i64 x.iw.hi) := hc 8 (by omega)
  have c9 : w0.cell? ⟨w.heap.size, 9, none⟩ = some (.int .i8 x.ih.k) := hc 9 (by omega)
  have c10 : w0.cell? ⟨w.heap.size, 10, none⟩ = some (.int .i64 x.ih.n) := hc 10 (by omega)
  have c11 : w0.cell? ⟨w.heap.size, 11, none⟩ = some (.int .i64 x.ih.d) := hc 11 (by omega)
  have c12 : w0.cell? ⟨w.heap.size, 12, none⟩ = some (.int .i64 x.ih.lo) := hc 12 (by omega)
  have c13 : w0.cell? ⟨w.heap.size, 13, none⟩ = some (.int .i64 x.ih.hi) := hc 13 (by omega)
  have c28 : w0.cell? ⟨w.heap.size, 28, none⟩ = some (.slice p x.cols.length c) := hc 28 (by omega)
  clear hc hcols hcs
  cases hW : itemB x.iw
  · have E := Lib.hid (show itemsB x = false by unfold itemsB; rw [hW]; rfl)
    have HW := Lib.hid hW
    clear hW
    go_enter Try.func78, Try.ntmps78
    go_upto_region 1 with (fail)
    rw [← HW0.out]
    go_wp2_with fail
    refine (ref_Item_any x.iw _).mono ?_
    rw [HW.out]
    rintro e w1 ⟨rfl, hb1⟩
    go_wp2
    go_ret
    exact ⟨ret_bool E.out.symm, below_via (hb1) B0⟩
  · cases hH : itemB x.ih
    · have E := Lib.hid (show itemsB x = false by unfold itemsB; rw [hW, hH]; rfl)
      have HW := Lib.hid hW
      have HH := Lib.hid hH
      clear hW hH
      go_enter Try.func78, Try.ntmps78
      go_upto_region 1 with (fail)
      rw [← HW0.out]
      go_wp2_with fail
      refine (ref_Item_any x.iw _).mono ?_
      rw [HW.out]
      rintro e w1 ⟨rfl, hb1⟩
      obtain ⟨hc1, _⟩ := bcell hb1
      go_wp2_with fail
      refine (ref_Item_any x.ih _).mono ?_
      rw [HH.out]
      rintro e w2 ⟨rfl, hb2⟩
      go_wp2
      go_ret
      exact ⟨ret_bool E.out.symm, below_via (below_via hb2 hb1) B0⟩
    · have E := Lib.hid (show itemsB x = (x.cols.all itemB && (if x.kind = 4 then decide (0 < x.cols.length ∧ x.cols.length ≤ 64) else if x.kind = 8 then decide (x.cols.length ≤ 64) else decide (x.cols.length = 0))) by unfold itemsB; rw [hW, hH]; rfl)
      have HW := Lib.hid hW
      have HH := Lib.hid hH
      clear hW hH
      go_enter Try.func78, Try.ntmps78
      go_upto_region 1 with (fail)
      rw [← HW0.out]
      go_wp2_with fail
      refine (ref_Item_any x.iw _).mono ?_
      rw [HW.out]
      rintro e w1 ⟨rfl, hb1⟩
      obtain ⟨hc1, _⟩ := bcell hb1
      go_wp2_with fail
      refine (ref_Item_any x.ih _).mono ?_
      rw [HH.out]
      rintro e w2 ⟨rfl, hb2⟩
      have B2 : Below w0.heap.size w0 w2 := below_via hb2 hb1
      clear hc1 hb1 hb2
      have H0 : w2.cell? ⟨w.heap.size, 0, none⟩ = some (.int .i8 x.kind) := by rw [(bcell B2).1 _ _ hz]; exact c0
      have H28 : w2.cell? ⟨w.heap.size, 28, none⟩ = some (.slice p x.cols.length c) := by rw [(bcell B2).1 _ _ hz]; exact c28
      clear c0 c4 c5 c6 c7 c8 c9 c10 c11 c12 c13 c28
      have H0 := Lib.hid H0
      go_wp2
      go_loopw [3] (fun i wr => ∃ k : Nat, k ≤ x.cols.length ∧ i = .int .i64 k ∧ RowKit.Hid (∀ j, j < k → itemB (x.cols.getD j zIt) = true) ∧ Below w0.heap.size w0 wr ∧ wr.cell? ⟨w.heap.size, 0, none⟩ = some (.int .i8 x.kind) ∧ wr.cell? ⟨w.heap.size, 28, none⟩ = some (.slice p x.cols.length c)) (fun i _ => x.cols.length - (intOf i).toNat)
      case atStart => exact ⟨0, Nat.zero_le _, rfl, Lib.hid (fun j hj => absurd hj (Nat.not_lt_zero _)), B2, H0.out, H28⟩
      case round =>
        clear H28 H0 B2
        obtain ⟨k, hk, rfl, HA, BW, r0, r28⟩ := hrel
        have SW := BW.size
        by_cases hlt : k < x.cols.length
        · obtain ⟨bc, oc, rfl, hbz, hcc⟩ := HC.out (by omega)
          have g : ∀ j, j < 5 → wr.cell? ⟨bc, oc + (k * 5 + j), none⟩ = (itV (x.cols.getD k zIt))[j]? := fun j hj => by rw [(bcell BW).1 _ _ hbz]; exact hcc k hlt j hj
          have hbw : bc < wr.heap.size := by omega
          have hzw : w.heap.size < wr.heap.size := by omega
          cases hy : itemB (x.cols.getD k zIt)
          · have E := Lib.hid (E.out.trans (by rw [all_items_no hlt hy, Bool.false_and]))
            generalize x.cols.getD k zIt = y at *
            have HY := Lib.hid hy
            clear hy hcc
            have g0 : wr.cell? ⟨bc, oc + k * 5, none⟩ = some (.int .i8 y.k) := g 0 (by omega)
            have g1 : wr.cell? ⟨bc, oc + k * 5 + 1, none⟩ = some (.int .i64 y.n) := by rw [Nat.add_assoc]; exact g 1 (by omega)
            have g2 : wr.cell? ⟨bc, oc + k * 5 + 2, none⟩ = some (.int .i64 y.d) := by rw [Nat.add_assoc]; exact g 2 (by omega)
            have g3 : wr.cell? ⟨bc, oc + k * 5 + 3, none⟩ = some (.int .i64 y.lo) := by rw [Nat.add_assoc]; exact g 3 (by omega)
            have g4 : wr.cell? ⟨bc, oc + k * 5 + 4, none⟩ = some (.int .i64 y.hi) := by rw [Nat.add_assoc]; exact g 4 (by omega)
            clear g
            go_wp2_with fail
            refine (ref_Item_any y _).mono ?_
            rw [HY.out]
            rintro e w3 ⟨rfl, hb3⟩
            go_wp2
            go_ret
            exact ⟨ret_bool E.out.symm, below_via (below_via hb3 BW) B0⟩
          · have HA' := Lib.hid (show ∀ j, j < k + 1 → itemB (x.cols.getD j zIt) = true from fun j hj => by
              by_cases e : j = k
              · subst e; exact hy
              · exact HA.out j (by omega))
            clear HA
            generalize x.cols.getD k zIt = y at g hy
            have HY := Lib.hid hy
            clear hy hcc
            have g0 : wr.cell? ⟨bc, oc + k * 5, none⟩ = some (.int .i8 y.k) := g 0 (by omega)
            have g1 : wr.cell? ⟨bc, oc + k * 5 + 1, none⟩ = some (.int .i64 y.n) := by rw [Nat.add_assoc]; exact g 1 (by omega)
            have g2 : wr.cell? ⟨bc, oc + k * 5 + 2, none⟩ = some (.int .i64 y.d) := by rw [Nat.add_assoc]; exact g 2 (by omega)
            have g3 : wr.cell? ⟨bc, oc + k * 5 + 3, none⟩ = some (.int .i64 y.lo) := by rw [Nat.add_assoc]; exact g 3 (by omega)
            have g4 : wr.cell? ⟨bc, oc + k * 5 + 4, none⟩ = some (.int .i64 y.hi) := by rw [Nat.add_assoc]; exact g 4 (by omega)
            clear g
            go_wp2_with fail
            refine (ref_Item_any y _).mono ?_
            rw [HY.out]
            rintro e w3 ⟨rfl, hb3⟩
            have D3 := hb3
            have B3 : Below w0.heap.size w0 w3 := below_via D3 BW
            have r0' : w3.cell? ⟨w.heap.size, 0, none⟩ = some (.int .i8 x.kind) := by rw [(bcell D3).1 _ _ hzw]; exact r0
            have r28' : w3.cell? ⟨w.heap.size, 28, none⟩ = some (.slice (some ⟨bc, oc, none⟩) x.cols.length c) := by rw [(bcell D3).1 _ _ hzw]; exact r28
            clear hb3 D3 r0 r28
            go_wp2
            go_roundw
            case rel => exact ⟨k + 1, by omega, by go_num, HA', B3, r0', r28'⟩
            case measure => simp [intOf]; omega
        · obtain rfl : k = x.cols.length := by omega
          have E := Lib.hid (E.out.trans (by rw [all_items HA.out, Bool.true_and]))
          clear HA HC
          rcases (show x.kind = 4 ∨ x.kind = 8 ∨ (x.kind ≠ 4 ∧ x.kind ≠ 8) by omega) with hx | hx | ⟨h4, h8⟩
          · have E := Lib.hid (E.out.trans (by rw [if_pos hx]))
            rw [hx] at r0
            clear hx
            rcases (show x.cols.length = 0 ∨ 0 < x.cols.length by omega) with h0 | h0
            · have d0 : decide (0 < x.cols.length) = false := by rw [decide_eq_false_iff_not]; omega
              go_wp2
              go_ret
              exact ⟨ret_bool (E.out.trans (by rw [Bool.eq_iff_iff]; simp; omega)).symm, below_via (BW) B0⟩
            · go_wp2
              go_ret
              exact ⟨ret_bool (E.out.trans (by rw [Bool.eq_iff_iff]; simp; omega)).symm, below_via (BW) B0⟩
          · have E := Lib.hid (E.out.trans (by rw [if_neg (by omega), if_pos hx]))
            rw [hx] at r0
            clear hx
            go_wp2
            go_ret
            exact ⟨ret_bool (E.out.trans (by rw [Bool.eq_iff_iff]; first | (simp; done) | (simp; omega))).symm, below_via (BW) B0⟩
          · have E := Lib.hid (E.out.trans (by rw [if_neg h4, if_neg h8]))
            have e4 : (x.kind == 4) = false := by rw [beq_eq_false_iff_ne]; exact h4
            have e8 : (x.kind == 8) = false := by rw [beq_eq_false_iff_ne]; exact h8
            clear h4 h8
            go_wp2
            go_ret
            exact ⟨ret_bool (E.out.trans (by rw [Bool.eq_iff_iff]; first | (simp; done) | (simp; omega))).symm, below_via (BW) B0⟩
end Go.Proofs.Ytihjefncjkdnpaa
