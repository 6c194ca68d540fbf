/- The walk of FocusNearest. -/
import Derived.Test.YtihjefncjkdnpaaFoR
import Derived.Test.YtihjefncjkdnpaaFoW
namespace Go.Proofs.Ytihjefncjkdnpaa
open Go.RowKit Go.Deep
set_option linter.unusedVariables false
set_option linter.unusedSimpArgs false

section
variable {P : Program} {ops : Array Oper} {md : Region.Mode} {Q : Exit → Act → World → Prop} {S : World → Prop}
theorem wpOp_call {i fuel : Nat} {listed : Array Bool} {o : Oper} {a : Act} {w : World} {f : FuncId} {args : Array Value} (h0 : ops[i]? = some o) (hw : Region.wanted o (yielded ops a.tmps) = true) (he : (execOp a.eval o).run P w = .ok (.enter f args) w) (hc : Calls P f args w fun e w' => ∃ v, e = .returned v ∧ S w' ∧ wpAnyH P md ops Q S fuel listed (a.put o.dst v) w') : wpOp P ops Q i (fun a' w' => S w' ∧ wpAnyH P md ops Q S fuel listed a' w') a w := by
  unfold wpOp
  simp only [h0, hw, if_true]
  refine .inl ?_
  unfold Oper.wp
  rw [he]
  refine hc.mono fun e w' h => ?_
  obtain ⟨v, rfl, h1, h2⟩ := h
  exact ⟨h1, h2⟩
end
theorem four_sets {w : World} {b : Nat} {x y z u : Value} {t : TypeId} (h : w.heap[b]? = some (.cells #[x, y, z, u] t (0, 0))) (v0 v1 v2 v3 : Value) : ((((w.setCell ⟨b, 0, none⟩ v0).setCell ⟨b, 1, none⟩ v1).setCell ⟨b, 2, none⟩ v2).setCell ⟨b, 3, none⟩ v3).heap[b]? = some (.cells #[v0, v1, v2, v3] t (0, 0)) := by
  have h0 := heap_setCell_same w b 0 #[x, y, z, u] t v0 h
  have h1 := heap_setCell_same _ b 1 _ t v1 h0
  have h2 := heap_setCell_same _ b 2 _ t v2 h1
  have h3 := heap_setCell_same _ b 3 _ t v3 h2
  exact h3
theorem meet_seen (bx : Nat → Nat → Int) (n nb : Nat) (hn : n < nb) (hC : ClipOk nb bx) (w : World) : Calls Try.prog 31 #[.agg #[.int .i64 (bx n 12), .int .i64 (bx n 13), .int .i64 (bx n 14), .int .i64 (bx n 15)], .agg #[.int .i64 (bx n 12), .int .i64 (bx n 13), .int .i64 (bx n 14), .int .i64 (bx n 15)]] w fun e w' => e = .returned (.agg #[.int .i64 (seenR bx n).x, .int .i64 (seenR bx n).y, .int .i64 (seenR bx n).w, .int .i64 (seenR bx n).h]) ∧ Below w.heap.size w w' :=
  rect_Meet_any _ _ _ _ _ _ _ _ _ (hC n hn 12 (by omega) (by omega)) (hC n hn 13 (by omega) (by omega)) (hC n hn 14 (by omega) (by omega)) (hC n hn 15 (by omega) (by omega)) (hC n hn 12 (by omega) (by omega)) (hC n hn 13 (by omega) (by omega)) (hC n hn 14 (by omega) (by omega)) (hC n hn 15 (by omega) (by omega))
theorem far_lies {f t : R4} {key : Int} (h : liesB f t key = true) : farB f t key = farI f t key := by
  unfold farB
  rw [if_pos]
  unfold liesB at h
  by_cases h7 : key = 7
  · exact .inl h7
  rw [if_neg h7] at h
  by_cases h8 : key = 8
  · exact .inr (.inl h8)
  rw [if_neg h8] at h
  by_cases h6 : key = 6
  · exact .inr (.inr (.inl h6))
  rw [if_neg h6] at h
  by_cases h5 : key = 5
  · exact .inr (.inr (.inr h5))
  rw [if_neg h5] at h
  cases h

set_option maxRecDepth 100000 in
set_option maxHeartbeats 64000000 in
theorem FocusNearest_walk_no (p pb : Option Addr) (c cb nb : Nat) (T : List Nd) (bx : Nat → Nat → Int) (i key : Int) (w : World) (hT : TreeAt w (.slice p T.length c) T) (hB : BoxAt w pb nb bx) (hl : nb ≤ 9223372036854775807) (hC : ClipOk nb bx) (hcs : nearR T nb bx i key = -1) : Calls Try.prog 8 #[.agg #[.slice p T.length c], .slice pb nb cb, .int .i64 i, .int .i32 key] w fun e w' => e = .returned (.bool true) ∧ Below w.heap.size w w' := by
  have HT := Lib.hid hT
  have HBX := Lib.hid hB
  have HCL := Lib.hid hC
  have HCS := Lib.hid hcs
  have hlT := hT.len
  clear hT hB hC hcs
  go_enter Try.func8, Try.ntmps8
  go_wp2_with fail
  obtain ⟨W1, hW1⟩ : ∃ W1, W1 = w.alloc (.cells #[.slice p T.length c] 24) := ⟨_, rfl⟩
  have C1 := Lib.hid (show Below w.heap.size w W1 by rw [hW1]; exact below_al (Below.refl _ _) _)
  have a1 := Lib.hid (show W1.heap[w.heap.size]? = some (.cells #[.slice p T.length c] 24 (0, 0)) by rw [hW1]; exact heap_alloc_new _ _)
  rw [← hW1]
  clear hW1
  have HT1 := Lib.hid (HT.out.later C1.out)
  have HB1 := Lib.hid (HBX.out.later C1.out (Nat.le_refl _))
  have HF := Lib.hid (fun w' (h : Below W1.heap.size W1 w') => show w'.cell? ⟨w.heap.size, 0, none⟩ = some (.slice p T.length c) ∧ w.heap.size < w'.heap.size from by
    have := lt_of_block a1.out
    have := h.size
    exact ⟨cell_of_one ((h.block _ (lt_of_block a1.out)).trans a1.out), by omega⟩)
  clear HT HBX
  refine (works_any W1).mono ?_
  rintro e w2 ⟨rfl, hb⟩
  have D2 := Lib.hid hb
  clear hb
  obtain ⟨x0, s0⟩ := HF.out w2 D2.out
  go_wp2_with fail
  refine (focus_Near_any p pb c cb nb T bx i key w2 (HT1.out.later D2.out) (HB1.out.later D2.out (Nat.le_refl _)) hl HCL.out).mono ?_
  obtain ⟨nr, hnr⟩ : ∃ r, r = nearR T nb bx i key := ⟨_, rfl⟩
  have HNR := Lib.hid hnr
  rw [← hnr]
  rintro e w3 ⟨rfl, hb⟩
  have D3 := Lib.hid (below_via hb D2.out)
  clear hb x0 s0 hnr
  obtain ⟨x0, s0⟩ := HF.out w3 D3.out
  go_wp2_with fail
  refine (law_right_any p c T w3 (HT1.out.later D3.out)).mono ?_
  obtain ⟨cc, hcc⟩ : ∃ cc, cc = (checkT T).1 := ⟨_, rfl⟩
  have HCC := Lib.hid hcc
  have HRT := Lib.hid (show rightB T = decide (cc = 0) by unfold rightB; rw [hcc])
  rw [HRT.out]
  rintro e w4 ⟨rfl, hb⟩
  have D4 := Lib.hid (below_via hb D3.out)
  clear hb x0 s0 hcc HRT
  obtain ⟨x0, s0⟩ := HF.out w4 D4.out
  have HE4 := Lib.hid (below_via D4.out C1.out)
  rcases (show cc ≠ 0 ∨ (cc = 0 ∧ nb ≠ T.length) ∨ (cc = 0 ∧ nb = T.length ∧ i < 0) ∨ (cc = 0 ∧ nb = T.length ∧ 0 ≤ i ∧ (nb : Int) ≤ i) ∨ (cc = 0 ∧ nb = T.length ∧ 0 ≤ i ∧ i < (nb : Int)) by omega) with h | ⟨h, h2⟩ | ⟨h, h2, h3⟩ | ⟨h, h2, h3, h4⟩ | ⟨h, h2, h3, h4⟩
  · have k0 : (nr == -1) = true := by rw [HNR.out, near_no (.inl (by rw [← HCC.out]; exact h))]; rfl
    rw [show decide (cc = 0) = false by simpa using h]
    clear h
    go_wp2
    go_ret
    exact ⟨rfl, HE4.out⟩
  · have k0 : (nr == -1) = true := by rw [HNR.out, near_no (.inr (.inl h2))]; rfl
    rw [show decide (cc = 0) = true by simpa using h]
    have k2 : ((nb : Int) != (T.length : Int)) = true := by rw [bne_iff_ne]; omega
    clear h h2
    go_wp2
    go_ret
    exact ⟨rfl, HE4.out⟩
  · have k0 : (nr == -1) = true := by rw [HNR.out, near_no (.inr (.inr (.inl h3)))]; rfl
    rw [show decide (cc = 0) = true by simpa using h]
    have k2 : ((nb : Int) != (T.length : Int)) = false := by rw [h2]; simp
    clear h h2
    go_wp2
    go_ret
    exact ⟨rfl, HE4.out⟩
  · have k0 : (nr == -1) = true := by rw [HNR.out, near_no (.inr (.inr (.inr h4)))]; rfl
    rw [show decide (cc = 0) = true by simpa using h]
    have k2 : ((nb : Int) != (T.length : Int)) = false := by rw [h2]; simp
    clear h h2
    go_wp2
    go_ret
    exact ⟨rfl, HE4.out⟩
  · obtain ⟨n0, rfl⟩ := Int.eq_ofNat_of_zero_le h3
    have hn0 : n0 < nb := by omega
    rw [show decide (cc = 0) = true by simpa using h]
    have k2 : ((nb : Int) != (T.length : Int)) = false := by rw [h2]; simp
    have HNN := Lib.hid (show ¬ ((checkT T).1 ≠ 0 ∨ nb ≠ T.length ∨ ((n0 : Nat) : Int) < 0 ∨ (nb : Int) ≤ ((n0 : Nat) : Int)) by rw [← HCC.out]; omega)
    have HNB := Lib.hid h2
    obtain ⟨bb, ob, rfl, hbz, hbc⟩ := HB1.out (by omega)
    have HBC := Lib.hid (fun w' (h : Below W1.heap.size W1 w') (n : Nat) (hn : n < nb) => show (w'.cell? ⟨bb, ob + n * 18 + 12, none⟩ = some (.int .i64 (bx n 12)) ∧ w'.cell? ⟨bb, ob + n * 18 + 13, none⟩ = some (.int .i64 (bx n 13)) ∧ w'.cell? ⟨bb, ob + n * 18 + 14, none⟩ = some (.int .i64 (bx n 14)) ∧ w'.cell? ⟨bb, ob + n * 18 + 15, none⟩ = some (.int .i64 (bx n 15))) ∧ bb < w'.heap.size from by
      obtain ⟨hcl, _⟩ := bcell h
      have := h.size
      refine ⟨⟨?_, ?_, ?_, ?_⟩, by omega⟩ <;> (rw [hcl _ _ hbz, Nat.add_assoc]; exact hbc n hn _ (by omega)))
    have HME := Lib.hid (fun (w' : World) (n : Nat) (hn : n < nb) => meet_seen bx n nb hn HCL.out w')
    clear h h2 hbc HB1 HE4
    obtain ⟨⟨y0, y1, y2, y3⟩, sb⟩ := HBC.out w4 D4.out n0 hn0
    obtain ⟨f, hf⟩ : ∃ f, f = seenR bx n0 := ⟨_, rfl⟩
    have HFR := Lib.hid hf
    have HIF := Lib.hid (show InP f by rw [hf]; exact selfR_in (clipR bx n0))
    have HOKF := Lib.hid (show okR4 f = okB (bx n0 12) (bx n0 13) (bx n0 14) (bx n0 15) by rw [hf]; exact ok_seen (clipR bx n0))
    clear hf
    go_wp2_with fail
    refine (rect_Empty_any (bx n0 12) (bx n0 13) (bx n0 14) (bx n0 15) w4 (HCL.out n0 hn0 12 (by omega) (by omega)) (HCL.out n0 hn0 13 (by omega) (by omega)) (HCL.out n0 hn0 14 (by omega) (by omega)) (HCL.out n0 hn0 15 (by omega) (by omega))).mono ?_
    rw [← HOKF.out]
    rintro e w5 ⟨rfl, hb⟩
    have D5 := Lib.hid (below_via hb D4.out)
    clear hb x0 s0 y0 y1 y2 y3 sb
    cases hok : okR4 f with
    | false =>
      have k0 : (nr == -1) = true := by rw [HNR.out, near_empty (by rw [Int.toNat_natCast, ← HFR.out]; exact hok)]; rfl
      have HE := Lib.hid (below_via D5.out C1.out)
      clear hok
      go_wp2
      go_ret
      exact ⟨rfl, HE.out⟩
    | true =>
      have HSP := Lib.hid (near_spec (T := T) (nb := nb) (bx := bx) (at' := (n0 : Int)) (key := key) HNN.out (by rw [Int.toNat_natCast, ← HFR.out]; exact hok))
      rw [Int.toNat_natCast, ← HFR.out, ← HNR.out] at HSP
      have HBK := Lib.hid (fun w' (h : Below w5.heap.size w5 w') => (HBC.out w' (below_via h D5.out) n0 hn0).1)
      obtain ⟨_, sb⟩ := HBC.out w5 D5.out n0 hn0
      have HM0 := Lib.hid (fun w' => show Calls Try.prog 31 _ w' (fun e w'' => e = .returned (.agg #[.int .i64 f.x, .int .i64 f.y, .int .i64 f.w, .int .i64 f.h]) ∧ Below w'.heap.size w' w'') from by have := HME.out w' n0 hn0; rw [← HFR.out] at this; exact this)
      clear hok HNN HOKF
      go_upto_region 6 with (fail)
      go_cut [10] (fun s wx => ∃ k : Nat, s = .pointer (some ⟨k, 0, none⟩) ∧ RowKit.Hid (Below w5.heap.size w5 wx) ∧ RowKit.Hid (wx.heap[k]? = some (.cells #[.int .i64 f.x, .int .i64 f.y, .int .i64 f.w, .int .i64 f.h] 77 (0, 0))))
      case first =>
        have H00 := Lib.hid (Below.drew (Below.refl w5.heap.size w5))
        refine wp_region_noPanic ?_
        refine wp_region_held (S := fun w' => Below w5.heap.size w5 w') (by kernel_rfl) ?_
        change wpAnyH _ _ _ _ _ 13 (Array.replicate 13 false) _ _
        refine wpAnyH_take (i := 0) (v := ?vr60) (by simp only [List.getElem?_toArray, List.getElem?_cons_succ, List.getElem?_cons_zero]; rfl) (by kernel_rfl) (by kernel_rfl) (by kernel_rfl) (fun _ _ _ h => h) (.inl ⟨by rfl, ?tr60⟩) ?sr60 ?_
        case tr60 => (intro w' h; clear h; go_simp; try rfl)
        case sr60 => exact H00.out
        (try simp only [Act.put, List.setIfInBounds_toArray, List.set_cons_zero, List.set_cons_succ])
        refine wpAnyH_take (i := 1) (v := ?vr61) (by simp only [List.getElem?_toArray, List.getElem?_cons_succ, List.getElem?_cons_zero]; rfl) (by kernel_rfl) (by kernel_rfl) (by kernel_rfl) (fun _ _ _ h => h) (.inl ⟨by rfl, ?tr61⟩) ?sr61 ?_
        case tr61 => (intro w' h; clear h; go_simp; try rfl)
        case sr61 => exact H00.out
        (try simp only [Act.put, List.setIfInBounds_toArray, List.set_cons_zero, List.set_cons_succ])
        refine wpAnyH_take (i := 2) (v := ?vr62) (by simp only [List.getElem?_toArray, List.getElem?_cons_succ, List.getElem?_cons_zero]; rfl) (by kernel_rfl) (by kernel_rfl) (by kernel_rfl) (fun _ _ _ h => h) (.inl ⟨by rfl, ?tr62⟩) ?sr62 ?_
        case tr62 => (intro w' h; clear h; go_simp; try rfl)
        case sr62 => exact H00.out
        (try simp only [Act.put, List.setIfInBounds_toArray, List.set_cons_zero, List.set_cons_succ])
        refine wpAnyH_take (i := 3) (v := ?vr63) (by simp only [List.getElem?_toArray, List.getElem?_cons_succ, List.getElem?_cons_zero]; rfl) (by kernel_rfl) (by kernel_rfl) (by kernel_rfl) (fun _ _ _ h => h) (.inl ⟨by rfl, ?tr63⟩) ?sr63 ?_
        case tr63 => (intro w' h; clear h; go_simp; try rfl)
        case sr63 => exact H00.out
        (try simp only [Act.put, List.setIfInBounds_toArray, List.set_cons_zero, List.set_cons_succ])
        refine wpAnyH_take (i := 4) (v := ?vr64) (by simp only [List.getElem?_toArray, List.getElem?_cons_succ, List.getElem?_cons_zero]; rfl) (by kernel_rfl) (by kernel_rfl) (by kernel_rfl) (fun _ _ _ h => h) (.inl ⟨by rfl, ?tr64⟩) ?sr64 ?_
        case tr64 => (intro w' h; have FK := HBK.out w' h; clear h; go_split_ands; go_simp; try rfl)
        case sr64 => exact H00.out
        (try simp only [Act.put, List.setIfInBounds_toArray, List.set_cons_zero, List.set_cons_succ])
        refine wpAnyH_take (i := 5) (v := ?vr65) (by simp only [List.getElem?_toArray, List.getElem?_cons_succ, List.getElem?_cons_zero]; rfl) (by kernel_rfl) (by kernel_rfl) (by kernel_rfl) (fun _ _ _ h => h) (.inl ⟨by rfl, ?tr65⟩) ?sr65 ?_
        case tr65 => (intro w' h; clear h; go_simp; try rfl)
        case sr65 => exact H00.out
        (try simp only [Act.put, List.setIfInBounds_toArray, List.set_cons_zero, List.set_cons_succ])
        refine wpAnyH_take (i := 6) (v := ?vr66) (by simp only [List.getElem?_toArray, List.getElem?_cons_succ, List.getElem?_cons_zero]; rfl) (by kernel_rfl) (by kernel_rfl) (by kernel_rfl) (fun _ _ _ h => h) (.inl ⟨by rfl, ?tr66⟩) ?sr66 ?_
        case tr66 => (intro w' h; clear h; go_simp; try rfl)
        case sr66 => exact H00.out
        (try simp only [Act.put, List.setIfInBounds_toArray, List.set_cons_zero, List.set_cons_succ])
        refine wpAnyH_take (i := 7) (v := ?vr67) (by simp only [List.getElem?_toArray, List.getElem?_cons_succ, List.getElem?_cons_zero]; rfl) (by kernel_rfl) (by kernel_rfl) (by kernel_rfl) (fun _ _ _ h => h) (.inl ⟨by rfl, ?tr67⟩) ?sr67 ?_
        case tr67 => (intro w' h; clear h; go_simp; try rfl)
        case sr67 => exact H00.out
        (try simp only [Act.put, List.setIfInBounds_toArray, List.set_cons_zero, List.set_cons_succ])
        refine wpAnyH_take (i := 8) (v := ?vr68) (by simp only [List.getElem?_toArray, List.getElem?_cons_succ, List.getElem?_cons_zero]; rfl) (by kernel_rfl) (by kernel_rfl) (by kernel_rfl) (fun _ _ _ h => h) (.inl ⟨by rfl, ?tr68⟩) ?sr68 ?_
        case tr68 => (intro w' h; clear h; go_simp; try rfl)
        case sr68 => exact H00.out
        (try simp only [Act.put, List.setIfInBounds_toArray, List.set_cons_zero, List.set_cons_succ])
        refine wpAnyH_take (i := 9) (v := ?vr69) (by simp only [List.getElem?_toArray, List.getElem?_cons_succ, List.getElem?_cons_zero]; rfl) (by kernel_rfl) (by kernel_rfl) (by kernel_rfl) (fun _ _ _ h => h) (.inl ⟨by rfl, ?tr69⟩) ?sr69 ?_
        case tr69 => (intro w' h; have FK := HBK.out w' h; clear h; go_split_ands; go_simp; try rfl)
        case sr69 => exact H00.out
        (try simp only [Act.put, List.setIfInBounds_toArray, List.set_cons_zero, List.set_cons_succ])
        refine wpAnyH_two (i := 10) (k := 11) (by kernel_rfl) ?Ar6 ?Br6
        case Ar6 =>
          refine wpOp_call (by simp only [List.getElem?_toArray, List.getElem?_cons_succ, List.getElem?_cons_zero]; rfl) (by rfl) (by go_simp; first | exact ⟨rfl, rfl⟩ | rfl) ?_
          refine (HM0.out _).mono ?_
          rintro e wa ⟨rfl, hb⟩
          have Ha := Lib.hid (below_via hb H00.out)
          clear hb
          refine ⟨_, rfl, Ha.out, ?_⟩
          (try simp only [Act.put, List.setIfInBounds_toArray, List.set_cons_zero, List.set_cons_succ])
          have Hb := Lib.hid (show Below w5.heap.size w5 (wa.alloc (.cells #[.int .i64 0, .int .i64 0, .int .i64 0, .int .i64 0] 77)) from below_al Ha.out _)
          refine wpAnyH_one (i := 11) (by kernel_rfl) ?_
          refine wpOp_value (v := .pointer (some ⟨wa.heap.size, 0, none⟩)) (w' := wa.alloc (.cells #[.int .i64 0, .int .i64 0, .int .i64 0, .int .i64 0] 77)) (by simp only [List.getElem?_toArray, List.getElem?_cons_succ, List.getElem?_cons_zero]; rfl) (by rfl) ?mr6a7 Hb.out ?_
          case mr6a7 => (go_simp; try rfl)
          (try simp only [Act.put, List.setIfInBounds_toArray, List.set_cons_zero, List.set_cons_succ])
          have Hc := Lib.hid (show Below w5.heap.size w5 (wa.alloc (.cells #[.int .i64 f.x, .int .i64 f.y, .int .i64 f.w, .int .i64 f.h] 77)) from below_al Ha.out _)
          have hk := heap_alloc_new wa (.cells #[.int .i64 f.x, .int .i64 f.y, .int .i64 f.w, .int .i64 f.h] 77)
          have HK := Lib.hid hk
          clear hk
          refine wpAnyH_one (i := 12) (by kernel_rfl) ?_
          refine wpOp_skip (w' := wa.alloc (.cells #[.int .i64 f.x, .int .i64 f.y, .int .i64 f.w, .int .i64 f.h] 77)) (by simp only [List.getElem?_toArray, List.getElem?_cons_succ, List.getElem?_cons_zero]; rfl) (by rfl) ?mr6a8 Hc.out ?_
          case mr6a8 => (go_simp; try rfl)
          (try simp only [Act.put, List.setIfInBounds_toArray, List.set_cons_zero, List.set_cons_succ])
          refine wpAnyH_done (by kernel_rfl) (NoPanic.normal ?_) _
          go_wp2
          go_meet
          exact ⟨_, rfl, Hc, HK⟩
        case Br6 =>
          have Hb := Lib.hid (show Below w5.heap.size w5 (w5.drew.alloc (.cells #[.int .i64 0, .int .i64 0, .int .i64 0, .int .i64 0] 77)) from below_al H00.out _)
          refine wpOp_value (v := .pointer (some ⟨w5.heap.size, 0, none⟩)) (w' := w5.drew.alloc (.cells #[.int .i64 0, .int .i64 0, .int .i64 0, .int .i64 0] 77)) (by simp only [List.getElem?_toArray, List.getElem?_cons_succ, List.getElem?_cons_zero]; rfl) (by rfl) ?mr6b7 Hb.out ?_
          case mr6b7 => (go_simp; try rfl)
          (try simp only [Act.put, List.setIfInBounds_toArray, List.set_cons_zero, List.set_cons_succ])
          have HKb := Lib.hid (show (w5.drew.alloc (.cells #[.int .i64 0, .int .i64 0, .int .i64 0, .int .i64 0] 77)).heap[w5.heap.size]? = some (.cells #[.int .i64 0, .int .i64 0, .int .i64 0, .int .i64 0] 77 (0, 0)) from heap_alloc_new w5.drew (.cells #[.int .i64 0, .int .i64 0, .int .i64 0, .int .i64 0] 77))
          refine wpAnyH_one (i := 10) (by kernel_rfl) ?_
          refine wpOp_call (by simp only [List.getElem?_toArray, List.getElem?_cons_succ, List.getElem?_cons_zero]; rfl) (by rfl) (by go_simp; first | exact ⟨rfl, rfl⟩ | rfl) ?_
          refine (HM0.out _).mono ?_
          rintro e wa ⟨rfl, hb⟩
          have Ha := Lib.hid (below_via hb Hb.out)
          have HKa := Lib.hid ((hb.block _ (lt_of_block HKb.out)).trans HKb.out)
          clear hb
          refine ⟨_, rfl, Ha.out, ?_⟩
          (try simp only [Act.put, List.setIfInBounds_toArray, List.set_cons_zero, List.set_cons_succ])
          have b0 : wa.cell? ⟨w5.heap.size, 0, none⟩ = some (.int .i64 0) := by rw [cell_of_row _ _ _ _ _ _ HKa.out]; rfl
          have d0 : wa.frozen? ⟨w5.heap.size, 0, none⟩ = false := frozen_of_row _ _ _ _ _ HKa.out
          have b1 : wa.cell? ⟨w5.heap.size, 1, none⟩ = some (.int .i64 0) := by rw [cell_of_row _ _ _ _ _ _ HKa.out]; rfl
          have d1 : wa.frozen? ⟨w5.heap.size, 1, none⟩ = false := frozen_of_row _ _ _ _ _ HKa.out
          have b2 : wa.cell? ⟨w5.heap.size, 2, none⟩ = some (.int .i64 0) := by rw [cell_of_row _ _ _ _ _ _ HKa.out]; rfl
          have d2 : wa.frozen? ⟨w5.heap.size, 2, none⟩ = false := frozen_of_row _ _ _ _ _ HKa.out
          have b3 : wa.cell? ⟨w5.heap.size, 3, none⟩ = some (.int .i64 0) := by rw [cell_of_row _ _ _ _ _ _ HKa.out]; rfl
          have d3 : wa.frozen? ⟨w5.heap.size, 3, none⟩ = false := frozen_of_row _ _ _ _ _ HKa.out
          have hz : w5.heap.size < wa.heap.size := lt_of_block HKa.out
          have Hc := Lib.hid (show Below w5.heap.size w5 ((((wa.setCell ⟨w5.heap.size, 0, none⟩ (.int .i64 f.x)).setCell ⟨w5.heap.size, 1, none⟩ (.int .i64 f.y)).setCell ⟨w5.heap.size, 2, none⟩ (.int .i64 f.w)).setCell ⟨w5.heap.size, 3, none⟩ (.int .i64 f.h)) from ((((Ha.out.setCell (p := ⟨w5.heap.size, 0, none⟩) (Nat.le_refl _) _).setCell (p := ⟨w5.heap.size, 1, none⟩) (Nat.le_refl _) _).setCell (p := ⟨w5.heap.size, 2, none⟩) (Nat.le_refl _) _).setCell (p := ⟨w5.heap.size, 3, none⟩) (Nat.le_refl _) _))
          have HK := Lib.hid (show ((((wa.setCell ⟨w5.heap.size, 0, none⟩ (.int .i64 f.x)).setCell ⟨w5.heap.size, 1, none⟩ (.int .i64 f.y)).setCell ⟨w5.heap.size, 2, none⟩ (.int .i64 f.w)).setCell ⟨w5.heap.size, 3, none⟩ (.int .i64 f.h)).heap[w5.heap.size]? = some (.cells #[.int .i64 f.x, .int .i64 f.y, .int .i64 f.w, .int .i64 f.h] 77 (0, 0)) from four_sets HKa.out _ _ _ _)
          refine wpAnyH_one (i := 12) (by kernel_rfl) ?_
          refine wpOp_skip (w' := ((((wa.setCell ⟨w5.heap.size, 0, none⟩ (.int .i64 f.x)).setCell ⟨w5.heap.size, 1, none⟩ (.int .i64 f.y)).setCell ⟨w5.heap.size, 2, none⟩ (.int .i64 f.w)).setCell ⟨w5.heap.size, 3, none⟩ (.int .i64 f.h))) (by simp only [List.getElem?_toArray, List.getElem?_cons_succ, List.getElem?_cons_zero]; rfl) (by rfl) ?mr6b8 Hc.out ?_
          case mr6b8 => (go_simp; try rfl)
          (try simp only [Act.put, List.setIfInBounds_toArray, List.set_cons_zero, List.set_cons_succ])
          refine wpAnyH_done (by kernel_rfl) (NoPanic.normal ?_) _
          go_wp2
          go_meet
          exact ⟨_, rfl, Hc, HK⟩
      case rest =>
        obtain ⟨ka, rfl, HR6, HKA⟩ := hcut
        have D6 := Lib.hid (below_via HR6.out D5.out)
        obtain ⟨x0, s0⟩ := HF.out wc D6.out
        go_wp2_with fail
        refine (focus_Order_any p c T wc (HT1.out.later D6.out)).mono ?_
        have hlL := fos_4096 T
        have HFG := Lib.hid (fun j (hj : j < (fosL T).length) => fos_get hj)
        have HND := Lib.hid (fosL_nodup T)
        obtain ⟨L, hL⟩ : ∃ L, L = fosL T := ⟨_, rfl⟩
        rw [← hL] at hlL HFG HND HSP ⊢
        clear hL
        rintro e w6 ⟨v, rfl, own, hb⟩
        have D7 := Lib.hid (below_via hb D6.out)
        have HK6 := Lib.hid ((hb.block _ (lt_of_block HKA.out)).trans HKA.out)
        have HV := Lib.hid (row_ints own)
        obtain ⟨pv, cv, rfl, hv1, hv2, _, hvc⟩ := HV.out
        have HVC := Lib.hid hvc
        clear hb own hvc x0 s0 sb
        go_wp2_with fail
        refine (place_any _ L nr w6 HV.out).mono ?_
        rintro e w7 ⟨rfl, rfl⟩
        rcases HSP.out with ⟨e1, hno⟩ | ⟨j0, hj0, e1, hc, hm⟩
        · have k5 : (nr != -1) = false := by rw [e1]; rfl
          generalize atI L nr = kk
          have HCA := Lib.hid (fun j (hj : j < L.length) (hcj : candB bx f key n0 (L.getD j 0)) => show nr ≠ -1 ∧ (0:Int) ≤ farN bx f key (L.getD j 0) ∧ (farN bx f key (L.getD j 0) = 0 → kk ≤ (j : Int)) from absurd hcj (hno j hj))
          clear e1 hno HSP HNR
          go_wp2
          have BL := Lib.hid (Below.refl w6.heap.size w6)
          go_loopw [121] (fun iv wr => ∃ j : Nat, iv = .int .i64 j ∧ j ≤ L.length ∧ RowKit.Hid (Below w6.heap.size w6 wr)) (fun iv _ => L.length - (intOf iv).toNat)
          case atStart => exact ⟨0, rfl, by omega, BL⟩
          case round =>
            obtain ⟨j, rfl, hj, BR⟩ := hrel
            by_cases hlt : j < L.length
            · have hji : (j : Int) < (L.length : Int) := by omega
              obtain ⟨bv, ov, rfl, hbv, hvc⟩ := HVC.out (by omega)
              have cj0 := hvc j hlt
              have Hbv := Lib.hid hbv
              obtain ⟨q, hq, hqN⟩ := HFG.out j hlt
              rw [hq] at cj0
              have HCJ := Lib.hid cj0
              have hqn : q < nb := by have := HNB.out; omega
              have hqi : (q : Int) < (nb : Int) := by omega
              have HQJ := Lib.hid (HCA.out j hlt)
              rw [hq] at HQJ
              have DR := Lib.hid (below_via BR.out D7.out)
              obtain ⟨t, ht⟩ : ∃ t, t = seenR bx q := ⟨_, rfl⟩
              have HTR := Lib.hid ht
              have HIT := Lib.hid (show InP t by rw [ht]; exact selfR_in (clipR bx q))
              have HMT := Lib.hid (fun w' => show Calls Try.prog 31 _ w' (fun e w'' => e = .returned (.agg #[.int .i64 t.x, .int .i64 t.y, .int .i64 t.w, .int .i64 t.h]) ∧ Below w'.heap.size w' w'') from by have := HME.out w' q hqn; rw [← HTR.out] at this; exact this)
              have HBQ := Lib.hid (fun w' (h : Below wr.heap.size wr w') => show w'.cell? ⟨bv, ov + j, none⟩ = some (.int .i64 q) ∧ w'.cell? ⟨bb, ob + q * 18 + 12, none⟩ = some (.int .i64 (bx q 12)) ∧ w'.cell? ⟨bb, ob + q * 18 + 13, none⟩ = some (.int .i64 (bx q 13)) ∧ w'.cell? ⟨bb, ob + q * 18 + 14, none⟩ = some (.int .i64 (bx q 14)) ∧ w'.cell? ⟨bb, ob + q * 18 + 15, none⟩ = some (.int .i64 (bx q 15)) from by
                have h6 := below_via h BR.out
                refine ⟨by rw [(bcell h6).1 _ _ Hbv.out]; exact HCJ.out, (HBC.out w' (below_via h DR.out) q hqn).1⟩)
              clear hvc cj0 hq ht hbv
              go_upto_region 19 with (fail)
              go_cut [18] from 122 to 179 (fun s wx => ∃ k : Nat, s = .pointer (some ⟨k, 0, none⟩) ∧ RowKit.Hid (Below wr.heap.size wr wx) ∧ RowKit.Hid (wx.heap[k]? = some (.cells #[.int .i64 t.x, .int .i64 t.y, .int .i64 t.w, .int .i64 t.h] 77 (0, 0))))
              case first =>
                have H00 := Lib.hid (Below.drew (Below.refl wr.heap.size wr))
                refine wp_region_noPanic ?_
                refine wp_region_held (S := fun w' => Below wr.heap.size wr w') (by kernel_rfl) ?_
                change wpAnyH _ _ _ _ _ 19 (Array.replicate 19 false) _ _
                refine wpAnyH_take (i := 0) (v := ?vr90) (by simp only [List.getElem?_toArray, List.getElem?_cons_succ, List.getElem?_cons_zero]; rfl) (by kernel_rfl) (by kernel_rfl) (by kernel_rfl) (fun _ _ _ h => h) (.inl ⟨by rfl, ?tr90⟩) ?sr90 ?_
                case tr90 => (intro w' h; clear h; go_simp; try rfl)
                case sr90 => exact H00.out
                (try simp only [Act.put, List.setIfInBounds_toArray, List.set_cons_zero, List.set_cons_succ])
                refine wpAnyH_take (i := 1) (v := ?vr91) (by simp only [List.getElem?_toArray, List.getElem?_cons_succ, List.getElem?_cons_zero]; rfl) (by kernel_rfl) (by kernel_rfl) (by kernel_rfl) (fun _ _ _ h => h) (.inl ⟨by rfl, ?tr91⟩) ?sr91 ?_
                case tr91 => (intro w' h; clear h; go_simp; try rfl)
                case sr91 => exact H00.out
                (try simp only [Act.put, List.setIfInBounds_toArray, List.set_cons_zero, List.set_cons_succ])
                refine wpAnyH_take (i := 2) (v := ?vr92) (by simp only [List.getElem?_toArray, List.getElem?_cons_succ, List.getElem?_cons_zero]; rfl) (by kernel_rfl) (by kernel_rfl) (by kernel_rfl) (fun _ _ _ h => h) (.inl ⟨by rfl, ?tr92⟩) ?sr92 ?_
                case tr92 => (intro w' h; clear h; go_simp; try rfl)
                case sr92 => exact H00.out
                (try simp only [Act.put, List.setIfInBounds_toArray, List.set_cons_zero, List.set_cons_succ])
                refine wpAnyH_take (i := 3) (v := ?vr93) (by simp only [List.getElem?_toArray, List.getElem?_cons_succ, List.getElem?_cons_zero]; rfl) (by kernel_rfl) (by kernel_rfl) (by kernel_rfl) (fun _ _ _ h => h) (.inl ⟨by rfl, ?tr93⟩) ?sr93 ?_
                case tr93 => (intro w' h; clear h; go_simp; try rfl)
                case sr93 => exact H00.out
                (try simp only [Act.put, List.setIfInBounds_toArray, List.set_cons_zero, List.set_cons_succ])
                refine wpAnyH_take (i := 4) (v := ?vr94) (by simp only [List.getElem?_toArray, List.getElem?_cons_succ, List.getElem?_cons_zero]; rfl) (by kernel_rfl) (by kernel_rfl) (by kernel_rfl) (fun _ _ _ h => h) (.inl ⟨by rfl, ?tr94⟩) ?sr94 ?_
                case tr94 => (intro w' h; have FK := HBQ.out w' h; clear h; go_split_ands; go_simp; try rfl)
                case sr94 => exact H00.out
                (try simp only [Act.put, List.setIfInBounds_toArray, List.set_cons_zero, List.set_cons_succ])
                refine wpAnyH_take (i := 5) (v := ?vr95) (by simp only [List.getElem?_toArray, List.getElem?_cons_succ, List.getElem?_cons_zero]; rfl) (by kernel_rfl) (by kernel_rfl) (by kernel_rfl) (fun _ _ _ h => h) (.inl ⟨by rfl, ?tr95⟩) ?sr95 ?_
                case tr95 => (intro w' h; clear h; go_simp; try rfl)
                case sr95 => exact H00.out
                (try simp only [Act.put, List.setIfInBounds_toArray, List.set_cons_zero, List.set_cons_succ])
                refine wpAnyH_take (i := 6) (v := ?vr96) (by simp only [List.getElem?_toArray, List.getElem?_cons_succ, List.getElem?_cons_zero]; rfl) (by kernel_rfl) (by kernel_rfl) (by kernel_rfl) (fun _ _ _ h => h) (.inl ⟨by rfl, ?tr96⟩) ?sr96 ?_
                case tr96 => (intro w' h; clear h; go_simp; try rfl)
                case sr96 => exact H00.out
                (try simp only [Act.put, List.setIfInBounds_toArray, List.set_cons_zero, List.set_cons_succ])
                refine wpAnyH_take (i := 7) (v := ?vr97) (by simp only [List.getElem?_toArray, List.getElem?_cons_succ, List.getElem?_cons_zero]; rfl) (by kernel_rfl) (by kernel_rfl) (by kernel_rfl) (fun _ _ _ h => h) (.inl ⟨by rfl, ?tr97⟩) ?sr97 ?_
                case tr97 => (intro w' h; have FK := HBQ.out w' h; clear h; go_split_ands; go_simp; try rfl)
                case sr97 => exact H00.out
                (try simp only [Act.put, List.setIfInBounds_toArray, List.set_cons_zero, List.set_cons_succ])
                refine wpAnyH_take (i := 8) (v := ?vr98) (by simp only [List.getElem?_toArray, List.getElem?_cons_succ, List.getElem?_cons_zero]; rfl) (by kernel_rfl) (by kernel_rfl) (by kernel_rfl) (fun _ _ _ h => h) (.inl ⟨by rfl, ?tr98⟩) ?sr98 ?_
                case tr98 => (intro w' h; clear h; go_simp; try rfl)
                case sr98 => exact H00.out
                (try simp only [Act.put, List.setIfInBounds_toArray, List.set_cons_zero, List.set_cons_succ])
                refine wpAnyH_take (i := 9) (v := ?vr99) (by simp only [List.getElem?_toArray, List.getElem?_cons_succ, List.getElem?_cons_zero]; rfl) (by kernel_rfl) (by kernel_rfl) (by kernel_rfl) (fun _ _ _ h => h) (.inl ⟨by rfl, ?tr99⟩) ?sr99 ?_
                case tr99 => (intro w' h; clear h; go_simp; try rfl)
                case sr99 => exact H00.out
                (try simp only [Act.put, List.setIfInBounds_toArray, List.set_cons_zero, List.set_cons_succ])
                refine wpAnyH_take (i := 10) (v := ?vr910) (by simp only [List.getElem?_toArray, List.getElem?_cons_succ, List.getElem?_cons_zero]; rfl) (by kernel_rfl) (by kernel_rfl) (by kernel_rfl) (fun _ _ _ h => h) (.inl ⟨by rfl, ?tr910⟩) ?sr910 ?_
                case tr910 => (intro w' h; clear h; go_simp; try rfl)
                case sr910 => exact H00.out
                (try simp only [Act.put, List.setIfInBounds_toArray, List.set_cons_zero, List.set_cons_succ])
                refine wpAnyH_take (i := 11) (v := ?vr911) (by simp only [List.getElem?_toArray, List.getElem?_cons_succ, List.getElem?_cons_zero]; rfl) (by kernel_rfl) (by kernel_rfl) (by kernel_rfl) (fun _ _ _ h => h) (.inl ⟨by rfl, ?tr911⟩) ?sr911 ?_
                case tr911 => (intro w' h; clear h; go_simp; try rfl)
                case sr911 => exact H00.out
                (try simp only [Act.put, List.setIfInBounds_toArray, List.set_cons_zero, List.set_cons_succ])
                refine wpAnyH_take (i := 12) (v := ?vr912) (by simp only [List.getElem?_toArray, List.getElem?_cons_succ, List.getElem?_cons_zero]; rfl) (by kernel_rfl) (by kernel_rfl) (by kernel_rfl) (fun _ _ _ h => h) (.inl ⟨by rfl, ?tr912⟩) ?sr912 ?_
                case tr912 => (intro w' h; have FK := HBQ.out w' h; clear h; go_split_ands; go_simp; try rfl)
                case sr912 => exact H00.out
                (try simp only [Act.put, List.setIfInBounds_toArray, List.set_cons_zero, List.set_cons_succ])
                refine wpAnyH_take (i := 13) (v := ?vr913) (by simp only [List.getElem?_toArray, List.getElem?_cons_succ, List.getElem?_cons_zero]; rfl) (by kernel_rfl) (by kernel_rfl) (by kernel_rfl) (fun _ _ _ h => h) (.inl ⟨by rfl, ?tr913⟩) ?sr913 ?_
                case tr913 => (intro w' h; clear h; go_simp; try rfl)
                case sr913 => exact H00.out
                (try simp only [Act.put, List.setIfInBounds_toArray, List.set_cons_zero, List.set_cons_succ])
                refine wpAnyH_take (i := 14) (v := ?vr914) (by simp only [List.getElem?_toArray, List.getElem?_cons_succ, List.getElem?_cons_zero]; rfl) (by kernel_rfl) (by kernel_rfl) (by kernel_rfl) (fun _ _ _ h => h) (.inl ⟨by rfl, ?tr914⟩) ?sr914 ?_
                case tr914 => (intro w' h; clear h; go_simp; try rfl)
                case sr914 => exact H00.out
                (try simp only [Act.put, List.setIfInBounds_toArray, List.set_cons_zero, List.set_cons_succ])
                refine wpAnyH_take (i := 15) (v := ?vr915) (by simp only [List.getElem?_toArray, List.getElem?_cons_succ, List.getElem?_cons_zero]; rfl) (by kernel_rfl) (by kernel_rfl) (by kernel_rfl) (fun _ _ _ h => h) (.inl ⟨by rfl, ?tr915⟩) ?sr915 ?_
                case tr915 => (intro w' h; have FK := HBQ.out w' h; clear h; go_split_ands; go_simp; try rfl)
                case sr915 => exact H00.out
                (try simp only [Act.put, List.setIfInBounds_toArray, List.set_cons_zero, List.set_cons_succ])
                refine wpAnyH_two (i := 16) (k := 17) (by kernel_rfl) ?Ar9 ?Br9
                case Ar9 =>
                  refine wpOp_call (by simp only [List.getElem?_toArray, List.getElem?_cons_succ, List.getElem?_cons_zero]; rfl) (by rfl) (by go_simp; first | exact ⟨rfl, rfl⟩ | rfl) ?_
                  refine (HMT.out _).mono ?_
                  rintro e wa ⟨rfl, hb⟩
                  have Ha := Lib.hid (below_via hb H00.out)
                  clear hb
                  refine ⟨_, rfl, Ha.out, ?_⟩
                  (try simp only [Act.put, List.setIfInBounds_toArray, List.set_cons_zero, List.set_cons_succ])
                  have Hb := Lib.hid (show Below wr.heap.size wr (wa.alloc (.cells #[.int .i64 0, .int .i64 0, .int .i64 0, .int .i64 0] 77)) from below_al Ha.out _)
                  refine wpAnyH_one (i := 17) (by kernel_rfl) ?_
                  refine wpOp_value (v := .pointer (some ⟨wa.heap.size, 0, none⟩)) (w' := wa.alloc (.cells #[.int .i64 0, .int .i64 0, .int .i64 0, .int .i64 0] 77)) (by simp only [List.getElem?_toArray, List.getElem?_cons_succ, List.getElem?_cons_zero]; rfl) (by rfl) ?mr9a7 Hb.out ?_
                  case mr9a7 => (go_simp; try rfl)
                  (try simp only [Act.put, List.setIfInBounds_toArray, List.set_cons_zero, List.set_cons_succ])
                  have Hc := Lib.hid (show Below wr.heap.size wr (wa.alloc (.cells #[.int .i64 t.x, .int .i64 t.y, .int .i64 t.w, .int .i64 t.h] 77)) from below_al Ha.out _)
                  have hk := heap_alloc_new wa (.cells #[.int .i64 t.x, .int .i64 t.y, .int .i64 t.w, .int .i64 t.h] 77)
                  have HK := Lib.hid hk
                  clear hk
                  refine wpAnyH_one (i := 18) (by kernel_rfl) ?_
                  refine wpOp_skip (w' := wa.alloc (.cells #[.int .i64 t.x, .int .i64 t.y, .int .i64 t.w, .int .i64 t.h] 77)) (by simp only [List.getElem?_toArray, List.getElem?_cons_succ, List.getElem?_cons_zero]; rfl) (by rfl) ?mr9a8 Hc.out ?_
                  case mr9a8 => (go_simp; try rfl)
                  (try simp only [Act.put, List.setIfInBounds_toArray, List.set_cons_zero, List.set_cons_succ])
                  refine wpAnyH_done (by kernel_rfl) (NoPanic.normal ?_) _
                  go_wp2
                  go_meet
                  exact ⟨_, rfl, Hc, HK⟩
                case Br9 =>
                  have Hb := Lib.hid (show Below wr.heap.size wr (wr.drew.alloc (.cells #[.int .i64 0, .int .i64 0, .int .i64 0, .int .i64 0] 77)) from below_al H00.out _)
                  refine wpOp_value (v := .pointer (some ⟨wr.heap.size, 0, none⟩)) (w' := wr.drew.alloc (.cells #[.int .i64 0, .int .i64 0, .int .i64 0, .int .i64 0] 77)) (by simp only [List.getElem?_toArray, List.getElem?_cons_succ, List.getElem?_cons_zero]; rfl) (by rfl) ?mr9b7 Hb.out ?_
                  case mr9b7 => (go_simp; try rfl)
                  (try simp only [Act.put, List.setIfInBounds_toArray, List.set_cons_zero, List.set_cons_succ])
                  have HKb := Lib.hid (show (wr.drew.alloc (.cells #[.int .i64 0, .int .i64 0, .int .i64 0, .int .i64 0] 77)).heap[wr.heap.size]? = some (.cells #[.int .i64 0, .int .i64 0, .int .i64 0, .int .i64 0] 77 (0, 0)) from heap_alloc_new wr.drew (.cells #[.int .i64 0, .int .i64 0, .int .i64 0, .int .i64 0] 77))
                  refine wpAnyH_one (i := 16) (by kernel_rfl) ?_
                  refine wpOp_call (by simp only [List.getElem?_toArray, List.getElem?_cons_succ, List.getElem?_cons_zero]; rfl) (by rfl) (by go_simp; first | exact ⟨rfl, rfl⟩ | rfl) ?_
                  refine (HMT.out _).mono ?_
                  rintro e wa ⟨rfl, hb⟩
                  have Ha := Lib.hid (below_via hb Hb.out)
                  have HKa := Lib.hid ((hb.block _ (lt_of_block HKb.out)).trans HKb.out)
                  clear hb
                  refine ⟨_, rfl, Ha.out, ?_⟩
                  (try simp only [Act.put, List.setIfInBounds_toArray, List.set_cons_zero, List.set_cons_succ])
                  have b0 : wa.cell? ⟨wr.heap.size, 0, none⟩ = some (.int .i64 0) := by rw [cell_of_row _ _ _ _ _ _ HKa.out]; rfl
                  have d0 : wa.frozen? ⟨wr.heap.size, 0, none⟩ = false := frozen_of_row _ _ _ _ _ HKa.out
                  have b1 : wa.cell? ⟨wr.heap.size, 1, none⟩ = some (.int .i64 0) := by rw [cell_of_row _ _ _ _ _ _ HKa.out]; rfl
                  have d1 : wa.frozen? ⟨wr.heap.size, 1, none⟩ = false := frozen_of_row _ _ _ _ _ HKa.out
                  have b2 : wa.cell? ⟨wr.heap.size, 2, none⟩ = some (.int .i64 0) := by rw [cell_of_row _ _ _ _ _ _ HKa.out]; rfl
                  have d2 : wa.frozen? ⟨wr.heap.size, 2, none⟩ = false := frozen_of_row _ _ _ _ _ HKa.out
                  have b3 : wa.cell? ⟨wr.heap.size, 3, none⟩ = some (.int .i64 0) := by rw [cell_of_row _ _ _ _ _ _ HKa.out]; rfl
                  have d3 : wa.frozen? ⟨wr.heap.size, 3, none⟩ = false := frozen_of_row _ _ _ _ _ HKa.out
                  have hz : wr.heap.size < wa.heap.size := lt_of_block HKa.out
                  have Hc := Lib.hid (show Below wr.heap.size wr ((((wa.setCell ⟨wr.heap.size, 0, none⟩ (.int .i64 t.x)).setCell ⟨wr.heap.size, 1, none⟩ (.int .i64 t.y)).setCell ⟨wr.heap.size, 2, none⟩ (.int .i64 t.w)).setCell ⟨wr.heap.size, 3, none⟩ (.int .i64 t.h)) from ((((Ha.out.setCell (p := ⟨wr.heap.size, 0, none⟩) (Nat.le_refl _) _).setCell (p := ⟨wr.heap.size, 1, none⟩) (Nat.le_refl _) _).setCell (p := ⟨wr.heap.size, 2, none⟩) (Nat.le_refl _) _).setCell (p := ⟨wr.heap.size, 3, none⟩) (Nat.le_refl _) _))
                  have HK := Lib.hid (show ((((wa.setCell ⟨wr.heap.size, 0, none⟩ (.int .i64 t.x)).setCell ⟨wr.heap.size, 1, none⟩ (.int .i64 t.y)).setCell ⟨wr.heap.size, 2, none⟩ (.int .i64 t.w)).setCell ⟨wr.heap.size, 3, none⟩ (.int .i64 t.h)).heap[wr.heap.size]? = some (.cells #[.int .i64 t.x, .int .i64 t.y, .int .i64 t.w, .int .i64 t.h] 77 (0, 0)) from four_sets HKa.out _ _ _ _)
                  refine wpAnyH_one (i := 18) (by kernel_rfl) ?_
                  refine wpOp_skip (w' := ((((wa.setCell ⟨wr.heap.size, 0, none⟩ (.int .i64 t.x)).setCell ⟨wr.heap.size, 1, none⟩ (.int .i64 t.y)).setCell ⟨wr.heap.size, 2, none⟩ (.int .i64 t.w)).setCell ⟨wr.heap.size, 3, none⟩ (.int .i64 t.h))) (by simp only [List.getElem?_toArray, List.getElem?_cons_succ, List.getElem?_cons_zero]; rfl) (by rfl) ?mr9b8 Hc.out ?_
                  case mr9b8 => (go_simp; try rfl)
                  (try simp only [Act.put, List.setIfInBounds_toArray, List.set_cons_zero, List.set_cons_succ])
                  refine wpAnyH_done (by kernel_rfl) (NoPanic.normal ?_) _
                  go_wp2
                  go_meet
                  exact ⟨_, rfl, Hc, HK⟩
              case rest =>
                obtain ⟨kt, rfl, HR9, HKT⟩ := hcut
                have R2 := Lib.hid (below_via HR9.out BR.out)
                have HK9 := Lib.hid ((R2.out.block _ (lt_of_block HK6.out)).trans HK6.out)
                have zf := lt_of_block HK9.out
                have zg := lt_of_block HKT.out
                have f0 : wc.cell? ⟨ka, 0, none⟩ = some (.int .i64 f.x) := by rw [cell_of_row _ _ _ _ _ _ HK9.out]; rfl
                have f1 : wc.cell? ⟨ka, 1, none⟩ = some (.int .i64 f.y) := by rw [cell_of_row _ _ _ _ _ _ HK9.out]; rfl
                have f2 : wc.cell? ⟨ka, 2, none⟩ = some (.int .i64 f.w) := by rw [cell_of_row _ _ _ _ _ _ HK9.out]; rfl
                have f3 : wc.cell? ⟨ka, 3, none⟩ = some (.int .i64 f.h) := by rw [cell_of_row _ _ _ _ _ _ HK9.out]; rfl
                have t0 : wc.cell? ⟨kt, 0, none⟩ = some (.int .i64 t.x) := by rw [cell_of_row _ _ _ _ _ _ HKT.out]; rfl
                have t1 : wc.cell? ⟨kt, 1, none⟩ = some (.int .i64 t.y) := by rw [cell_of_row _ _ _ _ _ _ HKT.out]; rfl
                have t2 : wc.cell? ⟨kt, 2, none⟩ = some (.int .i64 t.w) := by rw [cell_of_row _ _ _ _ _ _ HKT.out]; rfl
                have t3 : wc.cell? ⟨kt, 3, none⟩ = some (.int .i64 t.h) := by rw [cell_of_row _ _ _ _ _ _ HKT.out]; rfl
                go_wp2_with fail
                refine (law_lies_any f t key wc HIF.out HIT.out).mono ?_
                obtain ⟨Lb, hLb⟩ : ∃ x, x = liesB f t key := ⟨_, rfl⟩
                obtain ⟨Fb, hFb⟩ : ∃ x, x = farB f t key := ⟨_, rfl⟩
                rw [← hLb, ← hFb]
                have HLB := Lib.hid hLb
                have HFB := Lib.hid hFb
                rintro e w8 ⟨rfl, hb⟩
                have R3 := Lib.hid (below_via hb R2.out)
                have HKT8 := Lib.hid ((hb.block _ (lt_of_block HKT.out)).trans HKT.out)
                clear hb hLb hFb f0 f1 f2 f3 t0 t1 t2 t3 zf zg
                have cj : w8.cell? ⟨bv, ov + j, none⟩ = some (.int .i64 q) := by rw [(bcell R3.out).1 _ _ Hbv.out]; exact HCJ.out
                have zg := lt_of_block HKT8.out
                have hbvw : bv < w8.heap.size := by have := R3.out.size; have := Hbv.out; omega
                have t0 : w8.cell? ⟨kt, 0, none⟩ = some (.int .i64 t.x) := by rw [cell_of_row _ _ _ _ _ _ HKT8.out]; rfl
                have t1 : w8.cell? ⟨kt, 1, none⟩ = some (.int .i64 t.y) := by rw [cell_of_row _ _ _ _ _ _ HKT8.out]; rfl
                have t2 : w8.cell? ⟨kt, 2, none⟩ = some (.int .i64 t.w) := by rw [cell_of_row _ _ _ _ _ _ HKT8.out]; rfl
                have t3 : w8.cell? ⟨kt, 3, none⟩ = some (.int .i64 t.h) := by rw [cell_of_row _ _ _ _ _ _ HKT8.out]; rfl
                by_cases hqa : (q : Int) = (n0 : Int)
                · have k6 : ((q : Int) == (n0 : Int)) = true := by rw [beq_iff_eq]; exact hqa
                  clear hqa
                  go_wp2
                  go_roundw
                  case rel => exact ⟨j + 1, by go_num, by omega, R3⟩
                  case measure => simp [intOf]; omega
                · have k6 : ((q : Int) == (n0 : Int)) = false := beq_eq_false_iff_ne.2 hqa
                  cases hl : Lb with
                  | false =>
                    clear hl hqa
                    go_wp2
                    go_roundw
                    case rel => exact ⟨j + 1, by go_num, by omega, R3⟩
                    case measure => simp [intOf]; omega
                  | true =>
                    have htx := HIT.out.x
                    have hty := HIT.out.y
                    have htw := HIT.out.w
                    have hth := HIT.out.h
                    have HL1 := Lib.hid hl
                    have HQA := Lib.hid hqa
                    clear hl hqa
                    go_wp2_with fail
                    refine (rect_Empty_any t.x t.y t.w t.h w8 (by omega) (by omega) (by omega) (by omega)).mono ?_
                    rintro e w9 ⟨rfl, hb⟩
                    have R4 := Lib.hid (below_via hb R3.out)
                    clear hb
                    cases hok : okB t.x t.y t.w t.h with
                    | false =>
                      clear hok
                      go_wp2
                      go_roundw
                      case rel => exact ⟨j + 1, by go_num, by omega, R4⟩
                      case measure => simp [intOf]; omega
                    | true =>
                      obtain ⟨hn1, hn2, hn3⟩ := HQJ.out ⟨HQA.out, by rw [Int.toNat_natCast, ← HTR.out]; exact hok, by rw [Int.toNat_natCast, ← HTR.out, ← HLB.out]; exact HL1.out⟩
                      have hfe : farN bx f key q = Fb := by rw [HFB.out]; unfold farN; rw [Int.toNat_natCast, ← HTR.out]; exact (far_lies (by rw [← HLB.out]; exact HL1.out)).symm
                      rw [hfe] at hn2 hn3
                      have k7 : (nr == -1) = false := beq_eq_false_iff_ne.2 hn1
                      clear hok hfe hn1
                      by_cases hfl : Fb = 0
                      · have hkj := hn3 hfl
                        have k8 : (Fb == 0) = true := by rw [beq_iff_eq]; exact hfl
                        clear hn3 hfl
                        go_wp2
                        go_roundw
                        case rel => exact ⟨j + 1, by go_num, by omega, R4⟩
                        case measure => simp [intOf]; omega
                      · have k8 : (Fb == 0) = false := beq_eq_false_iff_ne.2 hfl
                        clear hn3 hfl
                        go_wp2
                        go_roundw
                        case rel => exact ⟨j + 1, by go_num, by omega, R4⟩
                        case measure => simp [intOf]; omega
            · have hge : ¬ (j : Int) < (L.length : Int) := by omega
              have HE := Lib.hid (below_via (below_via BR.out D7.out) C1.out)
              go_wp2
              go_ret
              exact ⟨rfl, HE.out⟩
        · obtain ⟨q0, hq0, hq0N⟩ := HFG.out j0 hj0
          rw [hq0] at e1
          exact absurd (e1.symm.trans (HNR.out.trans HCS.out)) (by omega)

set_option maxRecDepth 100000 in
set_option maxHeartbeats 64000000 in
theorem FocusNearest_walk_an (p pb : Option Addr) (c cb nb : Nat) (T : List Nd) (bx : Nat → Nat → Int) (i key : Int) (w : World) (hT : TreeAt w (.slice p T.length c) T) (hB : BoxAt w pb nb bx) (hl : nb ≤ 9223372036854775807) (hC : ClipOk nb bx) (hcs : nearR T nb bx i key ≠ -1) : Calls Try.prog 8 #[.agg #[.slice p T.length c], .slice pb nb cb, .int .i64 i, .int .i32 key] w fun e w' => e = .returned (.bool true) ∧ Below w.heap.size w w' := by
  have HT := Lib.hid hT
  have HBX := Lib.hid hB
  have HCL := Lib.hid hC
  have HCS := Lib.hid hcs
  have hlT := hT.len
  clear hT hB hC hcs
  go_enter Try.func8, Try.ntmps8
  go_wp2_with fail
  obtain ⟨W1, hW1⟩ : ∃ W1, W1 = w.alloc (.cells #[.slice p T.length c] 24) := ⟨_, rfl⟩
  have C1 := Lib.hid (show Below w.heap.size w W1 by rw [hW1]; exact below_al (Below.refl _ _) _)
  have a1 := Lib.hid (show W1.heap[w.heap.size]? = some (.cells #[.slice p T.length c] 24 (0, 0)) by rw [hW1]; exact heap_alloc_new _ _)
  rw [← hW1]
  clear hW1
  have HT1 := Lib.hid (HT.out.later C1.out)
  have HB1 := Lib.hid (HBX.out.later C1.out (Nat.le_refl _))
  have HF := Lib.hid (fun w' (h : Below W1.heap.size W1 w') => show w'.cell? ⟨w.heap.size, 0, none⟩ = some (.slice p T.length c) ∧ w.heap.size < w'.heap.size from by
    have := lt_of_block a1.out
    have := h.size
    exact ⟨cell_of_one ((h.block _ (lt_of_block a1.out)).trans a1.out), by omega⟩)
  clear HT HBX
  refine (works_any W1).mono ?_
  rintro e w2 ⟨rfl, hb⟩
  have D2 := Lib.hid hb
  clear hb
  obtain ⟨x0, s0⟩ := HF.out w2 D2.out
  go_wp2_with fail
  refine (focus_Near_any p pb c cb nb T bx i key w2 (HT1.out.later D2.out) (HB1.out.later D2.out (Nat.le_refl _)) hl HCL.out).mono ?_
  obtain ⟨nr, hnr⟩ : ∃ r, r = nearR T nb bx i key := ⟨_, rfl⟩
  have HNR := Lib.hid hnr
  rw [← hnr]
  rintro e w3 ⟨rfl, hb⟩
  have D3 := Lib.hid (below_via hb D2.out)
  clear hb x0 s0 hnr
  obtain ⟨x0, s0⟩ := HF.out w3 D3.out
  go_wp2_with fail
  refine (law_right_any p c T w3 (HT1.out.later D3.out)).mono ?_
  obtain ⟨cc, hcc⟩ : ∃ cc, cc = (checkT T).1 := ⟨_, rfl⟩
  have HCC := Lib.hid hcc
  have HRT := Lib.hid (show rightB T = decide (cc = 0) by unfold rightB; rw [hcc])
  rw [HRT.out]
  rintro e w4 ⟨rfl, hb⟩
  have D4 := Lib.hid (below_via hb D3.out)
  clear hb x0 s0 hcc HRT
  obtain ⟨x0, s0⟩ := HF.out w4 D4.out
  have HE4 := Lib.hid (below_via D4.out C1.out)
  rcases (show cc ≠ 0 ∨ (cc = 0 ∧ nb ≠ T.length) ∨ (cc = 0 ∧ nb = T.length ∧ i < 0) ∨ (cc = 0 ∧ nb = T.length ∧ 0 ≤ i ∧ (nb : Int) ≤ i) ∨ (cc = 0 ∧ nb = T.length ∧ 0 ≤ i ∧ i < (nb : Int)) by omega) with h | ⟨h, h2⟩ | ⟨h, h2, h3⟩ | ⟨h, h2, h3, h4⟩ | ⟨h, h2, h3, h4⟩
  · have k0 : (nr == -1) = true := by rw [HNR.out, near_no (.inl (by rw [← HCC.out]; exact h))]; rfl
    rw [show decide (cc = 0) = false by simpa using h]
    clear h
    go_wp2
    go_ret
    exact ⟨rfl, HE4.out⟩
  · have k0 : (nr == -1) = true := by rw [HNR.out, near_no (.inr (.inl h2))]; rfl
    rw [show decide (cc = 0) = true by simpa using h]
    have k2 : ((nb : Int) != (T.length : Int)) = true := by rw [bne_iff_ne]; omega
    clear h h2
    go_wp2
    go_ret
    exact ⟨rfl, HE4.out⟩
  · have k0 : (nr == -1) = true := by rw [HNR.out, near_no (.inr (.inr (.inl h3)))]; rfl
    rw [show decide (cc = 0) = true by simpa using h]
    have k2 : ((nb : Int) != (T.length : Int)) = false := by rw [h2]; simp
    clear h h2
    go_wp2
    go_ret
    exact ⟨rfl, HE4.out⟩
  · have k0 : (nr == -1) = true := by rw [HNR.out, near_no (.inr (.inr (.inr h4)))]; rfl
    rw [show decide (cc = 0) = true by simpa using h]
    have k2 : ((nb : Int) != (T.length : Int)) = false := by rw [h2]; simp
    clear h h2
    go_wp2
    go_ret
    exact ⟨rfl, HE4.out⟩
  · obtain ⟨n0, rfl⟩ := Int.eq_ofNat_of_zero_le h3
    have hn0 : n0 < nb := by omega
    rw [show decide (cc = 0) = true by simpa using h]
    have k2 : ((nb : Int) != (T.length : Int)) = false := by rw [h2]; simp
    have HNN := Lib.hid (show ¬ ((checkT T).1 ≠ 0 ∨ nb ≠ T.length ∨ ((n0 : Nat) : Int) < 0 ∨ (nb : Int) ≤ ((n0 : Nat) : Int)) by rw [← HCC.out]; omega)
    have HNB := Lib.hid h2
    obtain ⟨bb, ob, rfl, hbz, hbc⟩ := HB1.out (by omega)
    have HBC := Lib.hid (fun w' (h : Below W1.heap.size W1 w') (n : Nat) (hn : n < nb) => show (w'.cell? ⟨bb, ob + n * 18 + 12, none⟩ = some (.int .i64 (bx n 12)) ∧ w'.cell? ⟨bb, ob + n * 18 + 13, none⟩ = some (.int .i64 (bx n 13)) ∧ w'.cell? ⟨bb, ob + n * 18 + 14, none⟩ = some (.int .i64 (bx n 14)) ∧ w'.cell? ⟨bb, ob + n * 18 + 15, none⟩ = some (.int .i64 (bx n 15))) ∧ bb < w'.heap.size from by
      obtain ⟨hcl, _⟩ := bcell h
      have := h.size
      refine ⟨⟨?_, ?_, ?_, ?_⟩, by omega⟩ <;> (rw [hcl _ _ hbz, Nat.add_assoc]; exact hbc n hn _ (by omega)))
    have HME := Lib.hid (fun (w' : World) (n : Nat) (hn : n < nb) => meet_seen bx n nb hn HCL.out w')
    clear h h2 hbc HB1 HE4
    obtain ⟨⟨y0, y1, y2, y3⟩, sb⟩ := HBC.out w4 D4.out n0 hn0
    obtain ⟨f, hf⟩ : ∃ f, f = seenR bx n0 := ⟨_, rfl⟩
    have HFR := Lib.hid hf
    have HIF := Lib.hid (show InP f by rw [hf]; exact selfR_in (clipR bx n0))
    have HOKF := Lib.hid (show okR4 f = okB (bx n0 12) (bx n0 13) (bx n0 14) (bx n0 15) by rw [hf]; exact ok_seen (clipR bx n0))
    clear hf
    go_wp2_with fail
    refine (rect_Empty_any (bx n0 12) (bx n0 13) (bx n0 14) (bx n0 15) w4 (HCL.out n0 hn0 12 (by omega) (by omega)) (HCL.out n0 hn0 13 (by omega) (by omega)) (HCL.out n0 hn0 14 (by omega) (by omega)) (HCL.out n0 hn0 15 (by omega) (by omega))).mono ?_
    rw [← HOKF.out]
    rintro e w5 ⟨rfl, hb⟩
    have D5 := Lib.hid (below_via hb D4.out)
    clear hb x0 s0 y0 y1 y2 y3 sb
    cases hok : okR4 f with
    | false =>
      have k0 : (nr == -1) = true := by rw [HNR.out, near_empty (by rw [Int.toNat_natCast, ← HFR.out]; exact hok)]; rfl
      have HE := Lib.hid (below_via D5.out C1.out)
      clear hok
      go_wp2
      go_ret
      exact ⟨rfl, HE.out⟩
    | true =>
      have HSP := Lib.hid (near_spec (T := T) (nb := nb) (bx := bx) (at' := (n0 : Int)) (key := key) HNN.out (by rw [Int.toNat_natCast, ← HFR.out]; exact hok))
      rw [Int.toNat_natCast, ← HFR.out, ← HNR.out] at HSP
      have HBK := Lib.hid (fun w' (h : Below w5.heap.size w5 w') => (HBC.out w' (below_via h D5.out) n0 hn0).1)
      obtain ⟨_, sb⟩ := HBC.out w5 D5.out n0 hn0
      have HM0 := Lib.hid (fun w' => show Calls Try.prog 31 _ w' (fun e w'' => e = .returned (.agg #[.int .i64 f.x, .int .i64 f.y, .int .i64 f.w, .int .i64 f.h]) ∧ Below w'.heap.size w' w'') from by have := HME.out w' n0 hn0; rw [← HFR.out] at this; exact this)
      clear hok HNN HOKF
      go_upto_region 6 with (fail)
      go_cut [10] (fun s wx => ∃ k : Nat, s = .pointer (some ⟨k, 0, none⟩) ∧ RowKit.Hid (Below w5.heap.size w5 wx) ∧ RowKit.Hid (wx.heap[k]? = some (.cells #[.int .i64 f.x, .int .i64 f.y, .int .i64 f.w, .int .i64 f.h] 77 (0, 0))))
      case first =>
        have H00 := Lib.hid (Below.drew (Below.refl w5.heap.size w5))
        refine wp_region_noPanic ?_
        refine wp_region_held (S := fun w' => Below w5.heap.size w5 w') (by kernel_rfl) ?_
        change wpAnyH _ _ _ _ _ 13 (Array.replicate 13 false) _ _
        refine wpAnyH_take (i := 0) (v := ?vr60) (by simp only [List.getElem?_toArray, List.getElem?_cons_succ, List.getElem?_cons_zero]; rfl) (by kernel_rfl) (by kernel_rfl) (by kernel_rfl) (fun _ _ _ h => h) (.inl ⟨by rfl, ?tr60⟩) ?sr60 ?_
        case tr60 => (intro w' h; clear h; go_simp; try rfl)
        case sr60 => exact H00.out
        (try simp only [Act.put, List.setIfInBounds_toArray, List.set_cons_zero, List.set_cons_succ])
        refine wpAnyH_take (i := 1) (v := ?vr61) (by simp only [List.getElem?_toArray, List.getElem?_cons_succ, List.getElem?_cons_zero]; rfl) (by kernel_rfl) (by kernel_rfl) (by kernel_rfl) (fun _ _ _ h => h) (.inl ⟨by rfl, ?tr61⟩) ?sr61 ?_
        case tr61 => (intro w' h; clear h; go_simp; try rfl)
        case sr61 => exact H00.out
        (try simp only [Act.put, List.setIfInBounds_toArray, List.set_cons_zero, List.set_cons_succ])
        refine wpAnyH_take (i := 2) (v := ?vr62) (by simp only [List.getElem?_toArray, List.getElem?_cons_succ, List.getElem?_cons_zero]; rfl) (by kernel_rfl) (by kernel_rfl) (by kernel_rfl) (fun _ _ _ h => h) (.inl ⟨by rfl, ?tr62⟩) ?sr62 ?_
        case tr62 => (intro w' h; clear h; go_simp; try rfl)
        case sr62 => exact H00.out
        (try simp only [Act.put, List.setIfInBounds_toArray, List.set_cons_zero, List.set_cons_succ])
        refine wpAnyH_take (i := 3) (v := ?vr63) (by simp only [List.getElem?_toArray, List.getElem?_cons_succ, List.getElem?_cons_zero]; rfl) (by kernel_rfl) (by kernel_rfl) (by kernel_rfl) (fun _ _ _ h => h) (.inl ⟨by rfl, ?tr63⟩) ?sr63 ?_
        case tr63 => (intro w' h; clear h; go_simp; try rfl)
        case sr63 => exact H00.out
        (try simp only [Act.put, List.setIfInBounds_toArray, List.set_cons_zero, List.set_cons_succ])
        refine wpAnyH_take (i := 4) (v := ?vr64) (by simp only [List.getElem?_toArray, List.getElem?_cons_succ, List.getElem?_cons_zero]; rfl) (by kernel_rfl) (by kernel_rfl) (by kernel_rfl) (fun _ _ _ h => h) (.inl ⟨by rfl, ?tr64⟩) ?sr64 ?_
        case tr64 => (intro w' h; have FK := HBK.out w' h; clear h; go_split_ands; go_simp; try rfl)
        case sr64 => exact H00.out
        (try simp only [Act.put, List.setIfInBounds_toArray, List.set_cons_zero, List.set_cons_succ])
        refine wpAnyH_take (i := 5) (v := ?vr65) (by simp only [List.getElem?_toArray, List.getElem?_cons_succ, List.getElem?_cons_zero]; rfl) (by kernel_rfl) (by kernel_rfl) (by kernel_rfl) (fun _ _ _ h => h) (.inl ⟨by rfl, ?tr65⟩) ?sr65 ?_
        case tr65 => (intro w' h; clear h; go_simp; try rfl)
        case sr65 => exact H00.out
        (try simp only [Act.put, List.setIfInBounds_toArray, List.set_cons_zero, List.set_cons_succ])
        refine wpAnyH_take (i := 6) (v := ?vr66) (by simp only [List.getElem?_toArray, List.getElem?_cons_succ, List.getElem?_cons_zero]; rfl) (by kernel_rfl) (by kernel_rfl) (by kernel_rfl) (fun _ _ _ h => h) (.inl ⟨by rfl, ?tr66⟩) ?sr66 ?_
        case tr66 => (intro w' h; clear h; go_simp; try rfl)
        case sr66 => exact H00.out
        (try simp only [Act.put, List.setIfInBounds_toArray, List.set_cons_zero, List.set_cons_succ])
        refine wpAnyH_take (i := 7) (v := ?vr67) (by simp only [List.getElem?_toArray, List.getElem?_cons_succ, List.getElem?_cons_zero]; rfl) (by kernel_rfl) (by kernel_rfl) (by kernel_rfl) (fun _ _ _ h => h) (.inl ⟨by rfl, ?tr67⟩) ?sr67 ?_
        case tr67 => (intro w' h; clear h; go_simp; try rfl)
        case sr67 => exact H00.out
        (try simp only [Act.put, List.setIfInBounds_toArray, List.set_cons_zero, List.set_cons_succ])
        refine wpAnyH_take (i := 8) (v := ?vr68) (by simp only [List.getElem?_toArray, List.getElem?_cons_succ, List.getElem?_cons_zero]; rfl) (by kernel_rfl) (by kernel_rfl) (by kernel_rfl) (fun _ _ _ h => h) (.inl ⟨by rfl, ?tr68⟩) ?sr68 ?_
        case tr68 => (intro w' h; clear h; go_simp; try rfl)
        case sr68 => exact H00.out
        (try simp only [Act.put, List.setIfInBounds_toArray, List.set_cons_zero, List.set_cons_succ])
        refine wpAnyH_take (i := 9) (v := ?vr69) (by simp only [List.getElem?_toArray, List.getElem?_cons_succ, List.getElem?_cons_zero]; rfl) (by kernel_rfl) (by kernel_rfl) (by kernel_rfl) (fun _ _ _ h => h) (.inl ⟨by rfl, ?tr69⟩) ?sr69 ?_
        case tr69 => (intro w' h; have FK := HBK.out w' h; clear h; go_split_ands; go_simp; try rfl)
        case sr69 => exact H00.out
        (try simp only [Act.put, List.setIfInBounds_toArray, List.set_cons_zero, List.set_cons_succ])
        refine wpAnyH_two (i := 10) (k := 11) (by kernel_rfl) ?Ar6 ?Br6
        case Ar6 =>
          refine wpOp_call (by simp only [List.getElem?_toArray, List.getElem?_cons_succ, List.getElem?_cons_zero]; rfl) (by rfl) (by go_simp; first | exact ⟨rfl, rfl⟩ | rfl) ?_
          refine (HM0.out _).mono ?_
          rintro e wa ⟨rfl, hb⟩
          have Ha := Lib.hid (below_via hb H00.out)
          clear hb
          refine ⟨_, rfl, Ha.out, ?_⟩
          (try simp only [Act.put, List.setIfInBounds_toArray, List.set_cons_zero, List.set_cons_succ])
          have Hb := Lib.hid (show Below w5.heap.size w5 (wa.alloc (.cells #[.int .i64 0, .int .i64 0, .int .i64 0, .int .i64 0] 77)) from below_al Ha.out _)
          refine wpAnyH_one (i := 11) (by kernel_rfl) ?_
          refine wpOp_value (v := .pointer (some ⟨wa.heap.size, 0, none⟩)) (w' := wa.alloc (.cells #[.int .i64 0, .int .i64 0, .int .i64 0, .int .i64 0] 77)) (by simp only [List.getElem?_toArray, List.getElem?_cons_succ, List.getElem?_cons_zero]; rfl) (by rfl) ?mr6a7 Hb.out ?_
          case mr6a7 => (go_simp; try rfl)
          (try simp only [Act.put, List.setIfInBounds_toArray, List.set_cons_zero, List.set_cons_succ])
          have Hc := Lib.hid (show Below w5.heap.size w5 (wa.alloc (.cells #[.int .i64 f.x, .int .i64 f.y, .int .i64 f.w, .int .i64 f.h] 77)) from below_al Ha.out _)
          have hk := heap_alloc_new wa (.cells #[.int .i64 f.x, .int .i64 f.y, .int .i64 f.w, .int .i64 f.h] 77)
          have HK := Lib.hid hk
          clear hk
          refine wpAnyH_one (i := 12) (by kernel_rfl) ?_
          refine wpOp_skip (w' := wa.alloc (.cells #[.int .i64 f.x, .int .i64 f.y, .int .i64 f.w, .int .i64 f.h] 77)) (by simp only [List.getElem?_toArray, List.getElem?_cons_succ, List.getElem?_cons_zero]; rfl) (by rfl) ?mr6a8 Hc.out ?_
          case mr6a8 => (go_simp; try rfl)
          (try simp only [Act.put, List.setIfInBounds_toArray, List.set_cons_zero, List.set_cons_succ])
          refine wpAnyH_done (by kernel_rfl) (NoPanic.normal ?_) _
          go_wp2
          go_meet
          exact ⟨_, rfl, Hc, HK⟩
        case Br6 =>
          have Hb := Lib.hid (show Below w5.heap.size w5 (w5.drew.alloc (.cells #[.int .i64 0, .int .i64 0, .int .i64 0, .int .i64 0] 77)) from below_al H00.out _)
          refine wpOp_value (v := .pointer (some ⟨w5.heap.size, 0, none⟩)) (w' := w5.drew.alloc (.cells #[.int .i64 0, .int .i64 0, .int .i64 0, .int .i64 0] 77)) (by simp only [List.getElem?_toArray, List.getElem?_cons_succ, List.getElem?_cons_zero]; rfl) (by rfl) ?mr6b7 Hb.out ?_
          case mr6b7 => (go_simp; try rfl)
          (try simp only [Act.put, List.setIfInBounds_toArray, List.set_cons_zero, List.set_cons_succ])
          have HKb := Lib.hid (show (w5.drew.alloc (.cells #[.int .i64 0, .int .i64 0, .int .i64 0, .int .i64 0] 77)).heap[w5.heap.size]? = some (.cells #[.int .i64 0, .int .i64 0, .int .i64 0, .int .i64 0] 77 (0, 0)) from heap_alloc_new w5.drew (.cells #[.int .i64 0, .int .i64 0, .int .i64 0, .int .i64 0] 77))
          refine wpAnyH_one (i := 10) (by kernel_rfl) ?_
          refine wpOp_call (by simp only [List.getElem?_toArray, List.getElem?_cons_succ, List.getElem?_cons_zero]; rfl) (by rfl) (by go_simp; first | exact ⟨rfl, rfl⟩ | rfl) ?_
          refine (HM0.out _).mono ?_
          rintro e wa ⟨rfl, hb⟩
          have Ha := Lib.hid (below_via hb Hb.out)
          have HKa := Lib.hid ((hb.block _ (lt_of_block HKb.out)).trans HKb.out)
          clear hb
          refine ⟨_, rfl, Ha.out, ?_⟩
          (try simp only [Act.put, List.setIfInBounds_toArray, List.set_cons_zero, List.set_cons_succ])
          have b0 : wa.cell? ⟨w5.heap.size, 0, none⟩ = some (.int .i64 0) := by rw [cell_of_row _ _ _ _ _ _ HKa.out]; rfl
          have d0 : wa.frozen? ⟨w5.heap.size, 0, none⟩ = false := frozen_of_row _ _ _ _ _ HKa.out
          have b1 : wa.cell? ⟨w5.heap.size, 1, none⟩ = some (.int .i64 0) := by rw [cell_of_row _ _ _ _ _ _ HKa.out]; rfl
          have d1 : wa.frozen? ⟨w5.heap.size, 1, none⟩ = false := frozen_of_row _ _ _ _ _ HKa.out
          have b2 : wa.cell? ⟨w5.heap.size, 2, none⟩ = some (.int .i64 0) := by rw [cell_of_row _ _ _ _ _ _ HKa.out]; rfl
          have d2 : wa.frozen? ⟨w5.heap.size, 2, none⟩ = false := frozen_of_row _ _ _ _ _ HKa.out
          have b3 : wa.cell? ⟨w5.heap.size, 3, none⟩ = some (.int .i64 0) := by rw [cell_of_row _ _ _ _ _ _ HKa.out]; rfl
          have d3 : wa.frozen? ⟨w5.heap.size, 3, none⟩ = false := frozen_of_row _ _ _ _ _ HKa.out
          have hz : w5.heap.size < wa.heap.size := lt_of_block HKa.out
          have Hc := Lib.hid (show Below w5.heap.size w5 ((((wa.setCell ⟨w5.heap.size, 0, none⟩ (.int .i64 f.x)).setCell ⟨w5.heap.size, 1, none⟩ (.int .i64 f.y)).setCell ⟨w5.heap.size, 2, none⟩ (.int .i64 f.w)).setCell ⟨w5.heap.size, 3, none⟩ (.int .i64 f.h)) from ((((Ha.out.setCell (p := ⟨w5.heap.size, 0, none⟩) (Nat.le_refl _) _).setCell (p := ⟨w5.heap.size, 1, none⟩) (Nat.le_refl _) _).setCell (p := ⟨w5.heap.size, 2, none⟩) (Nat.le_refl _) _).setCell (p := ⟨w5.heap.size, 3, none⟩) (Nat.le_refl _) _))
          have HK := Lib.hid (show ((((wa.setCell ⟨w5.heap.size, 0, none⟩ (.int .i64 f.x)).setCell ⟨w5.heap.size, 1, none⟩ (.int .i64 f.y)).setCell ⟨w5.heap.size, 2, none⟩ (.int .i64 f.w)).setCell ⟨w5.heap.size, 3, none⟩ (.int .i64 f.h)).heap[w5.heap.size]? = some (.cells #[.int .i64 f.x, .int .i64 f.y, .int .i64 f.w, .int .i64 f.h] 77 (0, 0)) from four_sets HKa.out _ _ _ _)
          refine wpAnyH_one (i := 12) (by kernel_rfl) ?_
          refine wpOp_skip (w' := ((((wa.setCell ⟨w5.heap.size, 0, none⟩ (.int .i64 f.x)).setCell ⟨w5.heap.size, 1, none⟩ (.int .i64 f.y)).setCell ⟨w5.heap.size, 2, none⟩ (.int .i64 f.w)).setCell ⟨w5.heap.size, 3, none⟩ (.int .i64 f.h))) (by simp only [List.getElem?_toArray, List.getElem?_cons_succ, List.getElem?_cons_zero]; rfl) (by rfl) ?mr6b8 Hc.out ?_
          case mr6b8 => (go_simp; try rfl)
          (try simp only [Act.put, List.setIfInBounds_toArray, List.set_cons_zero, List.set_cons_succ])
          refine wpAnyH_done (by kernel_rfl) (NoPanic.normal ?_) _
          go_wp2
          go_meet
          exact ⟨_, rfl, Hc, HK⟩
      case rest =>
        obtain ⟨ka, rfl, HR6, HKA⟩ := hcut
        have D6 := Lib.hid (below_via HR6.out D5.out)
        obtain ⟨x0, s0⟩ := HF.out wc D6.out
        go_wp2_with fail
        refine (focus_Order_any p c T wc (HT1.out.later D6.out)).mono ?_
        have hlL := fos_4096 T
        have HFG := Lib.hid (fun j (hj : j < (fosL T).length) => fos_get hj)
        have HND := Lib.hid (fosL_nodup T)
        obtain ⟨L, hL⟩ : ∃ L, L = fosL T := ⟨_, rfl⟩
        rw [← hL] at hlL HFG HND HSP ⊢
        clear hL
        rintro e w6 ⟨v, rfl, own, hb⟩
        have D7 := Lib.hid (below_via hb D6.out)
        have HK6 := Lib.hid ((hb.block _ (lt_of_block HKA.out)).trans HKA.out)
        have HV := Lib.hid (row_ints own)
        obtain ⟨pv, cv, rfl, hv1, hv2, _, hvc⟩ := HV.out
        have HVC := Lib.hid hvc
        clear hb own hvc x0 s0 sb
        go_wp2_with fail
        refine (place_any _ L nr w6 HV.out).mono ?_
        rintro e w7 ⟨rfl, rfl⟩
        rcases HSP.out with ⟨e1, hno⟩ | ⟨j0, hj0, e1, hc, hm⟩
        · exact absurd (HNR.out.symm.trans e1) HCS.out
        · obtain ⟨q0, hq0, hq0N⟩ := HFG.out j0 hj0
          rw [hq0] at e1 hc hm
          subst e1
          have k5 : ((q0 : Int) != -1) = true := by rw [bne_iff_ne]; omega
          rw [show atI L (q0 : Int) = (j0 : Int) by rw [← hq0]; exact atI_get HND.out hj0]
          have hqn0 : q0 < nb := by have := HNB.out; omega
          have hqi0 : (q0 : Int) < (nb : Int) := by omega
          have hmx : max (q0 : Int) 0 = (q0 : Int) := by omega
          have hrm : (q0 : Int).tmod (nb : Int) = (q0 : Int) := by rw [Int.tmod_eq_emod_of_nonneg (by omega)]; exact Int.emod_eq_of_lt (by omega) hqi0
          have hnz : (nb : Int) ≠ 0 := by omega
          have hnb0 : nb ≠ 0 := by omega
          have hnz2 : ((nb : Int) == 0) = false := beq_eq_false_iff_ne.2 hnz
          obtain ⟨u, hu⟩ : ∃ u, u = seenR bx q0 := ⟨_, rfl⟩
          have HUR := Lib.hid hu
          have HIU := Lib.hid (show InP u by rw [hu]; exact selfR_in (clipR bx q0))
          obtain ⟨hc1, hc2, hc3⟩ := hc
          rw [Int.toNat_natCast, ← hu] at hc2 hc3
          obtain ⟨lst, hls⟩ : ∃ x, x = farB f u key := ⟨_, rfl⟩
          have HLS := Lib.hid hls
          have hfu : farN bx f key q0 = lst := by unfold farN; rw [Int.toNat_natCast, ← hu, hls]; exact (far_lies hc3).symm
          rw [hfu] at hm
          have HCA := Lib.hid (fun j (hj : j < L.length) (hcj : candB bx f key n0 (L.getD j 0)) => show (q0 : Int) ≠ -1 ∧ lst ≤ farN bx f key (L.getD j 0) ∧ (farN bx f key (L.getD j 0) = lst → (j0 : Int) ≤ (j : Int)) from by
            obtain ⟨m1, m2⟩ := hm j hj hcj
            refine ⟨by omega, m1, fun e => ?_⟩
            rcases Nat.lt_or_ge j j0 with h | h
            · have := m2 h; omega
            · omega)
          have HMU := Lib.hid (fun w' => show Calls Try.prog 31 _ w' (fun e w'' => e = .returned (.agg #[.int .i64 u.x, .int .i64 u.y, .int .i64 u.w, .int .i64 u.h]) ∧ Below w'.heap.size w' w'') from by have := HME.out w' q0 hqn0; rw [← HUR.out] at this; exact this)
          have HBU := Lib.hid (fun w' (h : Below w6.heap.size w6 w') => (HBC.out w' (below_via h D7.out) q0 hqn0).1)
          have HC2 := Lib.hid hc2
          have HC3 := Lib.hid hc3
          have k9 : ((q0 : Int) == (n0 : Int)) = false := beq_eq_false_iff_ne.2 hc1
          have hj0L := hj0
          clear hu hls hfu hm hc1 hc2 hc3 hq0 HSP HNR
          go_upto_region 11 with (fail)
          go_cut [14] (fun s wx => ∃ k : Nat, s = .pointer (some ⟨k, 0, none⟩) ∧ RowKit.Hid (Below w6.heap.size w6 wx) ∧ RowKit.Hid (wx.heap[k]? = some (.cells #[.int .i64 u.x, .int .i64 u.y, .int .i64 u.w, .int .i64 u.h] 77 (0, 0))))
          case first =>
            have H00 := Lib.hid (Below.drew (Below.refl w6.heap.size w6))
            refine wp_region_noPanic ?_
            refine wp_region_held (S := fun w' => Below w6.heap.size w6 w') (by kernel_rfl) ?_
            change wpAnyH _ _ _ _ _ 21 (Array.replicate 21 false) _ _
            refine wpAnyH_take (i := 0) (v := ?vr110) (by simp only [List.getElem?_toArray, List.getElem?_cons_succ, List.getElem?_cons_zero]; rfl) (by kernel_rfl) (by kernel_rfl) (by kernel_rfl) (fun _ _ _ h => h) (.inl ⟨by rfl, ?tr110⟩) ?sr110 ?_
            case tr110 => (intro w' h; clear h; go_simp; try rfl)
            case sr110 => exact H00.out
            (try simp only [Act.put, List.setIfInBounds_toArray, List.set_cons_zero, List.set_cons_succ])
            refine wpAnyH_take (i := 1) (v := ?vr111) (by simp only [List.getElem?_toArray, List.getElem?_cons_succ, List.getElem?_cons_zero]; rfl) (by kernel_rfl) (by kernel_rfl) (by kernel_rfl) (fun _ _ _ h => h) (.inl ⟨by rfl, ?tr111⟩) ?sr111 ?_
            case tr111 => (intro w' h; clear h; go_simp; try rfl)
            case sr111 => exact H00.out
            (try simp only [Act.put, List.setIfInBounds_toArray, List.set_cons_zero, List.set_cons_succ])
            refine wpAnyH_take (i := 2) (v := ?vr112) (by simp only [List.getElem?_toArray, List.getElem?_cons_succ, List.getElem?_cons_zero]; rfl) (by kernel_rfl) (by kernel_rfl) (by kernel_rfl) (fun _ _ _ h => h) (.inl ⟨by rfl, ?tr112⟩) ?sr112 ?_
            case tr112 => (intro w' h; clear h; go_simp; try rfl)
            case sr112 => exact H00.out
            (try simp only [Act.put, List.setIfInBounds_toArray, List.set_cons_zero, List.set_cons_succ])
            refine wpAnyH_take (i := 3) (v := ?vr113) (by simp only [List.getElem?_toArray, List.getElem?_cons_succ, List.getElem?_cons_zero]; rfl) (by kernel_rfl) (by kernel_rfl) (by kernel_rfl) (fun _ _ _ h => h) (.inl ⟨by rfl, ?tr113⟩) ?sr113 ?_
            case tr113 => (intro w' h; clear h; go_simp; try rfl)
            case sr113 => exact H00.out
            (try simp only [Act.put, List.setIfInBounds_toArray, List.set_cons_zero, List.set_cons_succ])
            refine wpAnyH_take (i := 4) (v := ?vr114) (by simp only [List.getElem?_toArray, List.getElem?_cons_succ, List.getElem?_cons_zero]; rfl) (by kernel_rfl) (by kernel_rfl) (by kernel_rfl) (fun _ _ _ h => h) (.inl ⟨by rfl, ?tr114⟩) ?sr114 ?_
            case tr114 => (intro w' h; clear h; go_simp; try rfl)
            case sr114 => exact H00.out
            (try simp only [Act.put, List.setIfInBounds_toArray, List.set_cons_zero, List.set_cons_succ])
            refine wpAnyH_take (i := 5) (v := ?vr115) (by simp only [List.getElem?_toArray, List.getElem?_cons_succ, List.getElem?_cons_zero]; rfl) (by kernel_rfl) (by kernel_rfl) (by kernel_rfl) (fun _ _ _ h => h) (.inl ⟨by rfl, ?tr115⟩) ?sr115 ?_
            case tr115 => (intro w' h; clear h; go_simp; try rfl)
            case sr115 => exact H00.out
            (try simp only [Act.put, List.setIfInBounds_toArray, List.set_cons_zero, List.set_cons_succ])
            refine wpAnyH_take (i := 6) (v := ?vr116) (by simp only [List.getElem?_toArray, List.getElem?_cons_succ, List.getElem?_cons_zero]; rfl) (by kernel_rfl) (by kernel_rfl) (by kernel_rfl) (fun _ _ _ h => h) (.inl ⟨by rfl, ?tr116⟩) ?sr116 ?_
            case tr116 => (intro w' h; clear h; go_simp; try rfl)
            case sr116 => exact H00.out
            (try simp only [Act.put, List.setIfInBounds_toArray, List.set_cons_zero, List.set_cons_succ])
            refine wpAnyH_take (i := 7) (v := ?vr117) (by simp only [List.getElem?_toArray, List.getElem?_cons_succ, List.getElem?_cons_zero]; rfl) (by kernel_rfl) (by kernel_rfl) (by kernel_rfl) (fun _ _ _ h => h) (.inl ⟨by rfl, ?tr117⟩) ?sr117 ?_
            case tr117 => (intro w' h; clear h; go_simp; try rfl)
            case sr117 => exact H00.out
            (try simp only [Act.put, List.setIfInBounds_toArray, List.set_cons_zero, List.set_cons_succ])
            refine wpAnyH_take (i := 8) (v := ?vr118) (by simp only [List.getElem?_toArray, List.getElem?_cons_succ, List.getElem?_cons_zero]; rfl) (by kernel_rfl) (by kernel_rfl) (by kernel_rfl) (fun _ _ _ h => h) (.inl ⟨by rfl, ?tr118⟩) ?sr118 ?_
            case tr118 => (intro w' h; have FK := HBU.out w' h; clear h; go_split_ands; go_simp; try rfl)
            case sr118 => exact H00.out
            (try simp only [Act.put, List.setIfInBounds_toArray, List.set_cons_zero, List.set_cons_succ])
            refine wpAnyH_take (i := 9) (v := ?vr119) (by simp only [List.getElem?_toArray, List.getElem?_cons_succ, List.getElem?_cons_zero]; rfl) (by kernel_rfl) (by kernel_rfl) (by kernel_rfl) (fun _ _ _ h => h) (.inl ⟨by rfl, ?tr119⟩) ?sr119 ?_
            case tr119 => (intro w' h; clear h; go_simp; try rfl)
            case sr119 => exact H00.out
            (try simp only [Act.put, List.setIfInBounds_toArray, List.set_cons_zero, List.set_cons_succ])
            refine wpAnyH_take (i := 10) (v := ?vr1110) (by simp only [List.getElem?_toArray, List.getElem?_cons_succ, List.getElem?_cons_zero]; rfl) (by kernel_rfl) (by kernel_rfl) (by kernel_rfl) (fun _ _ _ h => h) (.inl ⟨by rfl, ?tr1110⟩) ?sr1110 ?_
            case tr1110 => (intro w' h; clear h; go_simp; try rfl)
            case sr1110 => exact H00.out
            (try simp only [Act.put, List.setIfInBounds_toArray, List.set_cons_zero, List.set_cons_succ])
            refine wpAnyH_take (i := 11) (v := ?vr1111) (by simp only [List.getElem?_toArray, List.getElem?_cons_succ, List.getElem?_cons_zero]; rfl) (by kernel_rfl) (by kernel_rfl) (by kernel_rfl) (fun _ _ _ h => h) (.inl ⟨by rfl, ?tr1111⟩) ?sr1111 ?_
            case tr1111 => (intro w' h; clear h; go_simp; try rfl)
            case sr1111 => exact H00.out
            (try simp only [Act.put, List.setIfInBounds_toArray, List.set_cons_zero, List.set_cons_succ])
            refine wpAnyH_take (i := 12) (v := ?vr1112) (by simp only [List.getElem?_toArray, List.getElem?_cons_succ, List.getElem?_cons_zero]; rfl) (by kernel_rfl) (by kernel_rfl) (by kernel_rfl) (fun _ _ _ h => h) (.inl ⟨by rfl, ?tr1112⟩) ?sr1112 ?_
            case tr1112 => (intro w' h; clear h; go_simp; try rfl)
            case sr1112 => exact H00.out
            (try simp only [Act.put, List.setIfInBounds_toArray, List.set_cons_zero, List.set_cons_succ])
            refine wpAnyH_take (i := 13) (v := ?vr1113) (by simp only [List.getElem?_toArray, List.getElem?_cons_succ, List.getElem?_cons_zero]; rfl) (by kernel_rfl) (by kernel_rfl) (by kernel_rfl) (fun _ _ _ h => h) (.inl ⟨by rfl, ?tr1113⟩) ?sr1113 ?_
            case tr1113 => (intro w' h; clear h; go_simp; try rfl)
            case sr1113 => exact H00.out
            (try simp only [Act.put, List.setIfInBounds_toArray, List.set_cons_zero, List.set_cons_succ])
            refine wpAnyH_take (i := 14) (v := ?vr1114) (by simp only [List.getElem?_toArray, List.getElem?_cons_succ, List.getElem?_cons_zero]; rfl) (by kernel_rfl) (by kernel_rfl) (by kernel_rfl) (fun _ _ _ h => h) (.inl ⟨by rfl, ?tr1114⟩) ?sr1114 ?_
            case tr1114 => (intro w' h; clear h; go_simp; try rfl)
            case sr1114 => exact H00.out
            (try simp only [Act.put, List.setIfInBounds_toArray, List.set_cons_zero, List.set_cons_succ])
            refine wpAnyH_take (i := 15) (v := ?vr1115) (by simp only [List.getElem?_toArray, List.getElem?_cons_succ, List.getElem?_cons_zero]; rfl) (by kernel_rfl) (by kernel_rfl) (by kernel_rfl) (fun _ _ _ h => h) (.inl ⟨by rfl, ?tr1115⟩) ?sr1115 ?_
            case tr1115 => (intro w' h; clear h; go_simp; try rfl)
            case sr1115 => exact H00.out
            (try simp only [Act.put, List.setIfInBounds_toArray, List.set_cons_zero, List.set_cons_succ])
            refine wpAnyH_take (i := 16) (v := ?vr1116) (by simp only [List.getElem?_toArray, List.getElem?_cons_succ, List.getElem?_cons_zero]; rfl) (by kernel_rfl) (by kernel_rfl) (by kernel_rfl) (fun _ _ _ h => h) (.inl ⟨by rfl, ?tr1116⟩) ?sr1116 ?_
            case tr1116 => (intro w' h; clear h; go_simp; try rfl)
            case sr1116 => exact H00.out
            (try simp only [Act.put, List.setIfInBounds_toArray, List.set_cons_zero, List.set_cons_succ])
            refine wpAnyH_take (i := 17) (v := ?vr1117) (by simp only [List.getElem?_toArray, List.getElem?_cons_succ, List.getElem?_cons_zero]; rfl) (by kernel_rfl) (by kernel_rfl) (by kernel_rfl) (fun _ _ _ h => h) (.inl ⟨by rfl, ?tr1117⟩) ?sr1117 ?_
            case tr1117 => (intro w' h; have FK := HBU.out w' h; clear h; go_split_ands; go_simp; try rfl)
            case sr1117 => exact H00.out
            (try simp only [Act.put, List.setIfInBounds_toArray, List.set_cons_zero, List.set_cons_succ])
            refine wpAnyH_two (i := 18) (k := 19) (by kernel_rfl) ?Ar11 ?Br11
            case Ar11 =>
              refine wpOp_call (by simp only [List.getElem?_toArray, List.getElem?_cons_succ, List.getElem?_cons_zero]; rfl) (by rfl) (by go_simp; first | exact ⟨rfl, rfl⟩ | rfl) ?_
              refine (HMU.out _).mono ?_
              rintro e wa ⟨rfl, hb⟩
              have Ha := Lib.hid (below_via hb H00.out)
              clear hb
              refine ⟨_, rfl, Ha.out, ?_⟩
              (try simp only [Act.put, List.setIfInBounds_toArray, List.set_cons_zero, List.set_cons_succ])
              have Hb := Lib.hid (show Below w6.heap.size w6 (wa.alloc (.cells #[.int .i64 0, .int .i64 0, .int .i64 0, .int .i64 0] 77)) from below_al Ha.out _)
              refine wpAnyH_one (i := 19) (by kernel_rfl) ?_
              refine wpOp_value (v := .pointer (some ⟨wa.heap.size, 0, none⟩)) (w' := wa.alloc (.cells #[.int .i64 0, .int .i64 0, .int .i64 0, .int .i64 0] 77)) (by simp only [List.getElem?_toArray, List.getElem?_cons_succ, List.getElem?_cons_zero]; rfl) (by rfl) ?mr11a7 Hb.out ?_
              case mr11a7 => (go_simp; try rfl)
              (try simp only [Act.put, List.setIfInBounds_toArray, List.set_cons_zero, List.set_cons_succ])
              have Hc := Lib.hid (show Below w6.heap.size w6 (wa.alloc (.cells #[.int .i64 u.x, .int .i64 u.y, .int .i64 u.w, .int .i64 u.h] 77)) from below_al Ha.out _)
              have hk := heap_alloc_new wa (.cells #[.int .i64 u.x, .int .i64 u.y, .int .i64 u.w, .int .i64 u.h] 77)
              have HK := Lib.hid hk
              clear hk
              refine wpAnyH_one (i := 20) (by kernel_rfl) ?_
              refine wpOp_skip (w' := wa.alloc (.cells #[.int .i64 u.x, .int .i64 u.y, .int .i64 u.w, .int .i64 u.h] 77)) (by simp only [List.getElem?_toArray, List.getElem?_cons_succ, List.getElem?_cons_zero]; rfl) (by rfl) ?mr11a8 Hc.out ?_
              case mr11a8 => (go_simp; try rfl)
              (try simp only [Act.put, List.setIfInBounds_toArray, List.set_cons_zero, List.set_cons_succ])
              refine wpAnyH_done (by kernel_rfl) (NoPanic.normal ?_) _
              go_wp2
              go_meet
              exact ⟨_, rfl, Hc, HK⟩
            case Br11 =>
              have Hb := Lib.hid (show Below w6.heap.size w6 (w6.drew.alloc (.cells #[.int .i64 0, .int .i64 0, .int .i64 0, .int .i64 0] 77)) from below_al H00.out _)
              refine wpOp_value (v := .pointer (some ⟨w6.heap.size, 0, none⟩)) (w' := w6.drew.alloc (.cells #[.int .i64 0, .int .i64 0, .int .i64 0, .int .i64 0] 77)) (by simp only [List.getElem?_toArray, List.getElem?_cons_succ, List.getElem?_cons_zero]; rfl) (by rfl) ?mr11b7 Hb.out ?_
              case mr11b7 => (go_simp; try rfl)
              (try simp only [Act.put, List.setIfInBounds_toArray, List.set_cons_zero, List.set_cons_succ])
              have HKb := Lib.hid (show (w6.drew.alloc (.cells #[.int .i64 0, .int .i64 0, .int .i64 0, .int .i64 0] 77)).heap[w6.heap.size]? = some (.cells #[.int .i64 0, .int .i64 0, .int .i64 0, .int .i64 0] 77 (0, 0)) from heap_alloc_new w6.drew (.cells #[.int .i64 0, .int .i64 0, .int .i64 0, .int .i64 0] 77))
              refine wpAnyH_one (i := 18) (by kernel_rfl) ?_
              refine wpOp_call (by simp only [List.getElem?_toArray, List.getElem?_cons_succ, List.getElem?_cons_zero]; rfl) (by rfl) (by go_simp; first | exact ⟨rfl, rfl⟩ | rfl) ?_
              refine (HMU.out _).mono ?_
              rintro e wa ⟨rfl, hb⟩
              have Ha := Lib.hid (below_via hb Hb.out)
              have HKa := Lib.hid ((hb.block _ (lt_of_block HKb.out)).trans HKb.out)
              clear hb
              refine ⟨_, rfl, Ha.out, ?_⟩
              (try simp only [Act.put, List.setIfInBounds_toArray, List.set_cons_zero, List.set_cons_succ])
              have b0 : wa.cell? ⟨w6.heap.size, 0, none⟩ = some (.int .i64 0) := by rw [cell_of_row _ _ _ _ _ _ HKa.out]; rfl
              have d0 : wa.frozen? ⟨w6.heap.size, 0, none⟩ = false := frozen_of_row _ _ _ _ _ HKa.out
              have b1 : wa.cell? ⟨w6.heap.size, 1, none⟩ = some (.int .i64 0) := by rw [cell_of_row _ _ _ _ _ _ HKa.out]; rfl
              have d1 : wa.frozen? ⟨w6.heap.size, 1, none⟩ = false := frozen_of_row _ _ _ _ _ HKa.out
              have b2 : wa.cell? ⟨w6.heap.size, 2, none⟩ = some (.int .i64 0) := by rw [cell_of_row _ _ _ _ _ _ HKa.out]; rfl
              have d2 : wa.frozen? ⟨w6.heap.size, 2, none⟩ = false := frozen_of_row _ _ _ _ _ HKa.out
              have b3 : wa.cell? ⟨w6.heap.size, 3, none⟩ = some (.int .i64 0) := by rw [cell_of_row _ _ _ _ _ _ HKa.out]; rfl
              have d3 : wa.frozen? ⟨w6.heap.size, 3, none⟩ = false := frozen_of_row _ _ _ _ _ HKa.out
              have hz : w6.heap.size < wa.heap.size := lt_of_block HKa.out
              have Hc := Lib.hid (show Below w6.heap.size w6 ((((wa.setCell ⟨w6.heap.size, 0, none⟩ (.int .i64 u.x)).setCell ⟨w6.heap.size, 1, none⟩ (.int .i64 u.y)).setCell ⟨w6.heap.size, 2, none⟩ (.int .i64 u.w)).setCell ⟨w6.heap.size, 3, none⟩ (.int .i64 u.h)) from ((((Ha.out.setCell (p := ⟨w6.heap.size, 0, none⟩) (Nat.le_refl _) _).setCell (p := ⟨w6.heap.size, 1, none⟩) (Nat.le_refl _) _).setCell (p := ⟨w6.heap.size, 2, none⟩) (Nat.le_refl _) _).setCell (p := ⟨w6.heap.size, 3, none⟩) (Nat.le_refl _) _))
              have HK := Lib.hid (show ((((wa.setCell ⟨w6.heap.size, 0, none⟩ (.int .i64 u.x)).setCell ⟨w6.heap.size, 1, none⟩ (.int .i64 u.y)).setCell ⟨w6.heap.size, 2, none⟩ (.int .i64 u.w)).setCell ⟨w6.heap.size, 3, none⟩ (.int .i64 u.h)).heap[w6.heap.size]? = some (.cells #[.int .i64 u.x, .int .i64 u.y, .int .i64 u.w, .int .i64 u.h] 77 (0, 0)) from four_sets HKa.out _ _ _ _)
              refine wpAnyH_one (i := 20) (by kernel_rfl) ?_
              refine wpOp_skip (w' := ((((wa.setCell ⟨w6.heap.size, 0, none⟩ (.int .i64 u.x)).setCell ⟨w6.heap.size, 1, none⟩ (.int .i64 u.y)).setCell ⟨w6.heap.size, 2, none⟩ (.int .i64 u.w)).setCell ⟨w6.heap.size, 3, none⟩ (.int .i64 u.h))) (by simp only [List.getElem?_toArray, List.getElem?_cons_succ, List.getElem?_cons_zero]; rfl) (by rfl) ?mr11b8 Hc.out ?_
              case mr11b8 => (go_simp; try rfl)
              (try simp only [Act.put, List.setIfInBounds_toArray, List.set_cons_zero, List.set_cons_succ])
              refine wpAnyH_done (by kernel_rfl) (NoPanic.normal ?_) _
              go_wp2
              go_meet
              exact ⟨_, rfl, Hc, HK⟩
          case rest =>
            obtain ⟨ku, rfl, HR11, HKU⟩ := hcut
            have HK9 := Lib.hid ((HR11.out.block _ (lt_of_block HK6.out)).trans HK6.out)
            have zf := lt_of_block HK9.out
            have zg := lt_of_block HKU.out
            have f0 : wc.cell? ⟨ka, 0, none⟩ = some (.int .i64 f.x) := by rw [cell_of_row _ _ _ _ _ _ HK9.out]; rfl
            have f1 : wc.cell? ⟨ka, 1, none⟩ = some (.int .i64 f.y) := by rw [cell_of_row _ _ _ _ _ _ HK9.out]; rfl
            have f2 : wc.cell? ⟨ka, 2, none⟩ = some (.int .i64 f.w) := by rw [cell_of_row _ _ _ _ _ _ HK9.out]; rfl
            have f3 : wc.cell? ⟨ka, 3, none⟩ = some (.int .i64 f.h) := by rw [cell_of_row _ _ _ _ _ _ HK9.out]; rfl
            have t0 : wc.cell? ⟨ku, 0, none⟩ = some (.int .i64 u.x) := by rw [cell_of_row _ _ _ _ _ _ HKU.out]; rfl
            have t1 : wc.cell? ⟨ku, 1, none⟩ = some (.int .i64 u.y) := by rw [cell_of_row _ _ _ _ _ _ HKU.out]; rfl
            have t2 : wc.cell? ⟨ku, 2, none⟩ = some (.int .i64 u.w) := by rw [cell_of_row _ _ _ _ _ _ HKU.out]; rfl
            have t3 : wc.cell? ⟨ku, 3, none⟩ = some (.int .i64 u.h) := by rw [cell_of_row _ _ _ _ _ _ HKU.out]; rfl
            go_wp2_with fail
            refine (law_lies_any f u key wc HIF.out HIU.out).mono ?_
            rw [HC3.out, ← HLS.out]
            rintro e w8 ⟨rfl, hb⟩
            have R3 := Lib.hid (below_via hb HR11.out)
            have HKU8 := Lib.hid ((hb.block _ (lt_of_block HKU.out)).trans HKU.out)
            clear hb f0 f1 f2 f3 t0 t1 t2 t3 zf zg HK9
            have zg := lt_of_block HKU8.out
            have t0 : w8.cell? ⟨ku, 0, none⟩ = some (.int .i64 u.x) := by rw [cell_of_row _ _ _ _ _ _ HKU8.out]; rfl
            have t1 : w8.cell? ⟨ku, 1, none⟩ = some (.int .i64 u.y) := by rw [cell_of_row _ _ _ _ _ _ HKU8.out]; rfl
            have t2 : w8.cell? ⟨ku, 2, none⟩ = some (.int .i64 u.w) := by rw [cell_of_row _ _ _ _ _ _ HKU8.out]; rfl
            have t3 : w8.cell? ⟨ku, 3, none⟩ = some (.int .i64 u.h) := by rw [cell_of_row _ _ _ _ _ _ HKU8.out]; rfl
            have htx := HIU.out.x
            have hty := HIU.out.y
            have htw := HIU.out.w
            have hth := HIU.out.h
            go_wp2_with fail
            refine (rect_Empty_any u.x u.y u.w u.h w8 (by omega) (by omega) (by omega) (by omega)).mono ?_
            rw [show okB u.x u.y u.w u.h = true from HC2.out]
            rintro e w9 ⟨rfl, hb⟩
            have BL := Lib.hid (below_via hb R3.out)
            clear hb t0 t1 t2 t3 zg htx hty htw hth
            go_wp2
            go_loopw [121] (fun iv wr => ∃ j : Nat, iv = .int .i64 j ∧ j ≤ L.length ∧ RowKit.Hid (Below w6.heap.size w6 wr)) (fun iv _ => L.length - (intOf iv).toNat)
            case atStart => exact ⟨0, rfl, by omega, BL⟩
            case round =>
              obtain ⟨j, rfl, hj, BR⟩ := hrel
              by_cases hlt : j < L.length
              · have hji : (j : Int) < (L.length : Int) := by omega
                obtain ⟨bv, ov, rfl, hbv, hvc⟩ := HVC.out (by omega)
                have cj0 := hvc j hlt
                have Hbv := Lib.hid hbv
                obtain ⟨q, hq, hqN⟩ := HFG.out j hlt
                rw [hq] at cj0
                have HCJ := Lib.hid cj0
                have hqn : q < nb := by have := HNB.out; omega
                have hqi : (q : Int) < (nb : Int) := by omega
                have HQJ := Lib.hid (HCA.out j hlt)
                rw [hq] at HQJ
                have DR := Lib.hid (below_via BR.out D7.out)
                obtain ⟨t, ht⟩ : ∃ t, t = seenR bx q := ⟨_, rfl⟩
                have HTR := Lib.hid ht
                have HIT := Lib.hid (show InP t by rw [ht]; exact selfR_in (clipR bx q))
                have HMT := Lib.hid (fun w' => show Calls Try.prog 31 _ w' (fun e w'' => e = .returned (.agg #[.int .i64 t.x, .int .i64 t.y, .int .i64 t.w, .int .i64 t.h]) ∧ Below w'.heap.size w' w'') from by have := HME.out w' q hqn; rw [← HTR.out] at this; exact this)
                have HBQ := Lib.hid (fun w' (h : Below wr.heap.size wr w') => show w'.cell? ⟨bv, ov + j, none⟩ = some (.int .i64 q) ∧ w'.cell? ⟨bb, ob + q * 18 + 12, none⟩ = some (.int .i64 (bx q 12)) ∧ w'.cell? ⟨bb, ob + q * 18 + 13, none⟩ = some (.int .i64 (bx q 13)) ∧ w'.cell? ⟨bb, ob + q * 18 + 14, none⟩ = some (.int .i64 (bx q 14)) ∧ w'.cell? ⟨bb, ob + q * 18 + 15, none⟩ = some (.int .i64 (bx q 15)) from by
                  have h6 := below_via h BR.out
                  refine ⟨by rw [(bcell h6).1 _ _ Hbv.out]; exact HCJ.out, (HBC.out w' (below_via h DR.out) q hqn).1⟩)
                clear hvc cj0 hq ht hbv
                go_upto_region 19 with (fail)
                go_cut [18] from 122 to 179 (fun s wx => ∃ k : Nat, s = .pointer (some ⟨k, 0, none⟩) ∧ RowKit.Hid (Below wr.heap.size wr wx) ∧ RowKit.Hid (wx.heap[k]? = some (.cells #[.int .i64 t.x, .int .i64 t.y, .int .i64 t.w, .int .i64 t.h] 77 (0, 0))))
                case first =>
                  have H00 := Lib.hid (Below.drew (Below.refl wr.heap.size wr))
                  refine wp_region_noPanic ?_
                  refine wp_region_held (S := fun w' => Below wr.heap.size wr w') (by kernel_rfl) ?_
                  change wpAnyH _ _ _ _ _ 19 (Array.replicate 19 false) _ _
                  refine wpAnyH_take (i := 0) (v := ?vr90) (by simp only [List.getElem?_toArray, List.getElem?_cons_succ, List.getElem?_cons_zero]; rfl) (by kernel_rfl) (by kernel_rfl) (by kernel_rfl) (fun _ _ _ h => h) (.inl ⟨by rfl, ?tr90⟩) ?sr90 ?_
                  case tr90 => (intro w' h; clear h; go_simp; try rfl)
                  case sr90 => exact H00.out
                  (try simp only [Act.put, List.setIfInBounds_toArray, List.set_cons_zero, List.set_cons_succ])
                  refine wpAnyH_take (i := 1) (v := ?vr91) (by simp only [List.getElem?_toArray, List.getElem?_cons_succ, List.getElem?_cons_zero]; rfl) (by kernel_rfl) (by kernel_rfl) (by kernel_rfl) (fun _ _ _ h => h) (.inl ⟨by rfl, ?tr91⟩) ?sr91 ?_
                  case tr91 => (intro w' h; clear h; go_simp; try rfl)
                  case sr91 => exact H00.out
                  (try simp only [Act.put, List.setIfInBounds_toArray, List.set_cons_zero, List.set_cons_succ])
                  refine wpAnyH_take (i := 2) (v := ?vr92) (by simp only [List.getElem?_toArray, List.getElem?_cons_succ, List.getElem?_cons_zero]; rfl) (by kernel_rfl) (by kernel_rfl) (by kernel_rfl) (fun _ _ _ h => h) (.inl ⟨by rfl, ?tr92⟩) ?sr92 ?_
                  case tr92 => (intro w' h; clear h; go_simp; try rfl)
                  case sr92 => exact H00.out
                  (try simp only [Act.put, List.setIfInBounds_toArray, List.set_cons_zero, List.set_cons_succ])
                  refine wpAnyH_take (i := 3) (v := ?vr93) (by simp only [List.getElem?_toArray, List.getElem?_cons_succ, List.getElem?_cons_zero]; rfl) (by kernel_rfl) (by kernel_rfl) (by kernel_rfl) (fun _ _ _ h => h) (.inl ⟨by rfl, ?tr93⟩) ?sr93 ?_
                  case tr93 => (intro w' h; clear h; go_simp; try rfl)
                  case sr93 => exact H00.out
                  (try simp only [Act.put, List.setIfInBounds_toArray, List.set_cons_zero, List.set_cons_succ])
                  refine wpAnyH_take (i := 4) (v := ?vr94) (by simp only [List.getElem?_toArray, List.getElem?_cons_succ, List.getElem?_cons_zero]; rfl) (by kernel_rfl) (by kernel_rfl) (by kernel_rfl) (fun _ _ _ h => h) (.inl ⟨by rfl, ?tr94⟩) ?sr94 ?_
                  case tr94 => (intro w' h; have FK := HBQ.out w' h; clear h; go_split_ands; go_simp; try rfl)
                  case sr94 => exact H00.out
                  (try simp only [Act.put, List.setIfInBounds_toArray, List.set_cons_zero, List.set_cons_succ])
                  refine wpAnyH_take (i := 5) (v := ?vr95) (by simp only [List.getElem?_toArray, List.getElem?_cons_succ, List.getElem?_cons_zero]; rfl) (by kernel_rfl) (by kernel_rfl) (by kernel_rfl) (fun _ _ _ h => h) (.inl ⟨by rfl, ?tr95⟩) ?sr95 ?_
                  case tr95 => (intro w' h; clear h; go_simp; try rfl)
                  case sr95 => exact H00.out
                  (try simp only [Act.put, List.setIfInBounds_toArray, List.set_cons_zero, List.set_cons_succ])
                  refine wpAnyH_take (i := 6) (v := ?vr96) (by simp only [List.getElem?_toArray, List.getElem?_cons_succ, List.getElem?_cons_zero]; rfl) (by kernel_rfl) (by kernel_rfl) (by kernel_rfl) (fun _ _ _ h => h) (.inl ⟨by rfl, ?tr96⟩) ?sr96 ?_
                  case tr96 => (intro w' h; clear h; go_simp; try rfl)
                  case sr96 => exact H00.out
                  (try simp only [Act.put, List.setIfInBounds_toArray, List.set_cons_zero, List.set_cons_succ])
                  refine wpAnyH_take (i := 7) (v := ?vr97) (by simp only [List.getElem?_toArray, List.getElem?_cons_succ, List.getElem?_cons_zero]; rfl) (by kernel_rfl) (by kernel_rfl) (by kernel_rfl) (fun _ _ _ h => h) (.inl ⟨by rfl, ?tr97⟩) ?sr97 ?_
                  case tr97 => (intro w' h; have FK := HBQ.out w' h; clear h; go_split_ands; go_simp; try rfl)
                  case sr97 => exact H00.out
                  (try simp only [Act.put, List.setIfInBounds_toArray, List.set_cons_zero, List.set_cons_succ])
                  refine wpAnyH_take (i := 8) (v := ?vr98) (by simp only [List.getElem?_toArray, List.getElem?_cons_succ, List.getElem?_cons_zero]; rfl) (by kernel_rfl) (by kernel_rfl) (by kernel_rfl) (fun _ _ _ h => h) (.inl ⟨by rfl, ?tr98⟩) ?sr98 ?_
                  case tr98 => (intro w' h; clear h; go_simp; try rfl)
                  case sr98 => exact H00.out
                  (try simp only [Act.put, List.setIfInBounds_toArray, List.set_cons_zero, List.set_cons_succ])
                  refine wpAnyH_take (i := 9) (v := ?vr99) (by simp only [List.getElem?_toArray, List.getElem?_cons_succ, List.getElem?_cons_zero]; rfl) (by kernel_rfl) (by kernel_rfl) (by kernel_rfl) (fun _ _ _ h => h) (.inl ⟨by rfl, ?tr99⟩) ?sr99 ?_
                  case tr99 => (intro w' h; clear h; go_simp; try rfl)
                  case sr99 => exact H00.out
                  (try simp only [Act.put, List.setIfInBounds_toArray, List.set_cons_zero, List.set_cons_succ])
                  refine wpAnyH_take (i := 10) (v := ?vr910) (by simp only [List.getElem?_toArray, List.getElem?_cons_succ, List.getElem?_cons_zero]; rfl) (by kernel_rfl) (by kernel_rfl) (by kernel_rfl) (fun _ _ _ h => h) (.inl ⟨by rfl, ?tr910⟩) ?sr910 ?_
                  case tr910 => (intro w' h; clear h; go_simp; try rfl)
                  case sr910 => exact H00.out
                  (try simp only [Act.put, List.setIfInBounds_toArray, List.set_cons_zero, List.set_cons_succ])
                  refine wpAnyH_take (i := 11) (v := ?vr911) (by simp only [List.getElem?_toArray, List.getElem?_cons_succ, List.getElem?_cons_zero]; rfl) (by kernel_rfl) (by kernel_rfl) (by kernel_rfl) (fun _ _ _ h => h) (.inl ⟨by rfl, ?tr911⟩) ?sr911 ?_
                  case tr911 => (intro w' h; clear h; go_simp; try rfl)
                  case sr911 => exact H00.out
                  (try simp only [Act.put, List.setIfInBounds_toArray, List.set_cons_zero, List.set_cons_succ])
                  refine wpAnyH_take (i := 12) (v := ?vr912) (by simp only [List.getElem?_toArray, List.getElem?_cons_succ, List.getElem?_cons_zero]; rfl) (by kernel_rfl) (by kernel_rfl) (by kernel_rfl) (fun _ _ _ h => h) (.inl ⟨by rfl, ?tr912⟩) ?sr912 ?_
                  case tr912 => (intro w' h; have FK := HBQ.out w' h; clear h; go_split_ands; go_simp; try rfl)
                  case sr912 => exact H00.out
                  (try simp only [Act.put, List.setIfInBounds_toArray, List.set_cons_zero, List.set_cons_succ])
                  refine wpAnyH_take (i := 13) (v := ?vr913) (by simp only [List.getElem?_toArray, List.getElem?_cons_succ, List.getElem?_cons_zero]; rfl) (by kernel_rfl) (by kernel_rfl) (by kernel_rfl) (fun _ _ _ h => h) (.inl ⟨by rfl, ?tr913⟩) ?sr913 ?_
                  case tr913 => (intro w' h; clear h; go_simp; try rfl)
                  case sr913 => exact H00.out
                  (try simp only [Act.put, List.setIfInBounds_toArray, List.set_cons_zero, List.set_cons_succ])
                  refine wpAnyH_take (i := 14) (v := ?vr914) (by simp only [List.getElem?_toArray, List.getElem?_cons_succ, List.getElem?_cons_zero]; rfl) (by kernel_rfl) (by kernel_rfl) (by kernel_rfl) (fun _ _ _ h => h) (.inl ⟨by rfl, ?tr914⟩) ?sr914 ?_
                  case tr914 => (intro w' h; clear h; go_simp; try rfl)
                  case sr914 => exact H00.out
                  (try simp only [Act.put, List.setIfInBounds_toArray, List.set_cons_zero, List.set_cons_succ])
                  refine wpAnyH_take (i := 15) (v := ?vr915) (by simp only [List.getElem?_toArray, List.getElem?_cons_succ, List.getElem?_cons_zero]; rfl) (by kernel_rfl) (by kernel_rfl) (by kernel_rfl) (fun _ _ _ h => h) (.inl ⟨by rfl, ?tr915⟩) ?sr915 ?_
                  case tr915 => (intro w' h; have FK := HBQ.out w' h; clear h; go_split_ands; go_simp; try rfl)
                  case sr915 => exact H00.out
                  (try simp only [Act.put, List.setIfInBounds_toArray, List.set_cons_zero, List.set_cons_succ])
                  refine wpAnyH_two (i := 16) (k := 17) (by kernel_rfl) ?Ar9 ?Br9
                  case Ar9 =>
                    refine wpOp_call (by simp only [List.getElem?_toArray, List.getElem?_cons_succ, List.getElem?_cons_zero]; rfl) (by rfl) (by go_simp; first | exact ⟨rfl, rfl⟩ | rfl) ?_
                    refine (HMT.out _).mono ?_
                    rintro e wa ⟨rfl, hb⟩
                    have Ha := Lib.hid (below_via hb H00.out)
                    clear hb
                    refine ⟨_, rfl, Ha.out, ?_⟩
                    (try simp only [Act.put, List.setIfInBounds_toArray, List.set_cons_zero, List.set_cons_succ])
                    have Hb := Lib.hid (show Below wr.heap.size wr (wa.alloc (.cells #[.int .i64 0, .int .i64 0, .int .i64 0, .int .i64 0] 77)) from below_al Ha.out _)
                    refine wpAnyH_one (i := 17) (by kernel_rfl) ?_
                    refine wpOp_value (v := .pointer (some ⟨wa.heap.size, 0, none⟩)) (w' := wa.alloc (.cells #[.int .i64 0, .int .i64 0, .int .i64 0, .int .i64 0] 77)) (by simp only [List.getElem?_toArray, List.getElem?_cons_succ, List.getElem?_cons_zero]; rfl) (by rfl) ?mr9a7 Hb.out ?_
                    case mr9a7 => (go_simp; try rfl)
                    (try simp only [Act.put, List.setIfInBounds_toArray, List.set_cons_zero, List.set_cons_succ])
                    have Hc := Lib.hid (show Below wr.heap.size wr (wa.alloc (.cells #[.int .i64 t.x, .int .i64 t.y, .int .i64 t.w, .int .i64 t.h] 77)) from below_al Ha.out _)
                    have hk := heap_alloc_new wa (.cells #[.int .i64 t.x, .int .i64 t.y, .int .i64 t.w, .int .i64 t.h] 77)
                    have HK := Lib.hid hk
                    clear hk
                    refine wpAnyH_one (i := 18) (by kernel_rfl) ?_
                    refine wpOp_skip (w' := wa.alloc (.cells #[.int .i64 t.x, .int .i64 t.y, .int .i64 t.w, .int .i64 t.h] 77)) (by simp only [List.getElem?_toArray, List.getElem?_cons_succ, List.getElem?_cons_zero]; rfl) (by rfl) ?mr9a8 Hc.out ?_
                    case mr9a8 => (go_simp; try rfl)
                    (try simp only [Act.put, List.setIfInBounds_toArray, List.set_cons_zero, List.set_cons_succ])
                    refine wpAnyH_done (by kernel_rfl) (NoPanic.normal ?_) _
                    go_wp2
                    go_meet
                    exact ⟨_, rfl, Hc, HK⟩
                  case Br9 =>
                    have Hb := Lib.hid (show Below wr.heap.size wr (wr.drew.alloc (.cells #[.int .i64 0, .int .i64 0, .int .i64 0, .int .i64 0] 77)) from below_al H00.out _)
                    refine wpOp_value (v := .pointer (some ⟨wr.heap.size, 0, none⟩)) (w' := wr.drew.alloc (.cells #[.int .i64 0, .int .i64 0, .int .i64 0, .int .i64 0] 77)) (by simp only [List.getElem?_toArray, List.getElem?_cons_succ, List.getElem?_cons_zero]; rfl) (by rfl) ?mr9b7 Hb.out ?_
                    case mr9b7 => (go_simp; try rfl)
                    (try simp only [Act.put, List.setIfInBounds_toArray, List.set_cons_zero, List.set_cons_succ])
                    have HKb := Lib.hid (show (wr.drew.alloc (.cells #[.int .i64 0, .int .i64 0, .int .i64 0, .int .i64 0] 77)).heap[wr.heap.size]? = some (.cells #[.int .i64 0, .int .i64 0, .int .i64 0, .int .i64 0] 77 (0, 0)) from heap_alloc_new wr.drew (.cells #[.int .i64 0, .int .i64 0, .int .i64 0, .int .i64 0] 77))
                    refine wpAnyH_one (i := 16) (by kernel_rfl) ?_
                    refine wpOp_call (by simp only [List.getElem?_toArray, List.getElem?_cons_succ, List.getElem?_cons_zero]; rfl) (by rfl) (by go_simp; first | exact ⟨rfl, rfl⟩ | rfl) ?_
                    refine (HMT.out _).mono ?_
                    rintro e wa ⟨rfl, hb⟩
                    have Ha := Lib.hid (below_via hb Hb.out)
                    have HKa := Lib.hid ((hb.block _ (lt_of_block HKb.out)).trans HKb.out)
                    clear hb
                    refine ⟨_, rfl, Ha.out, ?_⟩
                    (try simp only [Act.put, List.setIfInBounds_toArray, List.set_cons_zero, List.set_cons_succ])
                    have b0 : wa.cell? ⟨wr.heap.size, 0, none⟩ = some (.int .i64 0) := by rw [cell_of_row _ _ _ _ _ _ HKa.out]; rfl
                    have d0 : wa.frozen? ⟨wr.heap.size, 0, none⟩ = false := frozen_of_row _ _ _ _ _ HKa.out
                    have b1 : wa.cell? ⟨wr.heap.size, 1, none⟩ = some (.int .i64 0) := by rw [cell_of_row _ _ _ _ _ _ HKa.out]; rfl
                    have d1 : wa.frozen? ⟨wr.heap.size, 1, none⟩ = false := frozen_of_row _ _ _ _ _ HKa.out
                    have b2 : wa.cell? ⟨wr.heap.size, 2, none⟩ = some (.int .i64 0) := by rw [cell_of_row _ _ _ _ _ _ HKa.out]; rfl
                    have d2 : wa.frozen? ⟨wr.heap.size, 2, none⟩ = false := frozen_of_row _ _ _ _ _ HKa.out
                    have b3 : wa.cell? ⟨wr.heap.size, 3, none⟩ = some (.int .i64 0) := by rw [cell_of_row _ _ _ _ _ _ HKa.out]; rfl
                    have d3 : wa.frozen? ⟨wr.heap.size, 3, none⟩ = false := frozen_of_row _ _ _ _ _ HKa.out
                    have hz : wr.heap.size < wa.heap.size := lt_of_block HKa.out
                    have Hc := Lib.hid (show Below wr.heap.size wr ((((wa.setCell ⟨wr.heap.size, 0, none⟩ (.int .i64 t.x)).setCell ⟨wr.heap.size, 1, none⟩ (.int .i64 t.y)).setCell ⟨wr.heap.size, 2, none⟩ (.int .i64 t.w)).setCell ⟨wr.heap.size, 3, none⟩ (.int .i64 t.h)) from ((((Ha.out.setCell (p := ⟨wr.heap.size, 0, none⟩) (Nat.le_refl _) _).setCell (p := ⟨wr.heap.size, 1, none⟩) (Nat.le_refl _) _).setCell (p := ⟨wr.heap.size, 2, none⟩) (Nat.le_refl _) _).setCell (p := ⟨wr.heap.size, 3, none⟩) (Nat.le_refl _) _))
                    have HK := Lib.hid (show ((((wa.setCell ⟨wr.heap.size, 0, none⟩ (.int .i64 t.x)).setCell ⟨wr.heap.size, 1, none⟩ (.int .i64 t.y)).setCell ⟨wr.heap.size, 2, none⟩ (.int .i64 t.w)).setCell ⟨wr.heap.size, 3, none⟩ (.int .i64 t.h)).heap[wr.heap.size]? = some (.cells #[.int .i64 t.x, .int .i64 t.y, .int .i64 t.w, .int .i64 t.h] 77 (0, 0)) from four_sets HKa.out _ _ _ _)
                    refine wpAnyH_one (i := 18) (by kernel_rfl) ?_
                    refine wpOp_skip (w' := ((((wa.setCell ⟨wr.heap.size, 0, none⟩ (.int .i64 t.x)).setCell ⟨wr.heap.size, 1, none⟩ (.int .i64 t.y)).setCell ⟨wr.heap.size, 2, none⟩ (.int .i64 t.w)).setCell ⟨wr.heap.size, 3, none⟩ (.int .i64 t.h))) (by simp only [List.getElem?_toArray, List.getElem?_cons_succ, List.getElem?_cons_zero]; rfl) (by rfl) ?mr9b8 Hc.out ?_
                    case mr9b8 => (go_simp; try rfl)
                    (try simp only [Act.put, List.setIfInBounds_toArray, List.set_cons_zero, List.set_cons_succ])
                    refine wpAnyH_done (by kernel_rfl) (NoPanic.normal ?_) _
                    go_wp2
                    go_meet
                    exact ⟨_, rfl, Hc, HK⟩
                case rest =>
                  obtain ⟨kt, rfl, HR9, HKT⟩ := hcut
                  have R2 := Lib.hid (below_via HR9.out BR.out)
                  have HK9 := Lib.hid ((R2.out.block _ (lt_of_block HK6.out)).trans HK6.out)
                  have zf := lt_of_block HK9.out
                  have zg := lt_of_block HKT.out
                  have f0 : wc.cell? ⟨ka, 0, none⟩ = some (.int .i64 f.x) := by rw [cell_of_row _ _ _ _ _ _ HK9.out]; rfl
                  have f1 : wc.cell? ⟨ka, 1, none⟩ = some (.int .i64 f.y) := by rw [cell_of_row _ _ _ _ _ _ HK9.out]; rfl
                  have f2 : wc.cell? ⟨ka, 2, none⟩ = some (.int .i64 f.w) := by rw [cell_of_row _ _ _ _ _ _ HK9.out]; rfl
                  have f3 : wc.cell? ⟨ka, 3, none⟩ = some (.int .i64 f.h) := by rw [cell_of_row _ _ _ _ _ _ HK9.out]; rfl
                  have t0 : wc.cell? ⟨kt, 0, none⟩ = some (.int .i64 t.x) := by rw [cell_of_row _ _ _ _ _ _ HKT.out]; rfl
                  have t1 : wc.cell? ⟨kt, 1, none⟩ = some (.int .i64 t.y) := by rw [cell_of_row _ _ _ _ _ _ HKT.out]; rfl
                  have t2 : wc.cell? ⟨kt, 2, none⟩ = some (.int .i64 t.w) := by rw [cell_of_row _ _ _ _ _ _ HKT.out]; rfl
                  have t3 : wc.cell? ⟨kt, 3, none⟩ = some (.int .i64 t.h) := by rw [cell_of_row _ _ _ _ _ _ HKT.out]; rfl
                  go_wp2_with fail
                  refine (law_lies_any f t key wc HIF.out HIT.out).mono ?_
                  obtain ⟨Lb, hLb⟩ : ∃ x, x = liesB f t key := ⟨_, rfl⟩
                  obtain ⟨Fb, hFb⟩ : ∃ x, x = farB f t key := ⟨_, rfl⟩
                  rw [← hLb, ← hFb]
                  have HLB := Lib.hid hLb
                  have HFB := Lib.hid hFb
                  rintro e w8 ⟨rfl, hb⟩
                  have R3 := Lib.hid (below_via hb R2.out)
                  have HKT8 := Lib.hid ((hb.block _ (lt_of_block HKT.out)).trans HKT.out)
                  clear hb hLb hFb f0 f1 f2 f3 t0 t1 t2 t3 zf zg
                  have cj : w8.cell? ⟨bv, ov + j, none⟩ = some (.int .i64 q) := by rw [(bcell R3.out).1 _ _ Hbv.out]; exact HCJ.out
                  have zg := lt_of_block HKT8.out
                  have hbvw : bv < w8.heap.size := by have := R3.out.size; have := Hbv.out; omega
                  have t0 : w8.cell? ⟨kt, 0, none⟩ = some (.int .i64 t.x) := by rw [cell_of_row _ _ _ _ _ _ HKT8.out]; rfl
                  have t1 : w8.cell? ⟨kt, 1, none⟩ = some (.int .i64 t.y) := by rw [cell_of_row _ _ _ _ _ _ HKT8.out]; rfl
                  have t2 : w8.cell? ⟨kt, 2, none⟩ = some (.int .i64 t.w) := by rw [cell_of_row _ _ _ _ _ _ HKT8.out]; rfl
                  have t3 : w8.cell? ⟨kt, 3, none⟩ = some (.int .i64 t.h) := by rw [cell_of_row _ _ _ _ _ _ HKT8.out]; rfl
                  by_cases hqa : (q : Int) = (n0 : Int)
                  · have k6 : ((q : Int) == (n0 : Int)) = true := by rw [beq_iff_eq]; exact hqa
                    clear hqa
                    go_wp2
                    go_roundw
                    case rel => exact ⟨j + 1, by go_num, by omega, R3⟩
                    case measure => simp [intOf]; omega
                  · have k6 : ((q : Int) == (n0 : Int)) = false := beq_eq_false_iff_ne.2 hqa
                    cases hl : Lb with
                    | false =>
                      clear hl hqa
                      go_wp2
                      go_roundw
                      case rel => exact ⟨j + 1, by go_num, by omega, R3⟩
                      case measure => simp [intOf]; omega
                    | true =>
                      have htx := HIT.out.x
                      have hty := HIT.out.y
                      have htw := HIT.out.w
                      have hth := HIT.out.h
                      have HL1 := Lib.hid hl
                      have HQA := Lib.hid hqa
                      clear hl hqa
                      go_wp2_with fail
                      refine (rect_Empty_any t.x t.y t.w t.h w8 (by omega) (by omega) (by omega) (by omega)).mono ?_
                      rintro e w9 ⟨rfl, hb⟩
                      have R4 := Lib.hid (below_via hb R3.out)
                      clear hb
                      cases hok : okB t.x t.y t.w t.h with
                      | false =>
                        clear hok
                        go_wp2
                        go_roundw
                        case rel => exact ⟨j + 1, by go_num, by omega, R4⟩
                        case measure => simp [intOf]; omega
                      | true =>
                        obtain ⟨hn1, hn2, hn3⟩ := HQJ.out ⟨HQA.out, by rw [Int.toNat_natCast, ← HTR.out]; exact hok, by rw [Int.toNat_natCast, ← HTR.out, ← HLB.out]; exact HL1.out⟩
                        have hfe : farN bx f key q = Fb := by rw [HFB.out]; unfold farN; rw [Int.toNat_natCast, ← HTR.out]; exact (far_lies (by rw [← HLB.out]; exact HL1.out)).symm
                        rw [hfe] at hn2 hn3
                        have k7 : ((q0 : Int) == -1) = false := beq_eq_false_iff_ne.2 hn1
                        clear hok hfe hn1
                        by_cases hfl : Fb = lst
                        · have hkj := hn3 hfl
                          have k8 : (Fb == lst) = true := by rw [beq_iff_eq]; exact hfl
                          clear hn3 hfl
                          go_wp2
                          go_roundw
                          case rel => exact ⟨j + 1, by go_num, by omega, R4⟩
                          case measure => simp [intOf]; omega
                        · have k8 : (Fb == lst) = false := beq_eq_false_iff_ne.2 hfl
                          clear hn3 hfl
                          go_wp2
                          go_roundw
                          case rel => exact ⟨j + 1, by go_num, by omega, R4⟩
                          case measure => simp [intOf]; omega
              · have hge : ¬ (j : Int) < (L.length : Int) := by omega
                have HE := Lib.hid (below_via (below_via BR.out D7.out) C1.out)
                go_wp2
                go_ret
                exact ⟨rfl, HE.out⟩

theorem FocusNearest_walk (p pb : Option Addr) (c cb nb : Nat) (T : List Nd) (bx : Nat → Nat → Int) (i key : Int) (w : World) (hT : TreeAt w (.slice p T.length c) T) (hB : BoxAt w pb nb bx) (hl : nb ≤ 9223372036854775807) (hC : ClipOk nb bx) : Calls Try.prog 8 #[.agg #[.slice p T.length c], .slice pb nb cb, .int .i64 i, .int .i32 key] w fun e w' => e = .returned (.bool true) ∧ Below w.heap.size w w' := by
  by_cases h : nearR T nb bx i key = -1
  · exact FocusNearest_walk_no p pb c cb nb T bx i key w hT hB hl hC h
  · exact FocusNearest_walk_an p pb c cb nb T bx i key w hT hB hl hC h
end Go.Proofs.Ytihjefncjkdnpaa
