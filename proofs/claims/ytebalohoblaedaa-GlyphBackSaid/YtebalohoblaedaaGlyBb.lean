/- Layer 13: the walk of GlyphBack: its great region. -/
import Derived.Test.YtebalohoblaedaaGlyBa
namespace Go.Proofs.Ytebalohoblaedaa
open Go.RowKit
set_option linter.unusedVariables false
set_option linter.unusedSimpArgs false
set_option maxRecDepth 100000 in
set_option maxHeartbeats 32000000 in
theorem GlyphBack_B (r a0 a1 a2 a3 b0 b1 b2 b3 : Int) (w : World) : (GlyphBack_A r a0 a1 a2 a3 b0 b1 b2 b3 w).1 := by
  unfold GlyphBack_A
  set_option tactic.hygienic false in intro
  set_option tactic.hygienic false in intros
  have S9w := B9.size
  have HF := Lib.hid (show ∀ w', Below w9.heap.size w9 w' → (w.heap.size < w'.heap.size ∧ w.heap.size + 1 < w'.heap.size ∧ Cb < w'.heap.size ∧ P < w'.heap.size ∧ Q < w'.heap.size ∧ Mb < w'.heap.size ∧ w'.cell? ⟨w.heap.size, 0, none⟩ = some (.int .i8 a0) ∧ w'.cell? ⟨w.heap.size, 1, none⟩ = some (.int .i8 a1) ∧ w'.cell? ⟨w.heap.size, 2, none⟩ = some (.int .i8 a2) ∧ w'.cell? ⟨w.heap.size, 3, none⟩ = some (.int .i8 a3) ∧ w'.cell? ⟨w.heap.size + 1, 0, none⟩ = some (.int .i8 b0) ∧ w'.cell? ⟨w.heap.size + 1, 1, none⟩ = some (.int .i8 b1) ∧ w'.cell? ⟨w.heap.size + 1, 2, none⟩ = some (.int .i8 b2) ∧ w'.cell? ⟨w.heap.size + 1, 3, none⟩ = some (.int .i8 b3) ∧ w'.cell? ⟨Cb, 0, none⟩ = some (.int .i8 c0) ∧ w'.cell? ⟨Cb, 1, none⟩ = some (.int .i8 c1) ∧ w'.cell? ⟨Cb, 2, none⟩ = some (.int .i8 c2) ∧ w'.cell? ⟨Cb, 3, none⟩ = some (.int .i8 c3) ∧ w'.cell? ⟨P, 0, none⟩ = some (.int .i8 a0) ∧ w'.cell? ⟨P, 1, none⟩ = some (.int .i8 a1) ∧ w'.cell? ⟨P, 2, none⟩ = some (.int .i8 a2) ∧ w'.cell? ⟨P, 3, none⟩ = some (.int .i8 a3) ∧ w'.cell? ⟨Q, 0, none⟩ = some (.int .i8 b0) ∧ w'.cell? ⟨Q, 1, none⟩ = some (.int .i8 b1) ∧ w'.cell? ⟨Q, 2, none⟩ = some (.int .i8 b2) ∧ w'.cell? ⟨Q, 3, none⟩ = some (.int .i8 b3) ∧ w'.cell? ⟨Mb, 0, none⟩ = some (.int .i8 m0) ∧ w'.cell? ⟨Mb, 1, none⟩ = some (.int .i8 m1) ∧ w'.cell? ⟨Mb, 2, none⟩ = some (.int .i8 m2) ∧ w'.cell? ⟨Mb, 3, none⟩ = some (.int .i8 m3)) from fun w' h => by
    have S := h.size
    go_split_ands
    (repeat' apply And.intro) <;> (first | omega | (rw [(bcell h).1 _ _ (by assumption)]; assumption)))
  have H00 := Lib.hid (Below.drew (Below.refl w9.heap.size w9))
  clear F9M S9w
  refine wp_region_noPanic ?_
  refine wp_region_held (S := fun w' => Below w9.heap.size w9 w') (by kernel_rfl) ?_
  change wpAnyH _ _ _ _ _ 44 (Array.replicate 44 false) _ _
  refine wpAnyH_take (i := 0) (v := ?vt1_0) (by simp only [List.getElem?_toArray, List.getElem?_cons_succ, List.getElem?_cons_zero]; rfl) (by kernel_rfl) (by kernel_rfl) (by kernel_rfl) (fun _ _ _ h => h) (.inl ⟨by rfl, ?tt1_0⟩) ?st1_0 ?_
  case tt1_0 => (intro w' h; have FK := HF.out w' h; clear h; go_split_ands; go_simp; try rfl)
  case st1_0 => exact H00.out
  (try simp only [Act.put, List.setIfInBounds_toArray, List.set_cons_zero, List.set_cons_succ])
  refine wpAnyH_take (i := 1) (v := ?vt2_1) (by simp only [List.getElem?_toArray, List.getElem?_cons_succ, List.getElem?_cons_zero]; rfl) (by kernel_rfl) (by kernel_rfl) (by kernel_rfl) (fun _ _ _ h => h) (.inl ⟨by rfl, ?tt2_1⟩) ?st2_1 ?_
  case tt2_1 => (intro w' h; have FK := HF.out w' h; clear h; go_split_ands; go_simp; try rfl)
  case st2_1 => exact H00.out
  (try simp only [Act.put, List.setIfInBounds_toArray, List.set_cons_zero, List.set_cons_succ])
  refine wpAnyH_take (i := 2) (v := ?vt3_2) (by simp only [List.getElem?_toArray, List.getElem?_cons_succ, List.getElem?_cons_zero]; rfl) (by kernel_rfl) (by kernel_rfl) (by kernel_rfl) (fun _ _ _ h => h) (.inl ⟨by rfl, ?tt3_2⟩) ?st3_2 ?_
  case tt3_2 => (intro w' h; have FK := HF.out w' h; clear h; go_split_ands; go_simp; try rfl)
  case st3_2 => exact H00.out
  (try simp only [Act.put, List.setIfInBounds_toArray, List.set_cons_zero, List.set_cons_succ])
  have Hb4 := Lib.hid (show Below w9.heap.size w9 (w9.drew.alloc (.cells #[.int .i8 b0, .int .i8 b1, .int .i8 b2, .int .i8 b3, .int .i8 a0, .int .i8 a1, .int .i8 a2, .int .i8 a3] 25)) from below_al H00.out _)
  have Hk4 := Lib.hid (heap_alloc_new w9.drew (.cells #[.int .i8 b0, .int .i8 b1, .int .i8 b2, .int .i8 b3, .int .i8 a0, .int .i8 a1, .int .i8 a2, .int .i8 a3] 25))
  refine wpAnyH_one (i := 3) (by kernel_rfl) ?_
  refine wpOp_value (v := .slice (some ⟨w9.drew.heap.size, 0, none⟩) 2 2) (w' := w9.drew.alloc (.cells #[.int .i8 b0, .int .i8 b1, .int .i8 b2, .int .i8 b3, .int .i8 a0, .int .i8 a1, .int .i8 a2, .int .i8 a3] 25)) (by simp only [List.getElem?_toArray, List.getElem?_cons_succ, List.getElem?_cons_zero]; rfl) (by rfl) ?mv4 Hb4.out ?_
  case mv4 => (go_simp; try rfl)
  (try simp only [Act.put, List.setIfInBounds_toArray, List.set_cons_zero, List.set_cons_succ])
  obtain ⟨wx4, hwx⟩ : ∃ x, x = w9.drew.alloc (.cells #[.int .i8 b0, .int .i8 b1, .int .i8 b2, .int .i8 b3, .int .i8 a0, .int .i8 a1, .int .i8 a2, .int .i8 a3] 25) := ⟨_, rfl⟩
  obtain ⟨bx4, hbx⟩ : ∃ x, x = w9.drew.heap.size := ⟨_, rfl⟩
  rw [← hwx] at Hb4 Hk4 ⊢
  rw [← hbx] at Hk4 ⊢
  clear hwx hbx
  refine wpAnyH_one (i := 4) (by kernel_rfl) ?_
  refine wpOp_call (by simp only [List.getElem?_toArray, List.getElem?_cons_succ, List.getElem?_cons_zero]; rfl) (by rfl) (by go_simp; first | exact ⟨rfl, rfl⟩ | rfl) ?_
  refine (mgB2 b0 b1 b2 b3 a0 a1 a2 a3 _ _ _ _ _ _ H1.out Hk4.out).mono ?_
  rintro e wy5 ⟨rfl, hb⟩
  have Hc5 := Lib.hid (below_via hb Hb4.out)
  clear hb
  refine ⟨_, rfl, Hc5.out, ?_⟩
  (try simp only [Act.put, List.setIfInBounds_toArray, List.set_cons_zero, List.set_cons_succ])
  refine wpAnyH_take (i := 5) (v := ?vt6_5) (by simp only [List.getElem?_toArray, List.getElem?_cons_succ, List.getElem?_cons_zero]; rfl) (by kernel_rfl) (by kernel_rfl) (by kernel_rfl) (fun _ _ _ h => h) (.inl ⟨by rfl, ?tt6_5⟩) ?st6_5 ?_
  case tt6_5 => (intro w' h; clear h; go_simp; try rfl)
  case st6_5 => exact Hc5.out
  (try simp only [Act.put, List.setIfInBounds_toArray, List.set_cons_zero, List.set_cons_succ])
  refine wpAnyH_take (i := 6) (v := ?vt7_6) (by simp only [List.getElem?_toArray, List.getElem?_cons_succ, List.getElem?_cons_zero]; rfl) (by kernel_rfl) (by kernel_rfl) (by kernel_rfl) (fun _ _ _ h => h) (.inl ⟨by rfl, ?tt7_6⟩) ?st7_6 ?_
  case tt7_6 => (intro w' h; clear h; go_simp; try rfl)
  case st7_6 => exact Hc5.out
  (try simp only [Act.put, List.setIfInBounds_toArray, List.set_cons_zero, List.set_cons_succ])
  refine wpAnyH_take (i := 7) (v := ?vt8_7) (by simp only [List.getElem?_toArray, List.getElem?_cons_succ, List.getElem?_cons_zero]; rfl) (by kernel_rfl) (by kernel_rfl) (by kernel_rfl) (fun _ _ _ h => h) (.inl ⟨by rfl, ?tt8_7⟩) ?st8_7 ?_
  case tt8_7 => (intro w' h; have FK := HF.out w' h; clear h; go_split_ands; go_simp; try rfl)
  case st8_7 => exact Hc5.out
  (try simp only [Act.put, List.setIfInBounds_toArray, List.set_cons_zero, List.set_cons_succ])
  refine wpAnyH_take (i := 8) (v := ?vt9_8) (by simp only [List.getElem?_toArray, List.getElem?_cons_succ, List.getElem?_cons_zero]; rfl) (by kernel_rfl) (by kernel_rfl) (by kernel_rfl) (fun _ _ _ h => h) (.inl ⟨by rfl, ?tt9_8⟩) ?st9_8 ?_
  case tt9_8 => (intro w' h; have FK := HF.out w' h; clear h; go_split_ands; go_simp; try rfl)
  case st9_8 => exact Hc5.out
  (try simp only [Act.put, List.setIfInBounds_toArray, List.set_cons_zero, List.set_cons_succ])
  refine wpAnyH_take (i := 9) (v := ?vt10_9) (by simp only [List.getElem?_toArray, List.getElem?_cons_succ, List.getElem?_cons_zero]; rfl) (by kernel_rfl) (by kernel_rfl) (by kernel_rfl) (fun _ _ _ h => h) (.inl ⟨by rfl, ?tt10_9⟩) ?st10_9 ?_
  case tt10_9 => (intro w' h; have FK := HF.out w' h; clear h; go_split_ands; go_simp; try rfl)
  case st10_9 => exact Hc5.out
  (try simp only [Act.put, List.setIfInBounds_toArray, List.set_cons_zero, List.set_cons_succ])
  refine wpAnyH_take (i := 10) (v := ?vt11_10) (by simp only [List.getElem?_toArray, List.getElem?_cons_succ, List.getElem?_cons_zero]; rfl) (by kernel_rfl) (by kernel_rfl) (by kernel_rfl) (fun _ _ _ h => h) (.inl ⟨by rfl, ?tt11_10⟩) ?st11_10 ?_
  case tt11_10 => (intro w' h; have FK := HF.out w' h; clear h; go_split_ands; go_simp; try rfl)
  case st11_10 => exact Hc5.out
  (try simp only [Act.put, List.setIfInBounds_toArray, List.set_cons_zero, List.set_cons_succ])
  have Hb12 := Lib.hid (show Below w9.heap.size w9 (wy5.alloc (.cells #[.int .i8 a0, .int .i8 a1, .int .i8 a2, .int .i8 a3, .int .i8 b0, .int .i8 b1, .int .i8 b2, .int .i8 b3, .int .i8 a0, .int .i8 a1, .int .i8 a2, .int .i8 a3] 25)) from below_al Hc5.out _)
  have Hk12 := Lib.hid (heap_alloc_new wy5 (.cells #[.int .i8 a0, .int .i8 a1, .int .i8 a2, .int .i8 a3, .int .i8 b0, .int .i8 b1, .int .i8 b2, .int .i8 b3, .int .i8 a0, .int .i8 a1, .int .i8 a2, .int .i8 a3] 25))
  refine wpAnyH_one (i := 11) (by kernel_rfl) ?_
  refine wpOp_value (v := .slice (some ⟨wy5.heap.size, 0, none⟩) 3 3) (w' := wy5.alloc (.cells #[.int .i8 a0, .int .i8 a1, .int .i8 a2, .int .i8 a3, .int .i8 b0, .int .i8 b1, .int .i8 b2, .int .i8 b3, .int .i8 a0, .int .i8 a1, .int .i8 a2, .int .i8 a3] 25)) (by simp only [List.getElem?_toArray, List.getElem?_cons_succ, List.getElem?_cons_zero]; rfl) (by rfl) ?mv12 Hb12.out ?_
  case mv12 => (go_simp; try rfl)
  (try simp only [Act.put, List.setIfInBounds_toArray, List.set_cons_zero, List.set_cons_succ])
  obtain ⟨wx12, hwx⟩ : ∃ x, x = wy5.alloc (.cells #[.int .i8 a0, .int .i8 a1, .int .i8 a2, .int .i8 a3, .int .i8 b0, .int .i8 b1, .int .i8 b2, .int .i8 b3, .int .i8 a0, .int .i8 a1, .int .i8 a2, .int .i8 a3] 25) := ⟨_, rfl⟩
  obtain ⟨bx12, hbx⟩ : ∃ x, x = wy5.heap.size := ⟨_, rfl⟩
  rw [← hwx] at Hb12 Hk12 ⊢
  rw [← hbx] at Hk12 ⊢
  clear hwx hbx
  refine wpAnyH_one (i := 12) (by kernel_rfl) ?_
  refine wpOp_call (by simp only [List.getElem?_toArray, List.getElem?_cons_succ, List.getElem?_cons_zero]; rfl) (by rfl) (by go_simp; first | exact ⟨rfl, rfl⟩ | rfl) ?_
  refine (mgB3 a0 a1 a2 a3 b0 b1 b2 b3 a0 a1 a2 a3 _ _ _ _ _ _ H2.out Hk12.out).mono ?_
  rintro e wy13 ⟨rfl, hb⟩
  have Hc13 := Lib.hid (below_via hb Hb12.out)
  clear hb
  refine ⟨_, rfl, Hc13.out, ?_⟩
  (try simp only [Act.put, List.setIfInBounds_toArray, List.set_cons_zero, List.set_cons_succ])
  refine wpAnyH_take (i := 13) (v := ?vt14_13) (by simp only [List.getElem?_toArray, List.getElem?_cons_succ, List.getElem?_cons_zero]; rfl) (by kernel_rfl) (by kernel_rfl) (by kernel_rfl) (fun _ _ _ h => h) (.inl ⟨by rfl, ?tt14_13⟩) ?st14_13 ?_
  case tt14_13 => (intro w' h; clear h; go_simp; try rfl)
  case st14_13 => exact Hc13.out
  (try simp only [Act.put, List.setIfInBounds_toArray, List.set_cons_zero, List.set_cons_succ])
  refine wpAnyH_take (i := 14) (v := ?vt15_14) (by simp only [List.getElem?_toArray, List.getElem?_cons_succ, List.getElem?_cons_zero]; rfl) (by kernel_rfl) (by kernel_rfl) (by kernel_rfl) (fun _ _ _ h => h) (.inl ⟨by rfl, ?tt15_14⟩) ?st15_14 ?_
  case tt15_14 => (intro w' h; clear h; go_simp; try rfl)
  case st15_14 => exact Hc13.out
  (try simp only [Act.put, List.setIfInBounds_toArray, List.set_cons_zero, List.set_cons_succ])
  refine wpAnyH_take (i := 15) (v := ?vt16_15) (by simp only [List.getElem?_toArray, List.getElem?_cons_succ, List.getElem?_cons_zero]; rfl) (by kernel_rfl) (by kernel_rfl) (by kernel_rfl) (fun _ _ _ h => h) (.inl ⟨by rfl, ?tt16_15⟩) ?st16_15 ?_
  case tt16_15 => (intro w' h; clear h; go_simp; try rfl)
  case st16_15 => exact Hc13.out
  (try simp only [Act.put, List.setIfInBounds_toArray, List.set_cons_zero, List.set_cons_succ])
  refine wpAnyH_take (i := 16) (v := ?vt17_16) (by simp only [List.getElem?_toArray, List.getElem?_cons_succ, List.getElem?_cons_zero]; rfl) (by kernel_rfl) (by kernel_rfl) (by kernel_rfl) (fun _ _ _ h => h) (.inl ⟨by rfl, ?tt17_16⟩) ?st17_16 ?_
  case tt17_16 => (intro w' h; have FK := HF.out w' h; clear h; go_split_ands; go_simp; try rfl)
  case st17_16 => exact Hc13.out
  (try simp only [Act.put, List.setIfInBounds_toArray, List.set_cons_zero, List.set_cons_succ])
  refine wpAnyH_take (i := 17) (v := ?vt18_17) (by simp only [List.getElem?_toArray, List.getElem?_cons_succ, List.getElem?_cons_zero]; rfl) (by kernel_rfl) (by kernel_rfl) (by kernel_rfl) (fun _ _ _ h => h) (.inl ⟨by rfl, ?tt18_17⟩) ?st18_17 ?_
  case tt18_17 => (intro w' h; have FK := HF.out w' h; clear h; go_split_ands; go_simp; try rfl)
  case st18_17 => exact Hc13.out
  (try simp only [Act.put, List.setIfInBounds_toArray, List.set_cons_zero, List.set_cons_succ])
  refine wpAnyH_take (i := 20) (v := ?vt19_20) (by simp only [List.getElem?_toArray, List.getElem?_cons_succ, List.getElem?_cons_zero]; rfl) (by kernel_rfl) (by kernel_rfl) (by kernel_rfl) (fun _ _ _ h => h) (.inl ⟨by rfl, ?tt19_20⟩) ?st19_20 ?_
  case tt19_20 => (intro w' h; have FK := HF.out w' h; clear h; go_split_ands; go_simp; try rfl)
  case st19_20 => exact Hc13.out
  (try simp only [Act.put, List.setIfInBounds_toArray, List.set_cons_zero, List.set_cons_succ])
  have Hb20 := Lib.hid (show Below w9.heap.size w9 (wy13.alloc (.cells #[.int .i8 a0, .int .i8 a1, .int .i8 a2, .int .i8 a3] 25)) from below_al Hc13.out _)
  have Hk20 := Lib.hid (heap_alloc_new wy13 (.cells #[.int .i8 a0, .int .i8 a1, .int .i8 a2, .int .i8 a3] 25))
  refine wpAnyH_one (i := 18) (by kernel_rfl) ?_
  refine wpOp_value (v := .slice (some ⟨wy13.heap.size, 0, none⟩) 1 1) (w' := wy13.alloc (.cells #[.int .i8 a0, .int .i8 a1, .int .i8 a2, .int .i8 a3] 25)) (by simp only [List.getElem?_toArray, List.getElem?_cons_succ, List.getElem?_cons_zero]; rfl) (by rfl) ?mv20 Hb20.out ?_
  case mv20 => (go_simp; try rfl)
  (try simp only [Act.put, List.setIfInBounds_toArray, List.set_cons_zero, List.set_cons_succ])
  obtain ⟨wx20, hwx⟩ : ∃ x, x = wy13.alloc (.cells #[.int .i8 a0, .int .i8 a1, .int .i8 a2, .int .i8 a3] 25) := ⟨_, rfl⟩
  obtain ⟨bx20, hbx⟩ : ∃ x, x = wy13.heap.size := ⟨_, rfl⟩
  rw [← hwx] at Hb20 Hk20 ⊢
  rw [← hbx] at Hk20 ⊢
  clear hwx hbx
  refine wpAnyH_one (i := 19) (by kernel_rfl) ?_
  refine wpOp_call (by simp only [List.getElem?_toArray, List.getElem?_cons_succ, List.getElem?_cons_zero]; rfl) (by rfl) (by go_simp; first | exact ⟨rfl, rfl⟩ | rfl) ?_
  refine (mgB1 a0 a1 a2 a3 _ _ _ _ _ _ HS.out Hk20.out).mono ?_
  rintro e wy21 ⟨rfl, hb⟩
  have Hc21 := Lib.hid (below_via hb Hb20.out)
  clear hb
  refine ⟨_, rfl, Hc21.out, ?_⟩
  (try simp only [Act.put, List.setIfInBounds_toArray, List.set_cons_zero, List.set_cons_succ])
  have Hb22 := Lib.hid (show Below w9.heap.size w9 (wy21.alloc (.cells #[.int .i8 s0, .int .i8 s1, .int .i8 s2, .int .i8 s3, .int .i8 b0, .int .i8 b1, .int .i8 b2, .int .i8 b3] 25)) from below_al Hc21.out _)
  have Hk22 := Lib.hid (heap_alloc_new wy21 (.cells #[.int .i8 s0, .int .i8 s1, .int .i8 s2, .int .i8 s3, .int .i8 b0, .int .i8 b1, .int .i8 b2, .int .i8 b3] 25))
  refine wpAnyH_one (i := 21) (by kernel_rfl) ?_
  refine wpOp_value (v := .slice (some ⟨wy21.heap.size, 0, none⟩) 2 2) (w' := wy21.alloc (.cells #[.int .i8 s0, .int .i8 s1, .int .i8 s2, .int .i8 s3, .int .i8 b0, .int .i8 b1, .int .i8 b2, .int .i8 b3] 25)) (by simp only [List.getElem?_toArray, List.getElem?_cons_succ, List.getElem?_cons_zero]; rfl) (by rfl) ?mv22 Hb22.out ?_
  case mv22 => (go_simp; try rfl)
  (try simp only [Act.put, List.setIfInBounds_toArray, List.set_cons_zero, List.set_cons_succ])
  obtain ⟨wx22, hwx⟩ : ∃ x, x = wy21.alloc (.cells #[.int .i8 s0, .int .i8 s1, .int .i8 s2, .int .i8 s3, .int .i8 b0, .int .i8 b1, .int .i8 b2, .int .i8 b3] 25) := ⟨_, rfl⟩
  obtain ⟨bx22, hbx⟩ : ∃ x, x = wy21.heap.size := ⟨_, rfl⟩
  rw [← hwx] at Hb22 Hk22 ⊢
  rw [← hbx] at Hk22 ⊢
  clear hwx hbx
  refine wpAnyH_one (i := 22) (by kernel_rfl) ?_
  refine wpOp_call (by simp only [List.getElem?_toArray, List.getElem?_cons_succ, List.getElem?_cons_zero]; rfl) (by rfl) (by go_simp; first | exact ⟨rfl, rfl⟩ | rfl) ?_
  refine (mgB2 s0 s1 s2 s3 b0 b1 b2 b3 _ _ _ _ _ _ H3.out Hk22.out).mono ?_
  rintro e wy23 ⟨rfl, hb⟩
  have Hc23 := Lib.hid (below_via hb Hb22.out)
  clear hb
  refine ⟨_, rfl, Hc23.out, ?_⟩
  (try simp only [Act.put, List.setIfInBounds_toArray, List.set_cons_zero, List.set_cons_succ])
  refine wpAnyH_take (i := 23) (v := ?vt24_23) (by simp only [List.getElem?_toArray, List.getElem?_cons_succ, List.getElem?_cons_zero]; rfl) (by kernel_rfl) (by kernel_rfl) (by kernel_rfl) (fun _ _ _ h => h) (.inl ⟨by rfl, ?tt24_23⟩) ?st24_23 ?_
  case tt24_23 => (intro w' h; clear h; go_simp; try rfl)
  case st24_23 => exact Hc23.out
  (try simp only [Act.put, List.setIfInBounds_toArray, List.set_cons_zero, List.set_cons_succ])
  refine wpAnyH_take (i := 24) (v := ?vt25_24) (by simp only [List.getElem?_toArray, List.getElem?_cons_succ, List.getElem?_cons_zero]; rfl) (by kernel_rfl) (by kernel_rfl) (by kernel_rfl) (fun _ _ _ h => h) (.inl ⟨by rfl, ?tt25_24⟩) ?st25_24 ?_
  case tt25_24 => (intro w' h; clear h; go_simp; try rfl)
  case st25_24 => exact Hc23.out
  (try simp only [Act.put, List.setIfInBounds_toArray, List.set_cons_zero, List.set_cons_succ])
  refine wpAnyH_take (i := 25) (v := ?vt26_25) (by simp only [List.getElem?_toArray, List.getElem?_cons_succ, List.getElem?_cons_zero]; rfl) (by kernel_rfl) (by kernel_rfl) (by kernel_rfl) (fun _ _ _ h => h) (.inl ⟨by rfl, ?tt26_25⟩) ?st26_25 ?_
  case tt26_25 => (intro w' h; clear h; go_simp; try rfl)
  case st26_25 => exact Hc23.out
  (try simp only [Act.put, List.setIfInBounds_toArray, List.set_cons_zero, List.set_cons_succ])
  refine wpAnyH_take (i := 26) (v := ?vt27_26) (by simp only [List.getElem?_toArray, List.getElem?_cons_succ, List.getElem?_cons_zero]; rfl) (by kernel_rfl) (by kernel_rfl) (by kernel_rfl) (fun _ _ _ h => h) (.inl ⟨by rfl, ?tt27_26⟩) ?st27_26 ?_
  case tt27_26 => (intro w' h; have FK := HF.out w' h; clear h; go_split_ands; go_simp; try rfl)
  case st27_26 => exact Hc23.out
  (try simp only [Act.put, List.setIfInBounds_toArray, List.set_cons_zero, List.set_cons_succ])
  refine wpAnyH_take (i := 27) (v := ?vt28_27) (by simp only [List.getElem?_toArray, List.getElem?_cons_succ, List.getElem?_cons_zero]; rfl) (by kernel_rfl) (by kernel_rfl) (by kernel_rfl) (fun _ _ _ h => h) (.inl ⟨by rfl, ?tt28_27⟩) ?st28_27 ?_
  case tt28_27 => (intro w' h; have FK := HF.out w' h; clear h; go_split_ands; go_simp; try rfl)
  case st28_27 => exact Hc23.out
  (try simp only [Act.put, List.setIfInBounds_toArray, List.set_cons_zero, List.set_cons_succ])
  refine wpAnyH_take (i := 30) (v := ?vt29_30) (by simp only [List.getElem?_toArray, List.getElem?_cons_succ, List.getElem?_cons_zero]; rfl) (by kernel_rfl) (by kernel_rfl) (by kernel_rfl) (fun _ _ _ h => h) (.inl ⟨by rfl, ?tt29_30⟩) ?st29_30 ?_
  case tt29_30 => (intro w' h; have FK := HF.out w' h; clear h; go_split_ands; go_simp; try rfl)
  case st29_30 => exact Hc23.out
  (try simp only [Act.put, List.setIfInBounds_toArray, List.set_cons_zero, List.set_cons_succ])
  refine wpAnyH_take (i := 31) (v := ?vt30_31) (by simp only [List.getElem?_toArray, List.getElem?_cons_succ, List.getElem?_cons_zero]; rfl) (by kernel_rfl) (by kernel_rfl) (by kernel_rfl) (fun _ _ _ h => h) (.inl ⟨by rfl, ?tt30_31⟩) ?st30_31 ?_
  case tt30_31 => (intro w' h; have FK := HF.out w' h; clear h; go_split_ands; go_simp; try rfl)
  case st30_31 => exact Hc23.out
  (try simp only [Act.put, List.setIfInBounds_toArray, List.set_cons_zero, List.set_cons_succ])
  refine wpAnyH_take (i := 32) (v := ?vt31_32) (by simp only [List.getElem?_toArray, List.getElem?_cons_succ, List.getElem?_cons_zero]; rfl) (by kernel_rfl) (by kernel_rfl) (by kernel_rfl) (fun _ _ _ h => h) (.inl ⟨by rfl, ?tt31_32⟩) ?st31_32 ?_
  case tt31_32 => (intro w' h; have FK := HF.out w' h; clear h; go_split_ands; go_simp; try rfl)
  case st31_32 => exact Hc23.out
  (try simp only [Act.put, List.setIfInBounds_toArray, List.set_cons_zero, List.set_cons_succ])
  refine wpAnyH_two (i := 28) (k := 33) (by kernel_rfl) ?Ap ?Bp
  case Ap =>
    have HbA32 := Lib.hid (show Below w9.heap.size w9 (wy23.alloc (.cells #[.int .i8 m0, .int .i8 m1, .int .i8 m2, .int .i8 m3, .int .i8 c0, .int .i8 c1, .int .i8 c2, .int .i8 c3] 25)) from below_al Hc23.out _)
    have HkA32 := Lib.hid (heap_alloc_new wy23 (.cells #[.int .i8 m0, .int .i8 m1, .int .i8 m2, .int .i8 m3, .int .i8 c0, .int .i8 c1, .int .i8 c2, .int .i8 c3] 25))
    refine wpOp_value (v := .slice (some ⟨wy23.heap.size, 0, none⟩) 2 2) (w' := wy23.alloc (.cells #[.int .i8 m0, .int .i8 m1, .int .i8 m2, .int .i8 m3, .int .i8 c0, .int .i8 c1, .int .i8 c2, .int .i8 c3] 25)) (by simp only [List.getElem?_toArray, List.getElem?_cons_succ, List.getElem?_cons_zero]; rfl) (by rfl) ?mvA32 HbA32.out ?_
    case mvA32 => (go_simp; try rfl)
    (try simp only [Act.put, List.setIfInBounds_toArray, List.set_cons_zero, List.set_cons_succ])
    obtain ⟨wxA32, hwx⟩ : ∃ x, x = wy23.alloc (.cells #[.int .i8 m0, .int .i8 m1, .int .i8 m2, .int .i8 m3, .int .i8 c0, .int .i8 c1, .int .i8 c2, .int .i8 c3] 25) := ⟨_, rfl⟩
    obtain ⟨bxA32, hbx⟩ : ∃ x, x = wy23.heap.size := ⟨_, rfl⟩
    rw [← hwx] at HbA32 HkA32 ⊢
    rw [← hbx] at HkA32 ⊢
    clear hwx hbx
    refine wpAnyH_two (i := 29) (k := 33) (by kernel_rfl) ?Aq ?Bq
    case Aq =>
      refine wpOp_call (by simp only [List.getElem?_toArray, List.getElem?_cons_succ, List.getElem?_cons_zero]; rfl) (by rfl) (by go_simp; first | exact ⟨rfl, rfl⟩ | rfl) ?_
      refine (mgB2 m0 m1 m2 m3 c0 c1 c2 c3 _ _ _ _ _ _ H4.out HkA32.out).mono ?_
      rintro e wyAC33 ⟨rfl, hb⟩
      have HcAC33 := Lib.hid (below_via hb HbA32.out)
      clear hb
      refine ⟨_, rfl, HcAC33.out, ?_⟩
      (try simp only [Act.put, List.setIfInBounds_toArray, List.set_cons_zero, List.set_cons_succ])
      have HbAC34 := Lib.hid (show Below w9.heap.size w9 (wyAC33.alloc (.cells #[.int .i8 b0, .int .i8 b1, .int .i8 b2, .int .i8 b3, .int .i8 c0, .int .i8 c1, .int .i8 c2, .int .i8 c3] 25)) from below_al HcAC33.out _)
      have HkAC34 := Lib.hid (heap_alloc_new wyAC33 (.cells #[.int .i8 b0, .int .i8 b1, .int .i8 b2, .int .i8 b3, .int .i8 c0, .int .i8 c1, .int .i8 c2, .int .i8 c3] 25))
      refine wpAnyH_one (i := 33) (by kernel_rfl) ?_
      refine wpOp_value (v := .slice (some ⟨wyAC33.heap.size, 0, none⟩) 2 2) (w' := wyAC33.alloc (.cells #[.int .i8 b0, .int .i8 b1, .int .i8 b2, .int .i8 b3, .int .i8 c0, .int .i8 c1, .int .i8 c2, .int .i8 c3] 25)) (by simp only [List.getElem?_toArray, List.getElem?_cons_succ, List.getElem?_cons_zero]; rfl) (by rfl) ?mvAC34 HbAC34.out ?_
      case mvAC34 => (go_simp; try rfl)
      (try simp only [Act.put, List.setIfInBounds_toArray, List.set_cons_zero, List.set_cons_succ])
      obtain ⟨wxAC34, hwx⟩ : ∃ x, x = wyAC33.alloc (.cells #[.int .i8 b0, .int .i8 b1, .int .i8 b2, .int .i8 b3, .int .i8 c0, .int .i8 c1, .int .i8 c2, .int .i8 c3] 25) := ⟨_, rfl⟩
      obtain ⟨bxAC34, hbx⟩ : ∃ x, x = wyAC33.heap.size := ⟨_, rfl⟩
      rw [← hwx] at HbAC34 HkAC34 ⊢
      rw [← hbx] at HkAC34 ⊢
      clear hwx hbx
      refine wpAnyH_one (i := 34) (by kernel_rfl) ?_
      refine wpOp_call (by simp only [List.getElem?_toArray, List.getElem?_cons_succ, List.getElem?_cons_zero]; rfl) (by rfl) (by go_simp; first | exact ⟨rfl, rfl⟩ | rfl) ?_
      refine (mgB2 b0 b1 b2 b3 c0 c1 c2 c3 _ _ _ _ _ _ HY.out HkAC34.out).mono ?_
      rintro e wyAC35 ⟨rfl, hb⟩
      have HcAC35 := Lib.hid (below_via hb HbAC34.out)
      clear hb
      refine ⟨_, rfl, HcAC35.out, ?_⟩
      (try simp only [Act.put, List.setIfInBounds_toArray, List.set_cons_zero, List.set_cons_succ])
      have HbAC36 := Lib.hid (show Below w9.heap.size w9 (wyAC35.alloc (.cells #[.int .i8 a0, .int .i8 a1, .int .i8 a2, .int .i8 a3, .int .i8 y0, .int .i8 y1, .int .i8 y2, .int .i8 y3] 25)) from below_al HcAC35.out _)
      have HkAC36 := Lib.hid (heap_alloc_new wyAC35 (.cells #[.int .i8 a0, .int .i8 a1, .int .i8 a2, .int .i8 a3, .int .i8 y0, .int .i8 y1, .int .i8 y2, .int .i8 y3] 25))
      refine wpAnyH_one (i := 35) (by kernel_rfl) ?_
      refine wpOp_value (v := .slice (some ⟨wyAC35.heap.size, 0, none⟩) 2 2) (w' := wyAC35.alloc (.cells #[.int .i8 a0, .int .i8 a1, .int .i8 a2, .int .i8 a3, .int .i8 y0, .int .i8 y1, .int .i8 y2, .int .i8 y3] 25)) (by simp only [List.getElem?_toArray, List.getElem?_cons_succ, List.getElem?_cons_zero]; rfl) (by rfl) ?mvAC36 HbAC36.out ?_
      case mvAC36 => (go_simp; try rfl)
      (try simp only [Act.put, List.setIfInBounds_toArray, List.set_cons_zero, List.set_cons_succ])
      obtain ⟨wxAC36, hwx⟩ : ∃ x, x = wyAC35.alloc (.cells #[.int .i8 a0, .int .i8 a1, .int .i8 a2, .int .i8 a3, .int .i8 y0, .int .i8 y1, .int .i8 y2, .int .i8 y3] 25) := ⟨_, rfl⟩
      obtain ⟨bxAC36, hbx⟩ : ∃ x, x = wyAC35.heap.size := ⟨_, rfl⟩
      rw [← hwx] at HbAC36 HkAC36 ⊢
      rw [← hbx] at HkAC36 ⊢
      clear hwx hbx
      refine wpAnyH_one (i := 36) (by kernel_rfl) ?_
      refine wpOp_call (by simp only [List.getElem?_toArray, List.getElem?_cons_succ, List.getElem?_cons_zero]; rfl) (by rfl) (by go_simp; first | exact ⟨rfl, rfl⟩ | rfl) ?_
      refine (mgB2 a0 a1 a2 a3 y0 y1 y2 y3 _ _ _ _ _ _ HZ.out HkAC36.out).mono ?_
      rintro e wyAC37 ⟨rfl, hb⟩
      have HcAC37 := Lib.hid (below_via hb HbAC36.out)
      clear hb
      refine ⟨_, rfl, HcAC37.out, ?_⟩
      (try simp only [Act.put, List.setIfInBounds_toArray, List.set_cons_zero, List.set_cons_succ])
      refine wpAnyH_take (i := 37) (v := ?vtAC38_37) (by simp only [List.getElem?_toArray, List.getElem?_cons_succ, List.getElem?_cons_zero]; rfl) (by kernel_rfl) (by kernel_rfl) (by kernel_rfl) (fun _ _ _ h => h) (.inl ⟨by rfl, ?ttAC38_37⟩) ?stAC38_37 ?_
      case ttAC38_37 => (intro w' h; clear h; go_simp; try rfl)
      case stAC38_37 => exact HcAC37.out
      (try simp only [Act.put, List.setIfInBounds_toArray, List.set_cons_zero, List.set_cons_succ])
      refine wpAnyH_take (i := 38) (v := ?vtAC39_38) (by simp only [List.getElem?_toArray, List.getElem?_cons_succ, List.getElem?_cons_zero]; rfl) (by kernel_rfl) (by kernel_rfl) (by kernel_rfl) (fun _ _ _ h => h) (.inl ⟨by rfl, ?ttAC39_38⟩) ?stAC39_38 ?_
      case ttAC39_38 => (intro w' h; clear h; go_simp; try rfl)
      case stAC39_38 => exact HcAC37.out
      (try simp only [Act.put, List.setIfInBounds_toArray, List.set_cons_zero, List.set_cons_succ])
      refine wpAnyH_take (i := 39) (v := ?vtAC40_39) (by simp only [List.getElem?_toArray, List.getElem?_cons_succ, List.getElem?_cons_zero]; rfl) (by kernel_rfl) (by kernel_rfl) (by kernel_rfl) (fun _ _ _ h => h) (.inl ⟨by rfl, ?ttAC40_39⟩) ?stAC40_39 ?_
      case ttAC40_39 => (intro w' h; clear h; go_simp; try rfl)
      case stAC40_39 => exact HcAC37.out
      (try simp only [Act.put, List.setIfInBounds_toArray, List.set_cons_zero, List.set_cons_succ])
      refine wpAnyH_take (i := 41) (v := ?vtAC41_41) (by simp only [List.getElem?_toArray, List.getElem?_cons_succ, List.getElem?_cons_zero]; rfl) (by kernel_rfl) (by kernel_rfl) (by kernel_rfl) (fun _ _ _ h => h) (.inl ⟨by rfl, ?ttAC41_41⟩) ?stAC41_41 ?_
      case ttAC41_41 => (intro w' h; clear h; go_simp; try rfl)
      case stAC41_41 => exact HcAC37.out
      (try simp only [Act.put, List.setIfInBounds_toArray, List.set_cons_zero, List.set_cons_succ])
      refine wpAnyH_one (i := 40) (by kernel_rfl) ?_
      refine wpOp_call (by simp only [List.getElem?_toArray, List.getElem?_cons_succ, List.getElem?_cons_zero]; rfl) (by rfl) (by go_simp; first | exact ⟨rfl, rfl⟩ | rfl) ?_
      refine (mg0 _).mono ?_
      rintro e wyAC42 ⟨rfl, hb⟩
      have HcAC42 := Lib.hid (below_via hb HcAC37.out)
      clear hb
      refine ⟨_, rfl, HcAC42.out, ?_⟩
      (try simp only [Act.put, List.setIfInBounds_toArray, List.set_cons_zero, List.set_cons_succ])
      refine wpAnyH_take (i := 42) (v := ?vtAC43_42) (by simp only [List.getElem?_toArray, List.getElem?_cons_succ, List.getElem?_cons_zero]; rfl) (by kernel_rfl) (by kernel_rfl) (by kernel_rfl) (fun _ _ _ h => h) (.inl ⟨by rfl, ?ttAC43_42⟩) ?stAC43_42 ?_
      case ttAC43_42 => (intro w' h; clear h; go_simp; try rfl)
      case stAC43_42 => exact HcAC42.out
      (try simp only [Act.put, List.setIfInBounds_toArray, List.set_cons_zero, List.set_cons_succ])
      refine wpAnyH_take (i := 43) (v := ?vtAC44_43) (by simp only [List.getElem?_toArray, List.getElem?_cons_succ, List.getElem?_cons_zero]; rfl) (by kernel_rfl) (by kernel_rfl) (by kernel_rfl) (fun _ _ _ h => h) (.inl ⟨by rfl, ?ttAC44_43⟩) ?stAC44_43 ?_
      case ttAC44_43 => (intro w' h; clear h; go_simp; try rfl)
      case stAC44_43 => exact HcAC42.out
      (try simp only [Act.put, List.setIfInBounds_toArray, List.set_cons_zero, List.set_cons_succ])
      refine wpAnyH_done (by kernel_rfl) (NoPanic.normal ?_) _
      go_wp2
      go_meet
      exact ⟨rfl, HF.out _ HcAC42.out, below_via HcAC42.out B9⟩
    case Bq =>
      have HbAD33 := Lib.hid (show Below w9.heap.size w9 (wxA32.alloc (.cells #[.int .i8 b0, .int .i8 b1, .int .i8 b2, .int .i8 b3, .int .i8 c0, .int .i8 c1, .int .i8 c2, .int .i8 c3] 25)) from below_al HbA32.out _)
      have HkAD33 := Lib.hid (heap_alloc_new wxA32 (.cells #[.int .i8 b0, .int .i8 b1, .int .i8 b2, .int .i8 b3, .int .i8 c0, .int .i8 c1, .int .i8 c2, .int .i8 c3] 25))
      have HoAD33m := Lib.hid (show (wxA32.alloc (.cells #[.int .i8 b0, .int .i8 b1, .int .i8 b2, .int .i8 b3, .int .i8 c0, .int .i8 c1, .int .i8 c2, .int .i8 c3] 25)).heap[bxA32]? = _ from (heap_alloc_old _ _ (lt_of_block HkA32.out)).trans HkA32.out)
      refine wpOp_value (v := .slice (some ⟨wxA32.heap.size, 0, none⟩) 2 2) (w' := wxA32.alloc (.cells #[.int .i8 b0, .int .i8 b1, .int .i8 b2, .int .i8 b3, .int .i8 c0, .int .i8 c1, .int .i8 c2, .int .i8 c3] 25)) (by simp only [List.getElem?_toArray, List.getElem?_cons_succ, List.getElem?_cons_zero]; rfl) (by rfl) ?mvAD33 HbAD33.out ?_
      case mvAD33 => (go_simp; try rfl)
      (try simp only [Act.put, List.setIfInBounds_toArray, List.set_cons_zero, List.set_cons_succ])
      obtain ⟨wxAD33, hwx⟩ : ∃ x, x = wxA32.alloc (.cells #[.int .i8 b0, .int .i8 b1, .int .i8 b2, .int .i8 b3, .int .i8 c0, .int .i8 c1, .int .i8 c2, .int .i8 c3] 25) := ⟨_, rfl⟩
      obtain ⟨bxAD33, hbx⟩ : ∃ x, x = wxA32.heap.size := ⟨_, rfl⟩
      rw [← hwx] at HbAD33 HkAD33 ⊢
      rw [← hwx] at HoAD33m
      rw [← hbx] at HkAD33 ⊢
      clear hwx hbx
      refine wpAnyH_one (i := 29) (by kernel_rfl) ?_
      refine wpOp_call (by simp only [List.getElem?_toArray, List.getElem?_cons_succ, List.getElem?_cons_zero]; rfl) (by rfl) (by go_simp; first | exact ⟨rfl, rfl⟩ | rfl) ?_
      refine (mgB2 m0 m1 m2 m3 c0 c1 c2 c3 _ _ _ _ _ _ H4.out HoAD33m.out).mono ?_
      rintro e wyAD34 ⟨rfl, hb⟩
      have HcAD34 := Lib.hid (below_via hb HbAD33.out)
      have HjAD34q := Lib.hid ((hb.block _ (lt_of_block HkAD33.out)).trans HkAD33.out)
      clear hb
      refine ⟨_, rfl, HcAD34.out, ?_⟩
      (try simp only [Act.put, List.setIfInBounds_toArray, List.set_cons_zero, List.set_cons_succ])
      refine wpAnyH_one (i := 34) (by kernel_rfl) ?_
      refine wpOp_call (by simp only [List.getElem?_toArray, List.getElem?_cons_succ, List.getElem?_cons_zero]; rfl) (by rfl) (by go_simp; first | exact ⟨rfl, rfl⟩ | rfl) ?_
      refine (mgB2 b0 b1 b2 b3 c0 c1 c2 c3 _ _ _ _ _ _ HY.out HjAD34q.out).mono ?_
      rintro e wyAD35 ⟨rfl, hb⟩
      have HcAD35 := Lib.hid (below_via hb HcAD34.out)
      clear hb
      refine ⟨_, rfl, HcAD35.out, ?_⟩
      (try simp only [Act.put, List.setIfInBounds_toArray, List.set_cons_zero, List.set_cons_succ])
      have HbAD36 := Lib.hid (show Below w9.heap.size w9 (wyAD35.alloc (.cells #[.int .i8 a0, .int .i8 a1, .int .i8 a2, .int .i8 a3, .int .i8 y0, .int .i8 y1, .int .i8 y2, .int .i8 y3] 25)) from below_al HcAD35.out _)
      have HkAD36 := Lib.hid (heap_alloc_new wyAD35 (.cells #[.int .i8 a0, .int .i8 a1, .int .i8 a2, .int .i8 a3, .int .i8 y0, .int .i8 y1, .int .i8 y2, .int .i8 y3] 25))
      refine wpAnyH_one (i := 35) (by kernel_rfl) ?_
      refine wpOp_value (v := .slice (some ⟨wyAD35.heap.size, 0, none⟩) 2 2) (w' := wyAD35.alloc (.cells #[.int .i8 a0, .int .i8 a1, .int .i8 a2, .int .i8 a3, .int .i8 y0, .int .i8 y1, .int .i8 y2, .int .i8 y3] 25)) (by simp only [List.getElem?_toArray, List.getElem?_cons_succ, List.getElem?_cons_zero]; rfl) (by rfl) ?mvAD36 HbAD36.out ?_
      case mvAD36 => (go_simp; try rfl)
      (try simp only [Act.put, List.setIfInBounds_toArray, List.set_cons_zero, List.set_cons_succ])
      obtain ⟨wxAD36, hwx⟩ : ∃ x, x = wyAD35.alloc (.cells #[.int .i8 a0, .int .i8 a1, .int .i8 a2, .int .i8 a3, .int .i8 y0, .int .i8 y1, .int .i8 y2, .int .i8 y3] 25) := ⟨_, rfl⟩
      obtain ⟨bxAD36, hbx⟩ : ∃ x, x = wyAD35.heap.size := ⟨_, rfl⟩
      rw [← hwx] at HbAD36 HkAD36 ⊢
      rw [← hbx] at HkAD36 ⊢
      clear hwx hbx
      refine wpAnyH_one (i := 36) (by kernel_rfl) ?_
      refine wpOp_call (by simp only [List.getElem?_toArray, List.getElem?_cons_succ, List.getElem?_cons_zero]; rfl) (by rfl) (by go_simp; first | exact ⟨rfl, rfl⟩ | rfl) ?_
      refine (mgB2 a0 a1 a2 a3 y0 y1 y2 y3 _ _ _ _ _ _ HZ.out HkAD36.out).mono ?_
      rintro e wyAD37 ⟨rfl, hb⟩
      have HcAD37 := Lib.hid (below_via hb HbAD36.out)
      clear hb
      refine ⟨_, rfl, HcAD37.out, ?_⟩
      (try simp only [Act.put, List.setIfInBounds_toArray, List.set_cons_zero, List.set_cons_succ])
      refine wpAnyH_take (i := 37) (v := ?vtAD38_37) (by simp only [List.getElem?_toArray, List.getElem?_cons_succ, List.getElem?_cons_zero]; rfl) (by kernel_rfl) (by kernel_rfl) (by kernel_rfl) (fun _ _ _ h => h) (.inl ⟨by rfl, ?ttAD38_37⟩) ?stAD38_37 ?_
      case ttAD38_37 => (intro w' h; clear h; go_simp; try rfl)
      case stAD38_37 => exact HcAD37.out
      (try simp only [Act.put, List.setIfInBounds_toArray, List.set_cons_zero, List.set_cons_succ])
      refine wpAnyH_take (i := 38) (v := ?vtAD39_38) (by simp only [List.getElem?_toArray, List.getElem?_cons_succ, List.getElem?_cons_zero]; rfl) (by kernel_rfl) (by kernel_rfl) (by kernel_rfl) (fun _ _ _ h => h) (.inl ⟨by rfl, ?ttAD39_38⟩) ?stAD39_38 ?_
      case ttAD39_38 => (intro w' h; clear h; go_simp; try rfl)
      case stAD39_38 => exact HcAD37.out
      (try simp only [Act.put, List.setIfInBounds_toArray, List.set_cons_zero, List.set_cons_succ])
      refine wpAnyH_take (i := 39) (v := ?vtAD40_39) (by simp only [List.getElem?_toArray, List.getElem?_cons_succ, List.getElem?_cons_zero]; rfl) (by kernel_rfl) (by kernel_rfl) (by kernel_rfl) (fun _ _ _ h => h) (.inl ⟨by rfl, ?ttAD40_39⟩) ?stAD40_39 ?_
      case ttAD40_39 => (intro w' h; clear h; go_simp; try rfl)
      case stAD40_39 => exact HcAD37.out
      (try simp only [Act.put, List.setIfInBounds_toArray, List.set_cons_zero, List.set_cons_succ])
      refine wpAnyH_take (i := 41) (v := ?vtAD41_41) (by simp only [List.getElem?_toArray, List.getElem?_cons_succ, List.getElem?_cons_zero]; rfl) (by kernel_rfl) (by kernel_rfl) (by kernel_rfl) (fun _ _ _ h => h) (.inl ⟨by rfl, ?ttAD41_41⟩) ?stAD41_41 ?_
      case ttAD41_41 => (intro w' h; clear h; go_simp; try rfl)
      case stAD41_41 => exact HcAD37.out
      (try simp only [Act.put, List.setIfInBounds_toArray, List.set_cons_zero, List.set_cons_succ])
      refine wpAnyH_one (i := 40) (by kernel_rfl) ?_
      refine wpOp_call (by simp only [List.getElem?_toArray, List.getElem?_cons_succ, List.getElem?_cons_zero]; rfl) (by rfl) (by go_simp; first | exact ⟨rfl, rfl⟩ | rfl) ?_
      refine (mg0 _).mono ?_
      rintro e wyAD42 ⟨rfl, hb⟩
      have HcAD42 := Lib.hid (below_via hb HcAD37.out)
      clear hb
      refine ⟨_, rfl, HcAD42.out, ?_⟩
      (try simp only [Act.put, List.setIfInBounds_toArray, List.set_cons_zero, List.set_cons_succ])
      refine wpAnyH_take (i := 42) (v := ?vtAD43_42) (by simp only [List.getElem?_toArray, List.getElem?_cons_succ, List.getElem?_cons_zero]; rfl) (by kernel_rfl) (by kernel_rfl) (by kernel_rfl) (fun _ _ _ h => h) (.inl ⟨by rfl, ?ttAD43_42⟩) ?stAD43_42 ?_
      case ttAD43_42 => (intro w' h; clear h; go_simp; try rfl)
      case stAD43_42 => exact HcAD42.out
      (try simp only [Act.put, List.setIfInBounds_toArray, List.set_cons_zero, List.set_cons_succ])
      refine wpAnyH_take (i := 43) (v := ?vtAD44_43) (by simp only [List.getElem?_toArray, List.getElem?_cons_succ, List.getElem?_cons_zero]; rfl) (by kernel_rfl) (by kernel_rfl) (by kernel_rfl) (fun _ _ _ h => h) (.inl ⟨by rfl, ?ttAD44_43⟩) ?stAD44_43 ?_
      case ttAD44_43 => (intro w' h; clear h; go_simp; try rfl)
      case stAD44_43 => exact HcAD42.out
      (try simp only [Act.put, List.setIfInBounds_toArray, List.set_cons_zero, List.set_cons_succ])
      refine wpAnyH_done (by kernel_rfl) (NoPanic.normal ?_) _
      go_wp2
      go_meet
      exact ⟨rfl, HF.out _ HcAD42.out, below_via HcAD42.out B9⟩
  case Bp =>
    have HbB32 := Lib.hid (show Below w9.heap.size w9 (wy23.alloc (.cells #[.int .i8 b0, .int .i8 b1, .int .i8 b2, .int .i8 b3, .int .i8 c0, .int .i8 c1, .int .i8 c2, .int .i8 c3] 25)) from below_al Hc23.out _)
    have HkB32 := Lib.hid (heap_alloc_new wy23 (.cells #[.int .i8 b0, .int .i8 b1, .int .i8 b2, .int .i8 b3, .int .i8 c0, .int .i8 c1, .int .i8 c2, .int .i8 c3] 25))
    refine wpOp_value (v := .slice (some ⟨wy23.heap.size, 0, none⟩) 2 2) (w' := wy23.alloc (.cells #[.int .i8 b0, .int .i8 b1, .int .i8 b2, .int .i8 b3, .int .i8 c0, .int .i8 c1, .int .i8 c2, .int .i8 c3] 25)) (by simp only [List.getElem?_toArray, List.getElem?_cons_succ, List.getElem?_cons_zero]; rfl) (by rfl) ?mvB32 HbB32.out ?_
    case mvB32 => (go_simp; try rfl)
    (try simp only [Act.put, List.setIfInBounds_toArray, List.set_cons_zero, List.set_cons_succ])
    obtain ⟨wxB32, hwx⟩ : ∃ x, x = wy23.alloc (.cells #[.int .i8 b0, .int .i8 b1, .int .i8 b2, .int .i8 b3, .int .i8 c0, .int .i8 c1, .int .i8 c2, .int .i8 c3] 25) := ⟨_, rfl⟩
    obtain ⟨bxB32, hbx⟩ : ∃ x, x = wy23.heap.size := ⟨_, rfl⟩
    rw [← hwx] at HbB32 HkB32 ⊢
    rw [← hbx] at HkB32 ⊢
    clear hwx hbx
    have HbB33 := Lib.hid (show Below w9.heap.size w9 (wxB32.alloc (.cells #[.int .i8 m0, .int .i8 m1, .int .i8 m2, .int .i8 m3, .int .i8 c0, .int .i8 c1, .int .i8 c2, .int .i8 c3] 25)) from below_al HbB32.out _)
    have HkB33 := Lib.hid (heap_alloc_new wxB32 (.cells #[.int .i8 m0, .int .i8 m1, .int .i8 m2, .int .i8 m3, .int .i8 c0, .int .i8 c1, .int .i8 c2, .int .i8 c3] 25))
    have HoB33q := Lib.hid (show (wxB32.alloc (.cells #[.int .i8 m0, .int .i8 m1, .int .i8 m2, .int .i8 m3, .int .i8 c0, .int .i8 c1, .int .i8 c2, .int .i8 c3] 25)).heap[bxB32]? = _ from (heap_alloc_old _ _ (lt_of_block HkB32.out)).trans HkB32.out)
    refine wpAnyH_one (i := 28) (by kernel_rfl) ?_
    refine wpOp_value (v := .slice (some ⟨wxB32.heap.size, 0, none⟩) 2 2) (w' := wxB32.alloc (.cells #[.int .i8 m0, .int .i8 m1, .int .i8 m2, .int .i8 m3, .int .i8 c0, .int .i8 c1, .int .i8 c2, .int .i8 c3] 25)) (by simp only [List.getElem?_toArray, List.getElem?_cons_succ, List.getElem?_cons_zero]; rfl) (by rfl) ?mvB33 HbB33.out ?_
    case mvB33 => (go_simp; try rfl)
    (try simp only [Act.put, List.setIfInBounds_toArray, List.set_cons_zero, List.set_cons_succ])
    obtain ⟨wxB33, hwx⟩ : ∃ x, x = wxB32.alloc (.cells #[.int .i8 m0, .int .i8 m1, .int .i8 m2, .int .i8 m3, .int .i8 c0, .int .i8 c1, .int .i8 c2, .int .i8 c3] 25) := ⟨_, rfl⟩
    obtain ⟨bxB33, hbx⟩ : ∃ x, x = wxB32.heap.size := ⟨_, rfl⟩
    rw [← hwx] at HbB33 HkB33 ⊢
    rw [← hwx] at HoB33q
    rw [← hbx] at HkB33 ⊢
    clear hwx hbx
    refine wpAnyH_one (i := 29) (by kernel_rfl) ?_
    refine wpOp_call (by simp only [List.getElem?_toArray, List.getElem?_cons_succ, List.getElem?_cons_zero]; rfl) (by rfl) (by go_simp; first | exact ⟨rfl, rfl⟩ | rfl) ?_
    refine (mgB2 m0 m1 m2 m3 c0 c1 c2 c3 _ _ _ _ _ _ H4.out HkB33.out).mono ?_
    rintro e wyB34 ⟨rfl, hb⟩
    have HcB34 := Lib.hid (below_via hb HbB33.out)
    have HjB34q := Lib.hid ((hb.block _ (lt_of_block HoB33q.out)).trans HoB33q.out)
    clear hb
    refine ⟨_, rfl, HcB34.out, ?_⟩
    (try simp only [Act.put, List.setIfInBounds_toArray, List.set_cons_zero, List.set_cons_succ])
    refine wpAnyH_one (i := 34) (by kernel_rfl) ?_
    refine wpOp_call (by simp only [List.getElem?_toArray, List.getElem?_cons_succ, List.getElem?_cons_zero]; rfl) (by rfl) (by go_simp; first | exact ⟨rfl, rfl⟩ | rfl) ?_
    refine (mgB2 b0 b1 b2 b3 c0 c1 c2 c3 _ _ _ _ _ _ HY.out HjB34q.out).mono ?_
    rintro e wyB35 ⟨rfl, hb⟩
    have HcB35 := Lib.hid (below_via hb HcB34.out)
    clear hb
    refine ⟨_, rfl, HcB35.out, ?_⟩
    (try simp only [Act.put, List.setIfInBounds_toArray, List.set_cons_zero, List.set_cons_succ])
    have HbB36 := Lib.hid (show Below w9.heap.size w9 (wyB35.alloc (.cells #[.int .i8 a0, .int .i8 a1, .int .i8 a2, .int .i8 a3, .int .i8 y0, .int .i8 y1, .int .i8 y2, .int .i8 y3] 25)) from below_al HcB35.out _)
    have HkB36 := Lib.hid (heap_alloc_new wyB35 (.cells #[.int .i8 a0, .int .i8 a1, .int .i8 a2, .int .i8 a3, .int .i8 y0, .int .i8 y1, .int .i8 y2, .int .i8 y3] 25))
    refine wpAnyH_one (i := 35) (by kernel_rfl) ?_
    refine wpOp_value (v := .slice (some ⟨wyB35.heap.size, 0, none⟩) 2 2) (w' := wyB35.alloc (.cells #[.int .i8 a0, .int .i8 a1, .int .i8 a2, .int .i8 a3, .int .i8 y0, .int .i8 y1, .int .i8 y2, .int .i8 y3] 25)) (by simp only [List.getElem?_toArray, List.getElem?_cons_succ, List.getElem?_cons_zero]; rfl) (by rfl) ?mvB36 HbB36.out ?_
    case mvB36 => (go_simp; try rfl)
    (try simp only [Act.put, List.setIfInBounds_toArray, List.set_cons_zero, List.set_cons_succ])
    obtain ⟨wxB36, hwx⟩ : ∃ x, x = wyB35.alloc (.cells #[.int .i8 a0, .int .i8 a1, .int .i8 a2, .int .i8 a3, .int .i8 y0, .int .i8 y1, .int .i8 y2, .int .i8 y3] 25) := ⟨_, rfl⟩
    obtain ⟨bxB36, hbx⟩ : ∃ x, x = wyB35.heap.size := ⟨_, rfl⟩
    rw [← hwx] at HbB36 HkB36 ⊢
    rw [← hbx] at HkB36 ⊢
    clear hwx hbx
    refine wpAnyH_one (i := 36) (by kernel_rfl) ?_
    refine wpOp_call (by simp only [List.getElem?_toArray, List.getElem?_cons_succ, List.getElem?_cons_zero]; rfl) (by rfl) (by go_simp; first | exact ⟨rfl, rfl⟩ | rfl) ?_
    refine (mgB2 a0 a1 a2 a3 y0 y1 y2 y3 _ _ _ _ _ _ HZ.out HkB36.out).mono ?_
    rintro e wyB37 ⟨rfl, hb⟩
    have HcB37 := Lib.hid (below_via hb HbB36.out)
    clear hb
    refine ⟨_, rfl, HcB37.out, ?_⟩
    (try simp only [Act.put, List.setIfInBounds_toArray, List.set_cons_zero, List.set_cons_succ])
    refine wpAnyH_take (i := 37) (v := ?vtB38_37) (by simp only [List.getElem?_toArray, List.getElem?_cons_succ, List.getElem?_cons_zero]; rfl) (by kernel_rfl) (by kernel_rfl) (by kernel_rfl) (fun _ _ _ h => h) (.inl ⟨by rfl, ?ttB38_37⟩) ?stB38_37 ?_
    case ttB38_37 => (intro w' h; clear h; go_simp; try rfl)
    case stB38_37 => exact HcB37.out
    (try simp only [Act.put, List.setIfInBounds_toArray, List.set_cons_zero, List.set_cons_succ])
    refine wpAnyH_take (i := 38) (v := ?vtB39_38) (by simp only [List.getElem?_toArray, List.getElem?_cons_succ, List.getElem?_cons_zero]; rfl) (by kernel_rfl) (by kernel_rfl) (by kernel_rfl) (fun _ _ _ h => h) (.inl ⟨by rfl, ?ttB39_38⟩) ?stB39_38 ?_
    case ttB39_38 => (intro w' h; clear h; go_simp; try rfl)
    case stB39_38 => exact HcB37.out
    (try simp only [Act.put, List.setIfInBounds_toArray, List.set_cons_zero, List.set_cons_succ])
    refine wpAnyH_take (i := 39) (v := ?vtB40_39) (by simp only [List.getElem?_toArray, List.getElem?_cons_succ, List.getElem?_cons_zero]; rfl) (by kernel_rfl) (by kernel_rfl) (by kernel_rfl) (fun _ _ _ h => h) (.inl ⟨by rfl, ?ttB40_39⟩) ?stB40_39 ?_
    case ttB40_39 => (intro w' h; clear h; go_simp; try rfl)
    case stB40_39 => exact HcB37.out
    (try simp only [Act.put, List.setIfInBounds_toArray, List.set_cons_zero, List.set_cons_succ])
    refine wpAnyH_take (i := 41) (v := ?vtB41_41) (by simp only [List.getElem?_toArray, List.getElem?_cons_succ, List.getElem?_cons_zero]; rfl) (by kernel_rfl) (by kernel_rfl) (by kernel_rfl) (fun _ _ _ h => h) (.inl ⟨by rfl, ?ttB41_41⟩) ?stB41_41 ?_
    case ttB41_41 => (intro w' h; clear h; go_simp; try rfl)
    case stB41_41 => exact HcB37.out
    (try simp only [Act.put, List.setIfInBounds_toArray, List.set_cons_zero, List.set_cons_succ])
    refine wpAnyH_one (i := 40) (by kernel_rfl) ?_
    refine wpOp_call (by simp only [List.getElem?_toArray, List.getElem?_cons_succ, List.getElem?_cons_zero]; rfl) (by rfl) (by go_simp; first | exact ⟨rfl, rfl⟩ | rfl) ?_
    refine (mg0 _).mono ?_
    rintro e wyB42 ⟨rfl, hb⟩
    have HcB42 := Lib.hid (below_via hb HcB37.out)
    clear hb
    refine ⟨_, rfl, HcB42.out, ?_⟩
    (try simp only [Act.put, List.setIfInBounds_toArray, List.set_cons_zero, List.set_cons_succ])
    refine wpAnyH_take (i := 42) (v := ?vtB43_42) (by simp only [List.getElem?_toArray, List.getElem?_cons_succ, List.getElem?_cons_zero]; rfl) (by kernel_rfl) (by kernel_rfl) (by kernel_rfl) (fun _ _ _ h => h) (.inl ⟨by rfl, ?ttB43_42⟩) ?stB43_42 ?_
    case ttB43_42 => (intro w' h; clear h; go_simp; try rfl)
    case stB43_42 => exact HcB42.out
    (try simp only [Act.put, List.setIfInBounds_toArray, List.set_cons_zero, List.set_cons_succ])
    refine wpAnyH_take (i := 43) (v := ?vtB44_43) (by simp only [List.getElem?_toArray, List.getElem?_cons_succ, List.getElem?_cons_zero]; rfl) (by kernel_rfl) (by kernel_rfl) (by kernel_rfl) (fun _ _ _ h => h) (.inl ⟨by rfl, ?ttB44_43⟩) ?stB44_43 ?_
    case ttB44_43 => (intro w' h; clear h; go_simp; try rfl)
    case stB44_43 => exact HcB42.out
    (try simp only [Act.put, List.setIfInBounds_toArray, List.set_cons_zero, List.set_cons_succ])
    refine wpAnyH_done (by kernel_rfl) (NoPanic.normal ?_) _
    go_wp2
    go_meet
    exact ⟨rfl, HF.out _ HcB42.out, below_via HcB42.out B9⟩
theorem GlyphBack_walk (r a0 a1 a2 a3 b0 b1 b2 b3 : Int) (w : World) : Calls Try.prog 9 #[.int .i32 r, .agg #[.int .i8 a0, .int .i8 a1, .int .i8 a2, .int .i8 a3], .agg #[.int .i8 b0, .int .i8 b1, .int .i8 b2, .int .i8 b3]] w fun e w' => e = .returned (.bool true) ∧ Below w.heap.size w w' := (GlyphBack_A r a0 a1 a2 a3 b0 b1 b2 b3 w).2 (Lib.hid (GlyphBack_B r a0 a1 a2 a3 b0 b1 b2 b3 w))
end Go.Proofs.Ytebalohoblaedaa
