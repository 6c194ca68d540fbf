/- Reading trees' bytes: the program's closures that loop. -/
import Derived.Test.YtcihihncgpddfaaGetB
namespace Go.Proofs.Ytcihihncgpddfaa
open Go.RowKit Go.Deep
set_option linter.unusedVariables false
set_option linter.unusedSimpArgs false

theorem infoInt_ : (Try.prog.info? 3).map (fun i => (i.zero, i.size, i.bytes)) = some (some (.int .i64 0), 1, 8) := by kernel_rfl
theorem infoItm_ : (Try.prog.info? 57).map (fun i => (i.zero, i.size, i.bytes)) = some (some (.agg #[.int .i8 0, .int .i64 0, .int .i64 0, .int .i64 0, .int .i64 0]), 5, 40) := by kernel_rfl
set_option maxRecDepth 100000 in
set_option maxHeartbeats 8000000 in
theorem get8 (w0 W : World) (rb : Nat) (sv : Value) (B : List Int) (s : Rs) (xb : Nat) (y : Nd) (kv cv : Value) (hr : RdAt 100 w0 W rb sv B s) (hn : NdO w0.heap.size W xb (ndV y kv cv).toArray y.kids y.cols kv cv) : Calls Try.prog 95 #[.pointer (some ⟨rb, 0, none⟩), .pointer (some ⟨xb, 0, none⟩)] W (GetPost 100 w0 W rb sv B xb kv cv (partR y 8 B s)) := by
  have hby := hr.byte
  have H0 := Lib.hid (GetS.refl hr hn)
  clear hr hn
  go_enter Try.func95, Try.ntmps95
  go_wp2
  refine wp_loop_rounds 5 ?_
  rw [rounds_succ]
  have D1 := Lib.hid (H0.out.quiet (Below.drew (Below.refl _ _)))
  have HC := Lib.hid (rd_number w0 W.drew rb sv B s D1.out.rd)
  obtain ⟨r1, hr1⟩ : ∃ r, r = numR B s := ⟨_, rfl⟩
  rw [← hr1] at HC
  have hb1 := numR_range hby s
  rw [← hr1] at hb1
  have HR1 := Lib.hid hr1
  obtain ⟨v1, s1⟩ := r1
  simp only at hb1
  obtain ⟨hb1a, hb1b⟩ := hb1
  clear hr1
  go_upto_region 3 with (fail)
  refine wp_region_noPanic ?_
  refine wp_region_Z (fun _ => True) 7 (by kernel_rfl) ?_
  change wpAnyZ _ _ _ _ _ _ 8 (Array.replicate 8 false) _ _
  refine wpAnyZ_take [6] (i := 0) (v := ?va10) (by simp only [List.getElem?_toArray, List.getElem?_cons_succ, List.getElem?_cons_zero]; rfl) (by decide +kernel) (fun _ _ _ h => h) (by rfl) ?ta10 ?sa10 ?_
  case ta10 => (intro w' h; clear h; go_simp; try rfl)
  case sa10 => exact trivial
  (try simp only [Act.put, List.setIfInBounds_toArray, List.set_cons_zero, List.set_cons_succ])
  refine wpAnyZ_take [6] (i := 1) (v := ?va11) (by simp only [List.getElem?_toArray, List.getElem?_cons_succ, List.getElem?_cons_zero]; rfl) (by decide +kernel) (fun _ _ _ h => h) (by rfl) ?ta11 ?sa11 ?_
  case ta11 => (intro w' h; clear h; go_simp; try rfl)
  case sa11 => exact trivial
  (try simp only [Act.put, List.setIfInBounds_toArray, List.set_cons_zero, List.set_cons_succ])
  refine wpAnyZ_take [6] (i := 2) (v := ?va12) (by simp only [List.getElem?_toArray, List.getElem?_cons_succ, List.getElem?_cons_zero]; rfl) (by decide +kernel) (fun _ _ _ h => h) (by rfl) ?ta12 ?sa12 ?_
  case ta12 => (intro w' h; clear h; go_simp; try rfl)
  case sa12 => exact trivial
  (try simp only [Act.put, List.setIfInBounds_toArray, List.set_cons_zero, List.set_cons_succ])
  refine wpAnyZ_take [6, 5] (i := 4) (v := ?va14) (by simp only [List.getElem?_toArray, List.getElem?_cons_succ, List.getElem?_cons_zero]; rfl) (by decide +kernel) (fun _ _ _ h => h) (by rfl) ?ta14 ?sa14 ?_
  case ta14 => (intro w' h; clear h; go_simp; try rfl)
  case sa14 => exact trivial
  (try simp only [Act.put, List.setIfInBounds_toArray, List.set_cons_zero, List.set_cons_succ])
  refine wpAnyZ_take [6] (i := 5) (v := ?va15) (by simp only [List.getElem?_toArray, List.getElem?_cons_succ, List.getElem?_cons_zero]; rfl) (by decide +kernel) (fun _ _ _ h => h) (by rfl) ?ta15 ?sa15 ?_
  case ta15 => (intro w' h; clear h; go_simp; try rfl)
  case sa15 => exact trivial
  (try simp only [Act.put, List.setIfInBounds_toArray, List.set_cons_zero, List.set_cons_succ])
  refine wpAnyZ_one (i := 3) (by decide +kernel) ?_
  refine wpOpK_call (by simp only [List.getElem?_toArray, List.getElem?_cons_succ, List.getElem?_cons_zero]; rfl) (by rfl) (by go_simp; first | exact ⟨rfl, rfl⟩ | rfl) ?_
  refine (HC.out).mono ?_
  rintro e w1 ⟨rfl, hs⟩
  have G1 := Lib.hid (D1.out.next tyRd hs)
  clear hs HC
  simp only at G1
  refine ⟨_, rfl, .inr trivial, ?_⟩
  (try simp only [Act.put, List.setIfInBounds_toArray, List.set_cons_zero, List.set_cons_succ])
  refine wpAnyZ_take [] (i := 6) (v := ?va16) (by simp only [List.getElem?_toArray, List.getElem?_cons_succ, List.getElem?_cons_zero]; rfl) (by decide +kernel) (fun _ _ _ h => h) (by rfl) ?ta16 ?sa16 ?_
  case ta16 => (intro w' h; clear h; go_simp; try rfl)
  case sa16 => exact trivial
  (try simp only [Act.put, List.setIfInBounds_toArray, List.set_cons_zero, List.set_cons_succ])
  have c15 := G1.out.cell (j := 15) rfl
  have f15 := G1.out.free 15
  have zx1 := G1.out.lt
  refine wpAnyZ_one (i := 7) (by decide +kernel) ?_
  refine wpOpK_skip (w' := w1.setCell ⟨xb, 15, none⟩ (.int .i64 v1)) (by simp only [List.getElem?_toArray, List.getElem?_cons_succ, List.getElem?_cons_zero]; rfl) (by rfl) ?ma17 ⟨.inl rfl, ?_⟩
  case ma17 => (go_simp; try rfl)
  (try simp only [Act.put, List.setIfInBounds_toArray, List.set_cons_zero, List.set_cons_succ])
  refine wpAnyZ_done (by kernel_rfl) (NoPanic.normal ?_) _
  obtain ⟨x1, hx1⟩ : ∃ x, x = w1.setCell ⟨xb, 15, none⟩ (.int .i64 v1) := ⟨_, rfl⟩
  have H1 := Lib.hid (G1.out.store tyRd 15 (.int .i64 v1))
  rw [← hx1] at H1 ⊢
  have hxs1 := Lib.hid hx1.symm
  clear hx1 c15 f15 zx1 G1 D1 H0
  go_wp2
  rw [rounds_succ]
  have D2 := Lib.hid (H1.out.quiet (Below.drew (Below.refl _ _)))
  have HC := Lib.hid (rd_number w0 x1.drew rb sv B s1 D2.out.rd)
  obtain ⟨r2, hr2⟩ : ∃ r, r = numR B s1 := ⟨_, rfl⟩
  rw [← hr2] at HC
  have hb2 := numR_range hby s1
  rw [← hr2] at hb2
  have HR2 := Lib.hid hr2
  obtain ⟨v2, s2⟩ := r2
  simp only at hb2
  obtain ⟨hb2a, hb2b⟩ := hb2
  clear hr2
  go_upto_region 3 with (fail)
  refine wp_region_noPanic ?_
  refine wp_region_Z (fun _ => True) 7 (by kernel_rfl) ?_
  change wpAnyZ _ _ _ _ _ _ 8 (Array.replicate 8 false) _ _
  refine wpAnyZ_take [6] (i := 0) (v := ?va20) (by simp only [List.getElem?_toArray, List.getElem?_cons_succ, List.getElem?_cons_zero]; rfl) (by decide +kernel) (fun _ _ _ h => h) (by rfl) ?ta20 ?sa20 ?_
  case ta20 => (intro w' h; clear h; go_simp; try rfl)
  case sa20 => exact trivial
  (try simp only [Act.put, List.setIfInBounds_toArray, List.set_cons_zero, List.set_cons_succ])
  refine wpAnyZ_take [6] (i := 1) (v := ?va21) (by simp only [List.getElem?_toArray, List.getElem?_cons_succ, List.getElem?_cons_zero]; rfl) (by decide +kernel) (fun _ _ _ h => h) (by rfl) ?ta21 ?sa21 ?_
  case ta21 => (intro w' h; clear h; go_simp; try rfl)
  case sa21 => exact trivial
  (try simp only [Act.put, List.setIfInBounds_toArray, List.set_cons_zero, List.set_cons_succ])
  refine wpAnyZ_take [6] (i := 2) (v := ?va22) (by simp only [List.getElem?_toArray, List.getElem?_cons_succ, List.getElem?_cons_zero]; rfl) (by decide +kernel) (fun _ _ _ h => h) (by rfl) ?ta22 ?sa22 ?_
  case ta22 => (intro w' h; clear h; go_simp; try rfl)
  case sa22 => exact trivial
  (try simp only [Act.put, List.setIfInBounds_toArray, List.set_cons_zero, List.set_cons_succ])
  refine wpAnyZ_take [6, 5] (i := 4) (v := ?va24) (by simp only [List.getElem?_toArray, List.getElem?_cons_succ, List.getElem?_cons_zero]; rfl) (by decide +kernel) (fun _ _ _ h => h) (by rfl) ?ta24 ?sa24 ?_
  case ta24 => (intro w' h; clear h; go_simp; try rfl)
  case sa24 => exact trivial
  (try simp only [Act.put, List.setIfInBounds_toArray, List.set_cons_zero, List.set_cons_succ])
  refine wpAnyZ_take [6] (i := 5) (v := ?va25) (by simp only [List.getElem?_toArray, List.getElem?_cons_succ, List.getElem?_cons_zero]; rfl) (by decide +kernel) (fun _ _ _ h => h) (by rfl) ?ta25 ?sa25 ?_
  case ta25 => (intro w' h; clear h; go_simp; try rfl)
  case sa25 => exact trivial
  (try simp only [Act.put, List.setIfInBounds_toArray, List.set_cons_zero, List.set_cons_succ])
  refine wpAnyZ_one (i := 3) (by decide +kernel) ?_
  refine wpOpK_call (by simp only [List.getElem?_toArray, List.getElem?_cons_succ, List.getElem?_cons_zero]; rfl) (by rfl) (by go_simp; first | exact ⟨rfl, rfl⟩ | rfl) ?_
  refine (HC.out).mono ?_
  rintro e w2 ⟨rfl, hs⟩
  have G2 := Lib.hid (D2.out.next tyRd hs)
  clear hs HC
  simp only at G2
  refine ⟨_, rfl, .inr trivial, ?_⟩
  (try simp only [Act.put, List.setIfInBounds_toArray, List.set_cons_zero, List.set_cons_succ])
  refine wpAnyZ_take [] (i := 6) (v := ?va26) (by simp only [List.getElem?_toArray, List.getElem?_cons_succ, List.getElem?_cons_zero]; rfl) (by decide +kernel) (fun _ _ _ h => h) (by rfl) ?ta26 ?sa26 ?_
  case ta26 => (intro w' h; clear h; go_simp; try rfl)
  case sa26 => exact trivial
  (try simp only [Act.put, List.setIfInBounds_toArray, List.set_cons_zero, List.set_cons_succ])
  have c16 := G2.out.cell (j := 16) rfl
  have f16 := G2.out.free 16
  have zx2 := G2.out.lt
  refine wpAnyZ_one (i := 7) (by decide +kernel) ?_
  refine wpOpK_skip (w' := w2.setCell ⟨xb, 16, none⟩ (.int .i64 v2)) (by simp only [List.getElem?_toArray, List.getElem?_cons_succ, List.getElem?_cons_zero]; rfl) (by rfl) ?ma27 ⟨.inl rfl, ?_⟩
  case ma27 => (go_simp; try rfl)
  (try simp only [Act.put, List.setIfInBounds_toArray, List.set_cons_zero, List.set_cons_succ])
  refine wpAnyZ_done (by kernel_rfl) (NoPanic.normal ?_) _
  obtain ⟨x2, hx2⟩ : ∃ x, x = w2.setCell ⟨xb, 16, none⟩ (.int .i64 v2) := ⟨_, rfl⟩
  have H2 := Lib.hid (G2.out.store tyRd 16 (.int .i64 v2))
  rw [← hx2] at H2 ⊢
  have hxs2 := Lib.hid hx2.symm
  clear hx2 c16 f16 zx2 G2 D2 H1
  go_wp2
  rw [rounds_succ]
  have D3 := Lib.hid (H2.out.quiet (Below.drew (Below.refl _ _)))
  have HC := Lib.hid (rd_number w0 x2.drew rb sv B s2 D3.out.rd)
  obtain ⟨r3, hr3⟩ : ∃ r, r = numR B s2 := ⟨_, rfl⟩
  rw [← hr3] at HC
  have hb3 := numR_range hby s2
  rw [← hr3] at hb3
  have HR3 := Lib.hid hr3
  obtain ⟨v3, s3⟩ := r3
  simp only at hb3
  obtain ⟨hb3a, hb3b⟩ := hb3
  clear hr3
  go_upto_region 3 with (fail)
  refine wp_region_noPanic ?_
  refine wp_region_Z (fun _ => True) 7 (by kernel_rfl) ?_
  change wpAnyZ _ _ _ _ _ _ 8 (Array.replicate 8 false) _ _
  refine wpAnyZ_take [6] (i := 0) (v := ?va30) (by simp only [List.getElem?_toArray, List.getElem?_cons_succ, List.getElem?_cons_zero]; rfl) (by decide +kernel) (fun _ _ _ h => h) (by rfl) ?ta30 ?sa30 ?_
  case ta30 => (intro w' h; clear h; go_simp; try rfl)
  case sa30 => exact trivial
  (try simp only [Act.put, List.setIfInBounds_toArray, List.set_cons_zero, List.set_cons_succ])
  refine wpAnyZ_take [6] (i := 1) (v := ?va31) (by simp only [List.getElem?_toArray, List.getElem?_cons_succ, List.getElem?_cons_zero]; rfl) (by decide +kernel) (fun _ _ _ h => h) (by rfl) ?ta31 ?sa31 ?_
  case ta31 => (intro w' h; clear h; go_simp; try rfl)
  case sa31 => exact trivial
  (try simp only [Act.put, List.setIfInBounds_toArray, List.set_cons_zero, List.set_cons_succ])
  refine wpAnyZ_take [6] (i := 2) (v := ?va32) (by simp only [List.getElem?_toArray, List.getElem?_cons_succ, List.getElem?_cons_zero]; rfl) (by decide +kernel) (fun _ _ _ h => h) (by rfl) ?ta32 ?sa32 ?_
  case ta32 => (intro w' h; clear h; go_simp; try rfl)
  case sa32 => exact trivial
  (try simp only [Act.put, List.setIfInBounds_toArray, List.set_cons_zero, List.set_cons_succ])
  refine wpAnyZ_take [6, 5] (i := 4) (v := ?va34) (by simp only [List.getElem?_toArray, List.getElem?_cons_succ, List.getElem?_cons_zero]; rfl) (by decide +kernel) (fun _ _ _ h => h) (by rfl) ?ta34 ?sa34 ?_
  case ta34 => (intro w' h; clear h; go_simp; try rfl)
  case sa34 => exact trivial
  (try simp only [Act.put, List.setIfInBounds_toArray, List.set_cons_zero, List.set_cons_succ])
  refine wpAnyZ_take [6] (i := 5) (v := ?va35) (by simp only [List.getElem?_toArray, List.getElem?_cons_succ, List.getElem?_cons_zero]; rfl) (by decide +kernel) (fun _ _ _ h => h) (by rfl) ?ta35 ?sa35 ?_
  case ta35 => (intro w' h; clear h; go_simp; try rfl)
  case sa35 => exact trivial
  (try simp only [Act.put, List.setIfInBounds_toArray, List.set_cons_zero, List.set_cons_succ])
  refine wpAnyZ_one (i := 3) (by decide +kernel) ?_
  refine wpOpK_call (by simp only [List.getElem?_toArray, List.getElem?_cons_succ, List.getElem?_cons_zero]; rfl) (by rfl) (by go_simp; first | exact ⟨rfl, rfl⟩ | rfl) ?_
  refine (HC.out).mono ?_
  rintro e w3 ⟨rfl, hs⟩
  have G3 := Lib.hid (D3.out.next tyRd hs)
  clear hs HC
  simp only at G3
  refine ⟨_, rfl, .inr trivial, ?_⟩
  (try simp only [Act.put, List.setIfInBounds_toArray, List.set_cons_zero, List.set_cons_succ])
  refine wpAnyZ_take [] (i := 6) (v := ?va36) (by simp only [List.getElem?_toArray, List.getElem?_cons_succ, List.getElem?_cons_zero]; rfl) (by decide +kernel) (fun _ _ _ h => h) (by rfl) ?ta36 ?sa36 ?_
  case ta36 => (intro w' h; clear h; go_simp; try rfl)
  case sa36 => exact trivial
  (try simp only [Act.put, List.setIfInBounds_toArray, List.set_cons_zero, List.set_cons_succ])
  have c17 := G3.out.cell (j := 17) rfl
  have f17 := G3.out.free 17
  have zx3 := G3.out.lt
  refine wpAnyZ_one (i := 7) (by decide +kernel) ?_
  refine wpOpK_skip (w' := w3.setCell ⟨xb, 17, none⟩ (.int .i64 v3)) (by simp only [List.getElem?_toArray, List.getElem?_cons_succ, List.getElem?_cons_zero]; rfl) (by rfl) ?ma37 ⟨.inl rfl, ?_⟩
  case ma37 => (go_simp; try rfl)
  (try simp only [Act.put, List.setIfInBounds_toArray, List.set_cons_zero, List.set_cons_succ])
  refine wpAnyZ_done (by kernel_rfl) (NoPanic.normal ?_) _
  obtain ⟨x3, hx3⟩ : ∃ x, x = w3.setCell ⟨xb, 17, none⟩ (.int .i64 v3) := ⟨_, rfl⟩
  have H3 := Lib.hid (G3.out.store tyRd 17 (.int .i64 v3))
  rw [← hx3] at H3 ⊢
  have hxs3 := Lib.hid hx3.symm
  clear hx3 c17 f17 zx3 G3 D3 H2
  go_wp2
  rw [rounds_succ]
  have D4 := Lib.hid (H3.out.quiet (Below.drew (Below.refl _ _)))
  have HC := Lib.hid (rd_number w0 x3.drew rb sv B s3 D4.out.rd)
  obtain ⟨r4, hr4⟩ : ∃ r, r = numR B s3 := ⟨_, rfl⟩
  rw [← hr4] at HC
  have hb4 := numR_range hby s3
  rw [← hr4] at hb4
  have HR4 := Lib.hid hr4
  obtain ⟨v4, s4⟩ := r4
  simp only at hb4
  obtain ⟨hb4a, hb4b⟩ := hb4
  clear hr4
  go_upto_region 3 with (fail)
  refine wp_region_noPanic ?_
  refine wp_region_Z (fun _ => True) 7 (by kernel_rfl) ?_
  change wpAnyZ _ _ _ _ _ _ 8 (Array.replicate 8 false) _ _
  refine wpAnyZ_take [6] (i := 0) (v := ?va40) (by simp only [List.getElem?_toArray, List.getElem?_cons_succ, List.getElem?_cons_zero]; rfl) (by decide +kernel) (fun _ _ _ h => h) (by rfl) ?ta40 ?sa40 ?_
  case ta40 => (intro w' h; clear h; go_simp; try rfl)
  case sa40 => exact trivial
  (try simp only [Act.put, List.setIfInBounds_toArray, List.set_cons_zero, List.set_cons_succ])
  refine wpAnyZ_take [6] (i := 1) (v := ?va41) (by simp only [List.getElem?_toArray, List.getElem?_cons_succ, List.getElem?_cons_zero]; rfl) (by decide +kernel) (fun _ _ _ h => h) (by rfl) ?ta41 ?sa41 ?_
  case ta41 => (intro w' h; clear h; go_simp; try rfl)
  case sa41 => exact trivial
  (try simp only [Act.put, List.setIfInBounds_toArray, List.set_cons_zero, List.set_cons_succ])
  refine wpAnyZ_take [6] (i := 2) (v := ?va42) (by simp only [List.getElem?_toArray, List.getElem?_cons_succ, List.getElem?_cons_zero]; rfl) (by decide +kernel) (fun _ _ _ h => h) (by rfl) ?ta42 ?sa42 ?_
  case ta42 => (intro w' h; clear h; go_simp; try rfl)
  case sa42 => exact trivial
  (try simp only [Act.put, List.setIfInBounds_toArray, List.set_cons_zero, List.set_cons_succ])
  refine wpAnyZ_take [6, 5] (i := 4) (v := ?va44) (by simp only [List.getElem?_toArray, List.getElem?_cons_succ, List.getElem?_cons_zero]; rfl) (by decide +kernel) (fun _ _ _ h => h) (by rfl) ?ta44 ?sa44 ?_
  case ta44 => (intro w' h; clear h; go_simp; try rfl)
  case sa44 => exact trivial
  (try simp only [Act.put, List.setIfInBounds_toArray, List.set_cons_zero, List.set_cons_succ])
  refine wpAnyZ_take [6] (i := 5) (v := ?va45) (by simp only [List.getElem?_toArray, List.getElem?_cons_succ, List.getElem?_cons_zero]; rfl) (by decide +kernel) (fun _ _ _ h => h) (by rfl) ?ta45 ?sa45 ?_
  case ta45 => (intro w' h; clear h; go_simp; try rfl)
  case sa45 => exact trivial
  (try simp only [Act.put, List.setIfInBounds_toArray, List.set_cons_zero, List.set_cons_succ])
  refine wpAnyZ_one (i := 3) (by decide +kernel) ?_
  refine wpOpK_call (by simp only [List.getElem?_toArray, List.getElem?_cons_succ, List.getElem?_cons_zero]; rfl) (by rfl) (by go_simp; first | exact ⟨rfl, rfl⟩ | rfl) ?_
  refine (HC.out).mono ?_
  rintro e w4 ⟨rfl, hs⟩
  have G4 := Lib.hid (D4.out.next tyRd hs)
  clear hs HC
  simp only at G4
  refine ⟨_, rfl, .inr trivial, ?_⟩
  (try simp only [Act.put, List.setIfInBounds_toArray, List.set_cons_zero, List.set_cons_succ])
  refine wpAnyZ_take [] (i := 6) (v := ?va46) (by simp only [List.getElem?_toArray, List.getElem?_cons_succ, List.getElem?_cons_zero]; rfl) (by decide +kernel) (fun _ _ _ h => h) (by rfl) ?ta46 ?sa46 ?_
  case ta46 => (intro w' h; clear h; go_simp; try rfl)
  case sa46 => exact trivial
  (try simp only [Act.put, List.setIfInBounds_toArray, List.set_cons_zero, List.set_cons_succ])
  have c18 := G4.out.cell (j := 18) rfl
  have f18 := G4.out.free 18
  have zx4 := G4.out.lt
  refine wpAnyZ_one (i := 7) (by decide +kernel) ?_
  refine wpOpK_skip (w' := w4.setCell ⟨xb, 18, none⟩ (.int .i64 v4)) (by simp only [List.getElem?_toArray, List.getElem?_cons_succ, List.getElem?_cons_zero]; rfl) (by rfl) ?ma47 ⟨.inl rfl, ?_⟩
  case ma47 => (go_simp; try rfl)
  (try simp only [Act.put, List.setIfInBounds_toArray, List.set_cons_zero, List.set_cons_succ])
  refine wpAnyZ_done (by kernel_rfl) (NoPanic.normal ?_) _
  obtain ⟨x4, hx4⟩ : ∃ x, x = w4.setCell ⟨xb, 18, none⟩ (.int .i64 v4) := ⟨_, rfl⟩
  have H4 := Lib.hid (G4.out.store tyRd 18 (.int .i64 v4))
  rw [← hx4] at H4 ⊢
  have hxs4 := Lib.hid hx4.symm
  clear hx4 c18 f18 zx4 G4 D4 H3
  go_wp2
  rw [rounds_succ]
  go_wp2
  have E := Lib.hid (show partR y 8 B s = ({ y with p0 := v1, p1 := v2, p2 := v3, p3 := v4 }, s4) from by show (_, _) = _; rw [← HR1.out]; simp only; rw [← HR2.out]; simp only; rw [← HR3.out]; simp only; rw [← HR4.out])
  first | exact bodyPost_end (v := .tuple #[]) (results_none rfl _ _ _) rfl (get_mk E.out H4.out) | exact bodyPost_ret (v := .tuple #[]) (results_none rfl _ _ _) rfl (get_mk E.out H4.out)
set_option maxRecDepth 100000 in
set_option maxHeartbeats 8000000 in
theorem get12 (w0 W : World) (rb : Nat) (sv : Value) (B : List Int) (s : Rs) (xb : Nat) (y : Nd) (kv cv : Value) (hr : RdAt 100 w0 W rb sv B s) (hn : NdO w0.heap.size W xb (ndV y kv cv).toArray y.kids y.cols kv cv) : Calls Try.prog 104 #[.pointer (some ⟨rb, 0, none⟩), .pointer (some ⟨xb, 0, none⟩)] W (GetPost 100 w0 W rb sv B xb kv cv (partR y 12 B s)) := by
  have hby := hr.byte
  have H0 := Lib.hid (GetS.refl hr hn)
  clear hr hn
  go_enter Try.func104, Try.ntmps104
  go_wp2
  refine wp_loop_rounds 5 ?_
  rw [rounds_succ]
  have D1 := Lib.hid (H0.out.quiet (Below.drew (Below.refl _ _)))
  have HC := Lib.hid (rd_signed w0 W.drew rb sv B s D1.out.rd)
  obtain ⟨r1, hr1⟩ : ∃ r, r = sgnR B s := ⟨_, rfl⟩
  rw [← hr1] at HC
  have hb1 := unS_range (numR_range hby s).1 (numR_range hby s).2
  have hb1 : -2147483648 ≤ (sgnR B s).1 ∧ (sgnR B s).1 < 2147483648 := hb1
  rw [← hr1] at hb1
  have HR1 := Lib.hid hr1
  obtain ⟨v1, s1⟩ := r1
  simp only at hb1
  obtain ⟨hb1a, hb1b⟩ := hb1
  clear hr1
  go_upto_region 3 with (fail)
  refine wp_region_noPanic ?_
  refine wp_region_Z (fun _ => True) 7 (by kernel_rfl) ?_
  change wpAnyZ _ _ _ _ _ _ 8 (Array.replicate 8 false) _ _
  refine wpAnyZ_take [6] (i := 0) (v := ?va10) (by simp only [List.getElem?_toArray, List.getElem?_cons_succ, List.getElem?_cons_zero]; rfl) (by decide +kernel) (fun _ _ _ h => h) (by rfl) ?ta10 ?sa10 ?_
  case ta10 => (intro w' h; clear h; go_simp; try rfl)
  case sa10 => exact trivial
  (try simp only [Act.put, List.setIfInBounds_toArray, List.set_cons_zero, List.set_cons_succ])
  refine wpAnyZ_take [6] (i := 1) (v := ?va11) (by simp only [List.getElem?_toArray, List.getElem?_cons_succ, List.getElem?_cons_zero]; rfl) (by decide +kernel) (fun _ _ _ h => h) (by rfl) ?ta11 ?sa11 ?_
  case ta11 => (intro w' h; clear h; go_simp; try rfl)
  case sa11 => exact trivial
  (try simp only [Act.put, List.setIfInBounds_toArray, List.set_cons_zero, List.set_cons_succ])
  refine wpAnyZ_take [6] (i := 2) (v := ?va12) (by simp only [List.getElem?_toArray, List.getElem?_cons_succ, List.getElem?_cons_zero]; rfl) (by decide +kernel) (fun _ _ _ h => h) (by rfl) ?ta12 ?sa12 ?_
  case ta12 => (intro w' h; clear h; go_simp; try rfl)
  case sa12 => exact trivial
  (try simp only [Act.put, List.setIfInBounds_toArray, List.set_cons_zero, List.set_cons_succ])
  refine wpAnyZ_take [6, 5] (i := 4) (v := ?va14) (by simp only [List.getElem?_toArray, List.getElem?_cons_succ, List.getElem?_cons_zero]; rfl) (by decide +kernel) (fun _ _ _ h => h) (by rfl) ?ta14 ?sa14 ?_
  case ta14 => (intro w' h; clear h; go_simp; try rfl)
  case sa14 => exact trivial
  (try simp only [Act.put, List.setIfInBounds_toArray, List.set_cons_zero, List.set_cons_succ])
  refine wpAnyZ_take [6] (i := 5) (v := ?va15) (by simp only [List.getElem?_toArray, List.getElem?_cons_succ, List.getElem?_cons_zero]; rfl) (by decide +kernel) (fun _ _ _ h => h) (by rfl) ?ta15 ?sa15 ?_
  case ta15 => (intro w' h; clear h; go_simp; try rfl)
  case sa15 => exact trivial
  (try simp only [Act.put, List.setIfInBounds_toArray, List.set_cons_zero, List.set_cons_succ])
  refine wpAnyZ_one (i := 3) (by decide +kernel) ?_
  refine wpOpK_call (by simp only [List.getElem?_toArray, List.getElem?_cons_succ, List.getElem?_cons_zero]; rfl) (by rfl) (by go_simp; first | exact ⟨rfl, rfl⟩ | rfl) ?_
  refine (HC.out).mono ?_
  rintro e w1 ⟨rfl, hs⟩
  have G1 := Lib.hid (D1.out.next tyRd hs)
  clear hs HC
  simp only at G1
  refine ⟨_, rfl, .inr trivial, ?_⟩
  (try simp only [Act.put, List.setIfInBounds_toArray, List.set_cons_zero, List.set_cons_succ])
  refine wpAnyZ_take [] (i := 6) (v := ?va16) (by simp only [List.getElem?_toArray, List.getElem?_cons_succ, List.getElem?_cons_zero]; rfl) (by decide +kernel) (fun _ _ _ h => h) (by rfl) ?ta16 ?sa16 ?_
  case ta16 => (intro w' h; clear h; go_simp; try rfl)
  case sa16 => exact trivial
  (try simp only [Act.put, List.setIfInBounds_toArray, List.set_cons_zero, List.set_cons_succ])
  have c29 := G1.out.cell (j := 29) rfl
  have f29 := G1.out.free 29
  have zx1 := G1.out.lt
  refine wpAnyZ_one (i := 7) (by decide +kernel) ?_
  refine wpOpK_skip (w' := w1.setCell ⟨xb, 29, none⟩ (.int .i64 v1)) (by simp only [List.getElem?_toArray, List.getElem?_cons_succ, List.getElem?_cons_zero]; rfl) (by rfl) ?ma17 ⟨.inl rfl, ?_⟩
  case ma17 => (go_simp; try rfl)
  (try simp only [Act.put, List.setIfInBounds_toArray, List.set_cons_zero, List.set_cons_succ])
  refine wpAnyZ_done (by kernel_rfl) (NoPanic.normal ?_) _
  obtain ⟨x1, hx1⟩ : ∃ x, x = w1.setCell ⟨xb, 29, none⟩ (.int .i64 v1) := ⟨_, rfl⟩
  have H1 := Lib.hid (G1.out.store tyRd 29 (.int .i64 v1))
  rw [← hx1] at H1 ⊢
  have hxs1 := Lib.hid hx1.symm
  clear hx1 c29 f29 zx1 G1 D1 H0
  go_wp2
  rw [rounds_succ]
  have D2 := Lib.hid (H1.out.quiet (Below.drew (Below.refl _ _)))
  have HC := Lib.hid (rd_signed w0 x1.drew rb sv B s1 D2.out.rd)
  obtain ⟨r2, hr2⟩ : ∃ r, r = sgnR B s1 := ⟨_, rfl⟩
  rw [← hr2] at HC
  have hb2 := unS_range (numR_range hby s1).1 (numR_range hby s1).2
  have hb2 : -2147483648 ≤ (sgnR B s1).1 ∧ (sgnR B s1).1 < 2147483648 := hb2
  rw [← hr2] at hb2
  have HR2 := Lib.hid hr2
  obtain ⟨v2, s2⟩ := r2
  simp only at hb2
  obtain ⟨hb2a, hb2b⟩ := hb2
  clear hr2
  go_upto_region 3 with (fail)
  refine wp_region_noPanic ?_
  refine wp_region_Z (fun _ => True) 7 (by kernel_rfl) ?_
  change wpAnyZ _ _ _ _ _ _ 8 (Array.replicate 8 false) _ _
  refine wpAnyZ_take [6] (i := 0) (v := ?va20) (by simp only [List.getElem?_toArray, List.getElem?_cons_succ, List.getElem?_cons_zero]; rfl) (by decide +kernel) (fun _ _ _ h => h) (by rfl) ?ta20 ?sa20 ?_
  case ta20 => (intro w' h; clear h; go_simp; try rfl)
  case sa20 => exact trivial
  (try simp only [Act.put, List.setIfInBounds_toArray, List.set_cons_zero, List.set_cons_succ])
  refine wpAnyZ_take [6] (i := 1) (v := ?va21) (by simp only [List.getElem?_toArray, List.getElem?_cons_succ, List.getElem?_cons_zero]; rfl) (by decide +kernel) (fun _ _ _ h => h) (by rfl) ?ta21 ?sa21 ?_
  case ta21 => (intro w' h; clear h; go_simp; try rfl)
  case sa21 => exact trivial
  (try simp only [Act.put, List.setIfInBounds_toArray, List.set_cons_zero, List.set_cons_succ])
  refine wpAnyZ_take [6] (i := 2) (v := ?va22) (by simp only [List.getElem?_toArray, List.getElem?_cons_succ, List.getElem?_cons_zero]; rfl) (by decide +kernel) (fun _ _ _ h => h) (by rfl) ?ta22 ?sa22 ?_
  case ta22 => (intro w' h; clear h; go_simp; try rfl)
  case sa22 => exact trivial
  (try simp only [Act.put, List.setIfInBounds_toArray, List.set_cons_zero, List.set_cons_succ])
  refine wpAnyZ_take [6, 5] (i := 4) (v := ?va24) (by simp only [List.getElem?_toArray, List.getElem?_cons_succ, List.getElem?_cons_zero]; rfl) (by decide +kernel) (fun _ _ _ h => h) (by rfl) ?ta24 ?sa24 ?_
  case ta24 => (intro w' h; clear h; go_simp; try rfl)
  case sa24 => exact trivial
  (try simp only [Act.put, List.setIfInBounds_toArray, List.set_cons_zero, List.set_cons_succ])
  refine wpAnyZ_take [6] (i := 5) (v := ?va25) (by simp only [List.getElem?_toArray, List.getElem?_cons_succ, List.getElem?_cons_zero]; rfl) (by decide +kernel) (fun _ _ _ h => h) (by rfl) ?ta25 ?sa25 ?_
  case ta25 => (intro w' h; clear h; go_simp; try rfl)
  case sa25 => exact trivial
  (try simp only [Act.put, List.setIfInBounds_toArray, List.set_cons_zero, List.set_cons_succ])
  refine wpAnyZ_one (i := 3) (by decide +kernel) ?_
  refine wpOpK_call (by simp only [List.getElem?_toArray, List.getElem?_cons_succ, List.getElem?_cons_zero]; rfl) (by rfl) (by go_simp; first | exact ⟨rfl, rfl⟩ | rfl) ?_
  refine (HC.out).mono ?_
  rintro e w2 ⟨rfl, hs⟩
  have G2 := Lib.hid (D2.out.next tyRd hs)
  clear hs HC
  simp only at G2
  refine ⟨_, rfl, .inr trivial, ?_⟩
  (try simp only [Act.put, List.setIfInBounds_toArray, List.set_cons_zero, List.set_cons_succ])
  refine wpAnyZ_take [] (i := 6) (v := ?va26) (by simp only [List.getElem?_toArray, List.getElem?_cons_succ, List.getElem?_cons_zero]; rfl) (by decide +kernel) (fun _ _ _ h => h) (by rfl) ?ta26 ?sa26 ?_
  case ta26 => (intro w' h; clear h; go_simp; try rfl)
  case sa26 => exact trivial
  (try simp only [Act.put, List.setIfInBounds_toArray, List.set_cons_zero, List.set_cons_succ])
  have c30 := G2.out.cell (j := 30) rfl
  have f30 := G2.out.free 30
  have zx2 := G2.out.lt
  refine wpAnyZ_one (i := 7) (by decide +kernel) ?_
  refine wpOpK_skip (w' := w2.setCell ⟨xb, 30, none⟩ (.int .i64 v2)) (by simp only [List.getElem?_toArray, List.getElem?_cons_succ, List.getElem?_cons_zero]; rfl) (by rfl) ?ma27 ⟨.inl rfl, ?_⟩
  case ma27 => (go_simp; try rfl)
  (try simp only [Act.put, List.setIfInBounds_toArray, List.set_cons_zero, List.set_cons_succ])
  refine wpAnyZ_done (by kernel_rfl) (NoPanic.normal ?_) _
  obtain ⟨x2, hx2⟩ : ∃ x, x = w2.setCell ⟨xb, 30, none⟩ (.int .i64 v2) := ⟨_, rfl⟩
  have H2 := Lib.hid (G2.out.store tyRd 30 (.int .i64 v2))
  rw [← hx2] at H2 ⊢
  have hxs2 := Lib.hid hx2.symm
  clear hx2 c30 f30 zx2 G2 D2 H1
  go_wp2
  rw [rounds_succ]
  have D3 := Lib.hid (H2.out.quiet (Below.drew (Below.refl _ _)))
  have HC := Lib.hid (rd_signed w0 x2.drew rb sv B s2 D3.out.rd)
  obtain ⟨r3, hr3⟩ : ∃ r, r = sgnR B s2 := ⟨_, rfl⟩
  rw [← hr3] at HC
  have hb3 := unS_range (numR_range hby s2).1 (numR_range hby s2).2
  have hb3 : -2147483648 ≤ (sgnR B s2).1 ∧ (sgnR B s2).1 < 2147483648 := hb3
  rw [← hr3] at hb3
  have HR3 := Lib.hid hr3
  obtain ⟨v3, s3⟩ := r3
  simp only at hb3
  obtain ⟨hb3a, hb3b⟩ := hb3
  clear hr3
  go_upto_region 3 with (fail)
  refine wp_region_noPanic ?_
  refine wp_region_Z (fun _ => True) 7 (by kernel_rfl) ?_
  change wpAnyZ _ _ _ _ _ _ 8 (Array.replicate 8 false) _ _
  refine wpAnyZ_take [6] (i := 0) (v := ?va30) (by simp only [List.getElem?_toArray, List.getElem?_cons_succ, List.getElem?_cons_zero]; rfl) (by decide +kernel) (fun _ _ _ h => h) (by rfl) ?ta30 ?sa30 ?_
  case ta30 => (intro w' h; clear h; go_simp; try rfl)
  case sa30 => exact trivial
  (try simp only [Act.put, List.setIfInBounds_toArray, List.set_cons_zero, List.set_cons_succ])
  refine wpAnyZ_take [6] (i := 1) (v := ?va31) (by simp only [List.getElem?_toArray, List.getElem?_cons_succ, List.getElem?_cons_zero]; rfl) (by decide +kernel) (fun _ _ _ h => h) (by rfl) ?ta31 ?sa31 ?_
  case ta31 => (intro w' h; clear h; go_simp; try rfl)
  case sa31 => exact trivial
  (try simp only [Act.put, List.setIfInBounds_toArray, List.set_cons_zero, List.set_cons_succ])
  refine wpAnyZ_take [6] (i := 2) (v := ?va32) (by simp only [List.getElem?_toArray, List.getElem?_cons_succ, List.getElem?_cons_zero]; rfl) (by decide +kernel) (fun _ _ _ h => h) (by rfl) ?ta32 ?sa32 ?_
  case ta32 => (intro w' h; clear h; go_simp; try rfl)
  case sa32 => exact trivial
  (try simp only [Act.put, List.setIfInBounds_toArray, List.set_cons_zero, List.set_cons_succ])
  refine wpAnyZ_take [6, 5] (i := 4) (v := ?va34) (by simp only [List.getElem?_toArray, List.getElem?_cons_succ, List.getElem?_cons_zero]; rfl) (by decide +kernel) (fun _ _ _ h => h) (by rfl) ?ta34 ?sa34 ?_
  case ta34 => (intro w' h; clear h; go_simp; try rfl)
  case sa34 => exact trivial
  (try simp only [Act.put, List.setIfInBounds_toArray, List.set_cons_zero, List.set_cons_succ])
  refine wpAnyZ_take [6] (i := 5) (v := ?va35) (by simp only [List.getElem?_toArray, List.getElem?_cons_succ, List.getElem?_cons_zero]; rfl) (by decide +kernel) (fun _ _ _ h => h) (by rfl) ?ta35 ?sa35 ?_
  case ta35 => (intro w' h; clear h; go_simp; try rfl)
  case sa35 => exact trivial
  (try simp only [Act.put, List.setIfInBounds_toArray, List.set_cons_zero, List.set_cons_succ])
  refine wpAnyZ_one (i := 3) (by decide +kernel) ?_
  refine wpOpK_call (by simp only [List.getElem?_toArray, List.getElem?_cons_succ, List.getElem?_cons_zero]; rfl) (by rfl) (by go_simp; first | exact ⟨rfl, rfl⟩ | rfl) ?_
  refine (HC.out).mono ?_
  rintro e w3 ⟨rfl, hs⟩
  have G3 := Lib.hid (D3.out.next tyRd hs)
  clear hs HC
  simp only at G3
  refine ⟨_, rfl, .inr trivial, ?_⟩
  (try simp only [Act.put, List.setIfInBounds_toArray, List.set_cons_zero, List.set_cons_succ])
  refine wpAnyZ_take [] (i := 6) (v := ?va36) (by simp only [List.getElem?_toArray, List.getElem?_cons_succ, List.getElem?_cons_zero]; rfl) (by decide +kernel) (fun _ _ _ h => h) (by rfl) ?ta36 ?sa36 ?_
  case ta36 => (intro w' h; clear h; go_simp; try rfl)
  case sa36 => exact trivial
  (try simp only [Act.put, List.setIfInBounds_toArray, List.set_cons_zero, List.set_cons_succ])
  have c31 := G3.out.cell (j := 31) rfl
  have f31 := G3.out.free 31
  have zx3 := G3.out.lt
  refine wpAnyZ_one (i := 7) (by decide +kernel) ?_
  refine wpOpK_skip (w' := w3.setCell ⟨xb, 31, none⟩ (.int .i64 v3)) (by simp only [List.getElem?_toArray, List.getElem?_cons_succ, List.getElem?_cons_zero]; rfl) (by rfl) ?ma37 ⟨.inl rfl, ?_⟩
  case ma37 => (go_simp; try rfl)
  (try simp only [Act.put, List.setIfInBounds_toArray, List.set_cons_zero, List.set_cons_succ])
  refine wpAnyZ_done (by kernel_rfl) (NoPanic.normal ?_) _
  obtain ⟨x3, hx3⟩ : ∃ x, x = w3.setCell ⟨xb, 31, none⟩ (.int .i64 v3) := ⟨_, rfl⟩
  have H3 := Lib.hid (G3.out.store tyRd 31 (.int .i64 v3))
  rw [← hx3] at H3 ⊢
  have hxs3 := Lib.hid hx3.symm
  clear hx3 c31 f31 zx3 G3 D3 H2
  go_wp2
  rw [rounds_succ]
  have D4 := Lib.hid (H3.out.quiet (Below.drew (Below.refl _ _)))
  have HC := Lib.hid (rd_signed w0 x3.drew rb sv B s3 D4.out.rd)
  obtain ⟨r4, hr4⟩ : ∃ r, r = sgnR B s3 := ⟨_, rfl⟩
  rw [← hr4] at HC
  have hb4 := unS_range (numR_range hby s3).1 (numR_range hby s3).2
  have hb4 : -2147483648 ≤ (sgnR B s3).1 ∧ (sgnR B s3).1 < 2147483648 := hb4
  rw [← hr4] at hb4
  have HR4 := Lib.hid hr4
  obtain ⟨v4, s4⟩ := r4
  simp only at hb4
  obtain ⟨hb4a, hb4b⟩ := hb4
  clear hr4
  go_upto_region 3 with (fail)
  refine wp_region_noPanic ?_
  refine wp_region_Z (fun _ => True) 7 (by kernel_rfl) ?_
  change wpAnyZ _ _ _ _ _ _ 8 (Array.replicate 8 false) _ _
  refine wpAnyZ_take [6] (i := 0) (v := ?va40) (by simp only [List.getElem?_toArray, List.getElem?_cons_succ, List.getElem?_cons_zero]; rfl) (by decide +kernel) (fun _ _ _ h => h) (by rfl) ?ta40 ?sa40 ?_
  case ta40 => (intro w' h; clear h; go_simp; try rfl)
  case sa40 => exact trivial
  (try simp only [Act.put, List.setIfInBounds_toArray, List.set_cons_zero, List.set_cons_succ])
  refine wpAnyZ_take [6] (i := 1) (v := ?va41) (by simp only [List.getElem?_toArray, List.getElem?_cons_succ, List.getElem?_cons_zero]; rfl) (by decide +kernel) (fun _ _ _ h => h) (by rfl) ?ta41 ?sa41 ?_
  case ta41 => (intro w' h; clear h; go_simp; try rfl)
  case sa41 => exact trivial
  (try simp only [Act.put, List.setIfInBounds_toArray, List.set_cons_zero, List.set_cons_succ])
  refine wpAnyZ_take [6] (i := 2) (v := ?va42) (by simp only [List.getElem?_toArray, List.getElem?_cons_succ, List.getElem?_cons_zero]; rfl) (by decide +kernel) (fun _ _ _ h => h) (by rfl) ?ta42 ?sa42 ?_
  case ta42 => (intro w' h; clear h; go_simp; try rfl)
  case sa42 => exact trivial
  (try simp only [Act.put, List.setIfInBounds_toArray, List.set_cons_zero, List.set_cons_succ])
  refine wpAnyZ_take [6, 5] (i := 4) (v := ?va44) (by simp only [List.getElem?_toArray, List.getElem?_cons_succ, List.getElem?_cons_zero]; rfl) (by decide +kernel) (fun _ _ _ h => h) (by rfl) ?ta44 ?sa44 ?_
  case ta44 => (intro w' h; clear h; go_simp; try rfl)
  case sa44 => exact trivial
  (try simp only [Act.put, List.setIfInBounds_toArray, List.set_cons_zero, List.set_cons_succ])
  refine wpAnyZ_take [6] (i := 5) (v := ?va45) (by simp only [List.getElem?_toArray, List.getElem?_cons_succ, List.getElem?_cons_zero]; rfl) (by decide +kernel) (fun _ _ _ h => h) (by rfl) ?ta45 ?sa45 ?_
  case ta45 => (intro w' h; clear h; go_simp; try rfl)
  case sa45 => exact trivial
  (try simp only [Act.put, List.setIfInBounds_toArray, List.set_cons_zero, List.set_cons_succ])
  refine wpAnyZ_one (i := 3) (by decide +kernel) ?_
  refine wpOpK_call (by simp only [List.getElem?_toArray, List.getElem?_cons_succ, List.getElem?_cons_zero]; rfl) (by rfl) (by go_simp; first | exact ⟨rfl, rfl⟩ | rfl) ?_
  refine (HC.out).mono ?_
  rintro e w4 ⟨rfl, hs⟩
  have G4 := Lib.hid (D4.out.next tyRd hs)
  clear hs HC
  simp only at G4
  refine ⟨_, rfl, .inr trivial, ?_⟩
  (try simp only [Act.put, List.setIfInBounds_toArray, List.set_cons_zero, List.set_cons_succ])
  refine wpAnyZ_take [] (i := 6) (v := ?va46) (by simp only [List.getElem?_toArray, List.getElem?_cons_succ, List.getElem?_cons_zero]; rfl) (by decide +kernel) (fun _ _ _ h => h) (by rfl) ?ta46 ?sa46 ?_
  case ta46 => (intro w' h; clear h; go_simp; try rfl)
  case sa46 => exact trivial
  (try simp only [Act.put, List.setIfInBounds_toArray, List.set_cons_zero, List.set_cons_succ])
  have c32 := G4.out.cell (j := 32) rfl
  have f32 := G4.out.free 32
  have zx4 := G4.out.lt
  refine wpAnyZ_one (i := 7) (by decide +kernel) ?_
  refine wpOpK_skip (w' := w4.setCell ⟨xb, 32, none⟩ (.int .i64 v4)) (by simp only [List.getElem?_toArray, List.getElem?_cons_succ, List.getElem?_cons_zero]; rfl) (by rfl) ?ma47 ⟨.inl rfl, ?_⟩
  case ma47 => (go_simp; try rfl)
  (try simp only [Act.put, List.setIfInBounds_toArray, List.set_cons_zero, List.set_cons_succ])
  refine wpAnyZ_done (by kernel_rfl) (NoPanic.normal ?_) _
  obtain ⟨x4, hx4⟩ : ∃ x, x = w4.setCell ⟨xb, 32, none⟩ (.int .i64 v4) := ⟨_, rfl⟩
  have H4 := Lib.hid (G4.out.store tyRd 32 (.int .i64 v4))
  rw [← hx4] at H4 ⊢
  have hxs4 := Lib.hid hx4.symm
  clear hx4 c32 f32 zx4 G4 D4 H3
  go_wp2
  rw [rounds_succ]
  go_wp2
  have E := Lib.hid (show partR y 12 B s = ({ y with x0 := v1, x1 := v2, x2 := v3, x3 := v4 }, s4) from by show (_, _) = _; rw [← HR1.out]; simp only; rw [← HR2.out]; simp only; rw [← HR3.out]; simp only; rw [← HR4.out])
  first | exact bodyPost_end (v := .tuple #[]) (results_none rfl _ _ _) rfl (get_mk E.out H4.out) | exact bodyPost_ret (v := .tuple #[]) (results_none rfl _ _ _) rfl (get_mk E.out H4.out)
set_option maxRecDepth 100000 in
set_option maxHeartbeats 8000000 in
theorem get4 (w0 W : World) (rb : Nat) (sv : Value) (B : List Int) (s : Rs) (xb : Nat) (y : Nd) (kv cv : Value) (hr : RdAt 100 w0 W rb sv B s) (hn : NdO w0.heap.size W xb (ndV y kv cv).toArray y.kids y.cols kv cv) (hnil : y.kids = []) : Calls Try.prog 85 #[.pointer (some ⟨rb, 0, none⟩), .pointer (some ⟨xb, 0, none⟩)] W (GetPost 100 w0 W rb sv B xb kv cv (partR y 4 B s)) := by
  obtain ⟨i0, hi, hz0, hz1, hz2⟩ := info_parts infoInt_
  have HI := Lib.hid (And.intro hi (And.intro hz0 (And.intro hz1 hz2)))
  have hby := hr.byte
  have hle := hr.len
  have H0 := Lib.hid (GetS.refl hr hn)
  rw [hnil] at H0
  clear hr hn hi hz0 hz1 hz2
  have HC := Lib.hid (rd_number w0 W rb sv B s H0.out.rd)
  obtain ⟨r1, hr1⟩ : ∃ r, r = numR B s := ⟨_, rfl⟩
  rw [← hr1] at HC
  have hb1 := numR_range hby s
  rw [← hr1] at hb1
  have HR1 := Lib.hid hr1
  obtain ⟨v1, s1⟩ := r1
  simp only at hb1
  obtain ⟨hb1a, hb1b⟩ := hb1
  clear hr1
  obtain ⟨n, rfl⟩ := Int.eq_ofNat_of_zero_le hb1a
  obtain ⟨res, hres⟩ : ∃ r, r = manyR numR n B s1 := ⟨_, rfl⟩
  have E := Lib.hid (show partR y 4 B s = ({ y with kids := res.1 }, res.2) from by show (_, _) = _; rw [← HR1.out]; simp only [Int.toNat_natCast]; rw [← hres])
  have HRES := Lib.hid (show (([] : List Int) ++ (manyR numR n B s1).1, (manyR numR n B s1).2) = res by rw [List.nil_append, hres])
  clear hres HR1
  go_enter Try.func85, Try.ntmps85
  go_wp2_with fail
  refine HC.out.mono ?_
  clear HC
  rintro e w1 ⟨rfl, hs⟩
  have H1 := Lib.hid (H0.out.next tyRd hs)
  clear hs H0
  simp only at H1 ⊢
  have hat : s1.at_ ≤ B.length := H1.out.rd.at_
  go_wp2
  go_loopw [4] (fun nv wr => ∃ (r : Nat) (l : List Int) (s2 : Rs) (kv1 : Value), nv = .int .i64 r ∧ r < 2147483648 ∧ RowKit.Hid (GetS 100 w0 W rb sv B xb kv cv s2 (ndV y kv1 cv).toArray l y.cols kv1 cv wr) ∧ RowKit.Hid ((l ++ (manyR numR r B s2).1, (manyR numR r B s2).2) = res) ∧ l.length ≤ B.length + 1 ∧ RowKit.Hid (s2.code = 0 → l.length ≤ s2.at_)) (fun nv _ => (intOf nv).toNat)
  case atStart => exact ⟨n, [], s1, kv, rfl, by omega, H1, HRES, by simp, Lib.hid (fun _ => by simp)⟩
  case round =>
    clear H1 HRES hb1a hb1b hat
    obtain ⟨r, l, s2, kv1, rfl, hr31, HS, HE, hll, HLC⟩ := hrel
    have k2 : wr.cell? ⟨rb, 2, none⟩ = some (.int .i64 s2.code) := HS.out.rd.cells.2.2.1
    have k3 := HS.out.rd.lt
    have hat : s2.at_ ≤ B.length := HS.out.rd.at_
    rcases Nat.eq_zero_or_pos r with rfl | hr0
    · have ER := Lib.hid (manyR_zero HE.out)
      have E2 := Lib.hid E.out
      rw [ER.out] at E2
      clear HE
      go_wp2
      first | exact bodyPost_end (v := .tuple #[]) (results_none rfl _ _ _) rfl (get_mk E2.out HS.out) | exact bodyPost_ret (v := .tuple #[]) (results_none rfl _ _ _) rfl (get_mk E2.out HS.out)
    · have hri : (0 : Int) < (r : Int) := by omega
      by_cases hcode : s2.code = 0
      · have hcb : (s2.code == 0) = true := by rw [beq_iff_eq]; exact hcode
        have hl2 := HLC.out hcode
        obtain ⟨r2, rfl⟩ : ∃ q, r = q + 1 := ⟨r - 1, by omega⟩
        have HE2 := Lib.hid (manyR_step HE.out hcode)
        clear HE HLC
        have D := Lib.hid (HS.out.quiet (Below.drew (Below.refl _ _)))
        have HC := Lib.hid (rd_number w0 wr.drew rb sv B s2 D.out.rd)
        obtain ⟨rr, hrr⟩ : ∃ q, q = numR B s2 := ⟨_, rfl⟩
        rw [← hrr] at HC HE2
        have hadv : rr.2.code = 0 → s2.at_ + 1 ≤ rr.2.at_ := fun h => by rw [hrr] at h ⊢; exact (numR_adv h).2
        have hat3 : s2.at_ ≤ rr.2.at_ + 0 ∨ True := .inr trivial
        clear hrr
        obtain ⟨v, s3⟩ := rr
        simp only at HE2 hadv
        go_upto_region 3 with (fail)
        have xc := HS.out.cell (j := 3) rfl
        have HS0 := Lib.hid (show wr.drew.cell? ⟨xb, 3, none⟩ = some kv1 from xc)
        clear xc k2 k3
        refine wp_region_noPanic ?_
        refine wp_region_Z (fun w' => w'.cell? ⟨xb, 3, none⟩ = some kv1) 11 (by kernel_rfl) ?_
        change wpAnyZ _ _ _ _ _ _ 12 (Array.replicate 12 false) _ _
        refine wpAnyZ_take [10, 9] (i := 0) (v := ?v0) (by simp only [List.getElem?_toArray, List.getElem?_cons_succ, List.getElem?_cons_zero]; rfl) (by decide +kernel) (fun _ _ _ h => h) (by rfl) ?t0 ?s0 ?_
        case t0 => (intro w' h; clear h; go_simp; try rfl)
        case s0 => exact HS0.out
        (try simp only [Act.put, List.setIfInBounds_toArray, List.set_cons_zero, List.set_cons_succ])
        refine wpAnyZ_take [10, 9] (i := 1) (v := ?v1) (by simp only [List.getElem?_toArray, List.getElem?_cons_succ, List.getElem?_cons_zero]; rfl) (by decide +kernel) (fun _ _ _ h => h) (by rfl) ?t1 ?s1 ?_
        case t1 => (intro w' h; clear h; go_simp; try rfl)
        case s1 => exact HS0.out
        (try simp only [Act.put, List.setIfInBounds_toArray, List.set_cons_zero, List.set_cons_succ])
        refine wpAnyZ_take [10, 9] (i := 2) (v := ?v2) (by simp only [List.getElem?_toArray, List.getElem?_cons_succ, List.getElem?_cons_zero]; rfl) (by decide +kernel) (fun _ _ _ h => h) (by rfl) ?t2 ?s2 ?_
        case t2 => (intro w' h; clear h; go_simp; try rfl)
        case s2 => exact HS0.out
        (try simp only [Act.put, List.setIfInBounds_toArray, List.set_cons_zero, List.set_cons_succ])
        refine wpAnyZ_take [10, 9] (i := 3) (v := ?v3) (by simp only [List.getElem?_toArray, List.getElem?_cons_succ, List.getElem?_cons_zero]; rfl) (by decide +kernel) (fun _ _ _ h => h) (by rfl) ?t3 ?s3 ?_
        case t3 => (intro w' h; clear h; go_simp; try rfl)
        case s3 => exact HS0.out
        (try simp only [Act.put, List.setIfInBounds_toArray, List.set_cons_zero, List.set_cons_succ])
        refine wpAnyZ_take [10, 9] (i := 4) (v := ?v4) (by simp only [List.getElem?_toArray, List.getElem?_cons_succ, List.getElem?_cons_zero]; rfl) (by decide +kernel) (fun _ _ _ h => h) (by rfl) ?t4 ?s4 ?_
        case t4 => (intro w' h; have FK := (fun w' (h : w'.cell? ⟨xb, 3, none⟩ = some kv1) => h) w' h; clear h; go_split_ands; go_simp; try rfl)
        case s4 => exact HS0.out
        (try simp only [Act.put, List.setIfInBounds_toArray, List.set_cons_zero, List.set_cons_succ])
        refine wpAnyZ_take [10, 9] (i := 5) (v := ?v5) (by simp only [List.getElem?_toArray, List.getElem?_cons_succ, List.getElem?_cons_zero]; rfl) (by decide +kernel) (fun _ _ _ h => h) (by rfl) ?t5 ?s5 ?_
        case t5 => (intro w' h; clear h; go_simp; try rfl)
        case s5 => exact HS0.out
        (try simp only [Act.put, List.setIfInBounds_toArray, List.set_cons_zero, List.set_cons_succ])
        refine wpAnyZ_one (i := 6) (by decide +kernel) ?_
        refine wpOpK_call (by simp only [List.getElem?_toArray, List.getElem?_cons_succ, List.getElem?_cons_zero]; rfl) (by rfl) (by go_simp; first | exact ⟨rfl, rfl⟩ | rfl) ?_
        refine (HC.out).mono ?_
        rintro e wa ⟨rfl, hs⟩
        have G := Lib.hid (D.out.next tyRd hs)
        clear hs HC
        simp only at G ⊢
        have HSa := Lib.hid (show wa.cell? ⟨xb, 3, none⟩ = some kv1 from G.out.cell rfl)
        refine ⟨_, rfl, .inr HSa.out, ?_⟩
        (try simp only [Act.put, List.setIfInBounds_toArray, List.set_cons_zero, List.set_cons_succ])
        have zx := G.out.lt
        have HSb := Lib.hid (show (wa.alloc (.cells #[.int .i64 v] 3)).cell? ⟨xb, 3, none⟩ = some kv1 from (World.cell?_alloc_past _ _ _ zx).trans HSa.out)
        refine wpAnyZ_one (i := 7) (by decide +kernel) ?_
        refine wpOpK_value (v := .slice (some ⟨wa.heap.size, 0, none⟩) 1 1) (w' := wa.alloc (.cells #[.int .i64 v] 3)) (by simp only [List.getElem?_toArray, List.getElem?_cons_succ, List.getElem?_cons_zero]; rfl) (by rfl) ?m7 ⟨.inr HSb.out, ?_⟩
        case m7 => (go_simp; try rfl)
        (try simp only [Act.put, List.setIfInBounds_toArray, List.set_cons_zero, List.set_cons_succ])
        have OWN := Lib.hid (G.out.nd.kown.alloc (.cells #[.int .i64 v] 3))
        have HON := Lib.hid (show ∀ u ∈ [Value.int .i64 v], u.oneCell' = true from fun u hu => by simp at hu; rcases hu with rfl <;> rfl)
        have hz0 : w0.heap.size ≤ wa.heap.size := by have := G.out.nd.zx; omega
        have HPU := Lib.hid (fun v' W2 own gr pl => G.out.pushK tyRd (below_al (Below.refl _ _) (.cells #[.int .i64 v] 3)) (W2 := W2) (v' := v') (m := l.length + 1) (xs := l.map (Value.int .i64) ++ [.int .i64 v]) (k := v) own (by simp) (by simp [itsV, itV]) gr pl)
        refine wpAnyZ_one (i := 8) (by decide +kernel) ?_
        refine wpOpK_append (by simp only [List.getElem?_toArray, List.getElem?_cons_succ, List.getElem?_cons_zero]; rfl) rfl (.tmp 22) (.tmp 25) 45 rfl w0.heap.size 3 i0 _ 1 8 Try.underlying45 HI.out.1 HI.out.2.1 HI.out.2.2.1 HI.out.2.2.2 rfl (by decide) _ l.length _ (by rfl) OWN.out ⟨wa.heap.size, 0, none⟩ 1 1 [.int .i64 v] (by rfl) rfl (World.news_of_block (cs := #[.int .i64 v]) (t := 3) (fr := (0, 0)) (heap_alloc_new _ _)) HON.out (by omega) ?h63 ?hby ?hbs ?_
        case h63 => (unfold maxLen; omega)
        case hby => omega
        case hbs => first | omega | (simp; omega)
        intro g cap W2 own gr hg hlt
        have HS3 := Lib.hid (HPU.out _ W2 own gr (hg.imp (fun h => h.symm) (fun h => by rw [h]; rfl)))
        clear own gr hg hlt HPU OWN HON
        have xc2 := HS3.out.cell (j := 3) rfl
        have xf2 := HS3.out.free 3
        have xz2 := HS3.out.lt
        refine ⟨.inr xc2, ?_⟩
        (try simp only [Act.put, List.setIfInBounds_toArray, List.set_cons_zero, List.set_cons_succ])
        refine wpAnyZ_take [10] (i := 9) (v := ?v9) (by simp only [List.getElem?_toArray, List.getElem?_cons_succ, List.getElem?_cons_zero]; rfl) (by decide +kernel) (fun _ _ _ h => h) (by rfl) ?t9 ?s9 ?_
        case t9 => (intro w' h; clear h; go_simp; try rfl)
        case s9 => exact xc2
        (try simp only [Act.put, List.setIfInBounds_toArray, List.set_cons_zero, List.set_cons_succ])
        refine wpAnyZ_take [] (i := 10) (v := ?v10) (by simp only [List.getElem?_toArray, List.getElem?_cons_succ, List.getElem?_cons_zero]; rfl) (by decide +kernel) (fun _ _ _ h => h) (by rfl) ?t10 ?s10 ?_
        case t10 => (intro w' h; clear h; go_simp; try rfl)
        case s10 => exact xc2
        (try simp only [Act.put, List.setIfInBounds_toArray, List.set_cons_zero, List.set_cons_succ])
        refine wpAnyZ_one (i := 11) (by decide +kernel) ?_
        refine wpOpK_skip (w' := W2.setCell ⟨xb, 3, none⟩ (.slice (some ⟨g, 0, none⟩) (l.length + 1) cap)) (by simp only [List.getElem?_toArray, List.getElem?_cons_succ, List.getElem?_cons_zero]; rfl) (by rfl) ?m11 ⟨.inl rfl, ?_⟩
        case m11 => (go_simp; try rfl)
        (try simp only [Act.put, List.setIfInBounds_toArray, List.set_cons_zero, List.set_cons_succ])
        refine wpAnyZ_done (by kernel_rfl) (NoPanic.normal ?_) _
        have HS4 := Lib.hid (HS3.out.store tyRd 3 (.slice (some ⟨g, 0, none⟩) (l.length + 1) cap))
        clear xc2 xf2 xz2 zx HS3 G D HS
        go_wp2
        go_roundw
        case rel => exact ⟨r2, l ++ [_], s3, _, by first | rfl | (congr 1; omega) | go_num, by omega, HS4, HE2, by rw [List.length_append]; simp; omega, Lib.hid (fun h => by rw [List.length_append]; simp; have := hadv h; omega)⟩
        case measure => simp [intOf]
      · have hcb : (s2.code == 0) = false := beq_eq_false_iff_ne.2 hcode
        have ER := Lib.hid (manyR_stop HE.out hcode)
        have E2 := Lib.hid E.out
        rw [ER.out] at E2
        clear HE
        go_wp2
        first | exact bodyPost_end (v := .tuple #[]) (results_none rfl _ _ _) rfl (get_mk E2.out HS.out) | exact bodyPost_ret (v := .tuple #[]) (results_none rfl _ _ _) rfl (get_mk E2.out HS.out)
set_option maxRecDepth 100000 in
set_option maxHeartbeats 8000000 in
theorem get11 (w0 W : World) (rb : Nat) (sv : Value) (B : List Int) (s : Rs) (xb : Nat) (y : Nd) (kv cv : Value) (hr : RdAt 100 w0 W rb sv B s) (hn : NdO w0.heap.size W xb (ndV y kv cv).toArray y.kids y.cols kv cv) (hnil : y.cols = []) : Calls Try.prog 101 #[.pointer (some ⟨rb, 0, none⟩), .pointer (some ⟨xb, 0, none⟩)] W (GetPost 100 w0 W rb sv B xb kv cv (partR y 11 B s)) := by
  obtain ⟨i0, hi, hz0, hz1, hz2⟩ := info_parts infoItm_
  have HI := Lib.hid (And.intro hi (And.intro hz0 (And.intro hz1 hz2)))
  have hby := hr.byte
  have hle := hr.len
  have H0 := Lib.hid (GetS.refl hr hn)
  rw [hnil] at H0
  clear hr hn hi hz0 hz1 hz2
  have HC := Lib.hid (rd_number w0 W rb sv B s H0.out.rd)
  obtain ⟨r1, hr1⟩ : ∃ r, r = numR B s := ⟨_, rfl⟩
  rw [← hr1] at HC
  have hb1 := numR_range hby s
  rw [← hr1] at hb1
  have HR1 := Lib.hid hr1
  obtain ⟨v1, s1⟩ := r1
  simp only at hb1
  obtain ⟨hb1a, hb1b⟩ := hb1
  clear hr1
  obtain ⟨n, rfl⟩ := Int.eq_ofNat_of_zero_le hb1a
  obtain ⟨res, hres⟩ : ∃ r, r = manyR itR n B s1 := ⟨_, rfl⟩
  have E := Lib.hid (show partR y 11 B s = ({ y with cols := res.1 }, res.2) from by show (_, _) = _; rw [← HR1.out]; simp only [Int.toNat_natCast]; rw [← hres])
  have HRES := Lib.hid (show (([] : List It) ++ (manyR itR n B s1).1, (manyR itR n B s1).2) = res by rw [List.nil_append, hres])
  clear hres HR1
  go_enter Try.func101, Try.ntmps101
  go_wp2_with fail
  refine HC.out.mono ?_
  clear HC
  rintro e w1 ⟨rfl, hs⟩
  have H1 := Lib.hid (H0.out.next tyRd hs)
  clear hs H0
  simp only at H1 ⊢
  have hat : s1.at_ ≤ B.length := H1.out.rd.at_
  go_wp2
  go_loopw [4] (fun nv wr => ∃ (r : Nat) (l : List It) (s2 : Rs) (kv1 : Value), nv = .int .i64 r ∧ r < 2147483648 ∧ RowKit.Hid (GetS 100 w0 W rb sv B xb kv cv s2 (ndV y kv kv1).toArray y.kids l kv kv1 wr) ∧ RowKit.Hid ((l ++ (manyR itR r B s2).1, (manyR itR r B s2).2) = res) ∧ l.length ≤ B.length + 1 ∧ RowKit.Hid (s2.code = 0 → l.length ≤ s2.at_)) (fun nv _ => (intOf nv).toNat)
  case atStart => exact ⟨n, [], s1, cv, rfl, by omega, H1, HRES, by simp, Lib.hid (fun _ => by simp)⟩
  case round =>
    clear H1 HRES hb1a hb1b hat
    obtain ⟨r, l, s2, kv1, rfl, hr31, HS, HE, hll, HLC⟩ := hrel
    have k2 : wr.cell? ⟨rb, 2, none⟩ = some (.int .i64 s2.code) := HS.out.rd.cells.2.2.1
    have k3 := HS.out.rd.lt
    have hat : s2.at_ ≤ B.length := HS.out.rd.at_
    rcases Nat.eq_zero_or_pos r with rfl | hr0
    · have ER := Lib.hid (manyR_zero HE.out)
      have E2 := Lib.hid E.out
      rw [ER.out] at E2
      clear HE
      go_wp2
      first | exact bodyPost_end (v := .tuple #[]) (results_none rfl _ _ _) rfl (get_mk E2.out HS.out) | exact bodyPost_ret (v := .tuple #[]) (results_none rfl _ _ _) rfl (get_mk E2.out HS.out)
    · have hri : (0 : Int) < (r : Int) := by omega
      by_cases hcode : s2.code = 0
      · have hcb : (s2.code == 0) = true := by rw [beq_iff_eq]; exact hcode
        have hl2 := HLC.out hcode
        obtain ⟨r2, rfl⟩ : ∃ q, r = q + 1 := ⟨r - 1, by omega⟩
        have HE2 := Lib.hid (manyR_step HE.out hcode)
        clear HE HLC
        have D := Lib.hid (HS.out.quiet (Below.drew (Below.refl _ _)))
        have HC := Lib.hid (rd_item w0 wr.drew rb sv B s2 D.out.rd)
        obtain ⟨rr, hrr⟩ : ∃ q, q = itR B s2 := ⟨_, rfl⟩
        rw [← hrr] at HC HE2
        have hadv : rr.2.code = 0 → s2.at_ + 1 ≤ rr.2.at_ := fun h => by rw [hrr] at h ⊢; exact (itR_adv h).2
        have hat3 : s2.at_ ≤ rr.2.at_ + 0 ∨ True := .inr trivial
        clear hrr
        obtain ⟨v, s3⟩ := rr
        simp only at HE2 hadv
        obtain ⟨vk, vn, vd, vl, vh⟩ := v
        go_upto_region 3 with (fail)
        have xc := HS.out.cell (j := 28) rfl
        have HS0 := Lib.hid (show wr.drew.cell? ⟨xb, 28, none⟩ = some kv1 from xc)
        clear xc k2 k3
        refine wp_region_noPanic ?_
        refine wp_region_Z (fun w' => w'.cell? ⟨xb, 28, none⟩ = some kv1) 11 (by kernel_rfl) ?_
        change wpAnyZ _ _ _ _ _ _ 12 (Array.replicate 12 false) _ _
        refine wpAnyZ_take [10, 9] (i := 0) (v := ?v0) (by simp only [List.getElem?_toArray, List.getElem?_cons_succ, List.getElem?_cons_zero]; rfl) (by decide +kernel) (fun _ _ _ h => h) (by rfl) ?t0 ?s0 ?_
        case t0 => (intro w' h; clear h; go_simp; try rfl)
        case s0 => exact HS0.out
        (try simp only [Act.put, List.setIfInBounds_toArray, List.set_cons_zero, List.set_cons_succ])
        refine wpAnyZ_take [10, 9] (i := 1) (v := ?v1) (by simp only [List.getElem?_toArray, List.getElem?_cons_succ, List.getElem?_cons_zero]; rfl) (by decide +kernel) (fun _ _ _ h => h) (by rfl) ?t1 ?s1 ?_
        case t1 => (intro w' h; clear h; go_simp; try rfl)
        case s1 => exact HS0.out
        (try simp only [Act.put, List.setIfInBounds_toArray, List.set_cons_zero, List.set_cons_succ])
        refine wpAnyZ_take [10, 9] (i := 2) (v := ?v2) (by simp only [List.getElem?_toArray, List.getElem?_cons_succ, List.getElem?_cons_zero]; rfl) (by decide +kernel) (fun _ _ _ h => h) (by rfl) ?t2 ?s2 ?_
        case t2 => (intro w' h; clear h; go_simp; try rfl)
        case s2 => exact HS0.out
        (try simp only [Act.put, List.setIfInBounds_toArray, List.set_cons_zero, List.set_cons_succ])
        refine wpAnyZ_take [10, 9] (i := 3) (v := ?v3) (by simp only [List.getElem?_toArray, List.getElem?_cons_succ, List.getElem?_cons_zero]; rfl) (by decide +kernel) (fun _ _ _ h => h) (by rfl) ?t3 ?s3 ?_
        case t3 => (intro w' h; clear h; go_simp; try rfl)
        case s3 => exact HS0.out
        (try simp only [Act.put, List.setIfInBounds_toArray, List.set_cons_zero, List.set_cons_succ])
        refine wpAnyZ_take [10, 9] (i := 4) (v := ?v4) (by simp only [List.getElem?_toArray, List.getElem?_cons_succ, List.getElem?_cons_zero]; rfl) (by decide +kernel) (fun _ _ _ h => h) (by rfl) ?t4 ?s4 ?_
        case t4 => (intro w' h; have FK := (fun w' (h : w'.cell? ⟨xb, 28, none⟩ = some kv1) => h) w' h; clear h; go_split_ands; go_simp; try rfl)
        case s4 => exact HS0.out
        (try simp only [Act.put, List.setIfInBounds_toArray, List.set_cons_zero, List.set_cons_succ])
        refine wpAnyZ_take [10, 9] (i := 5) (v := ?v5) (by simp only [List.getElem?_toArray, List.getElem?_cons_succ, List.getElem?_cons_zero]; rfl) (by decide +kernel) (fun _ _ _ h => h) (by rfl) ?t5 ?s5 ?_
        case t5 => (intro w' h; clear h; go_simp; try rfl)
        case s5 => exact HS0.out
        (try simp only [Act.put, List.setIfInBounds_toArray, List.set_cons_zero, List.set_cons_succ])
        refine wpAnyZ_one (i := 6) (by decide +kernel) ?_
        refine wpOpK_call (by simp only [List.getElem?_toArray, List.getElem?_cons_succ, List.getElem?_cons_zero]; rfl) (by rfl) (by go_simp; first | exact ⟨rfl, rfl⟩ | rfl) ?_
        refine (HC.out).mono ?_
        rintro e wa ⟨rfl, hs⟩
        have G := Lib.hid (D.out.next tyRd hs)
        clear hs HC
        simp only [itV] at G ⊢
        have HSa := Lib.hid (show wa.cell? ⟨xb, 28, none⟩ = some kv1 from G.out.cell rfl)
        refine ⟨_, rfl, .inr HSa.out, ?_⟩
        (try simp only [Act.put, List.setIfInBounds_toArray, List.set_cons_zero, List.set_cons_succ])
        have zx := G.out.lt
        have HSb := Lib.hid (show (wa.alloc (.cells #[.int .i8 vk, .int .i64 vn, .int .i64 vd, .int .i64 vl, .int .i64 vh] 57)).cell? ⟨xb, 28, none⟩ = some kv1 from (World.cell?_alloc_past _ _ _ zx).trans HSa.out)
        refine wpAnyZ_one (i := 7) (by decide +kernel) ?_
        refine wpOpK_value (v := .slice (some ⟨wa.heap.size, 0, none⟩) 1 1) (w' := wa.alloc (.cells #[.int .i8 vk, .int .i64 vn, .int .i64 vd, .int .i64 vl, .int .i64 vh] 57)) (by simp only [List.getElem?_toArray, List.getElem?_cons_succ, List.getElem?_cons_zero]; rfl) (by rfl) ?m7 ⟨.inr HSb.out, ?_⟩
        case m7 => (go_simp; try rfl)
        (try simp only [Act.put, List.setIfInBounds_toArray, List.set_cons_zero, List.set_cons_succ])
        have OWN := Lib.hid (G.out.nd.cown.alloc (.cells #[.int .i8 vk, .int .i64 vn, .int .i64 vd, .int .i64 vl, .int .i64 vh] 57))
        have HON := Lib.hid (show ∀ u ∈ [Value.int .i8 vk, Value.int .i64 vn, Value.int .i64 vd, Value.int .i64 vl, Value.int .i64 vh], u.oneCell' = true from fun u hu => by simp at hu; rcases hu with rfl | rfl | rfl | rfl | rfl <;> rfl)
        have hz0 : w0.heap.size ≤ wa.heap.size := by have := G.out.nd.zx; omega
        have HPU := Lib.hid (fun v' W2 own gr pl => G.out.pushC tyRd (below_al (Below.refl _ _) (.cells #[.int .i8 vk, .int .i64 vn, .int .i64 vd, .int .i64 vl, .int .i64 vh] 57)) (W2 := W2) (v' := v') (m := l.length + 1) (xs := itsV l ++ [.int .i8 vk, .int .i64 vn, .int .i64 vd, .int .i64 vl, .int .i64 vh]) (k := ⟨vk, vn, vd, vl, vh⟩) own (by simp) (by simp [itsV, itV]) gr pl)
        refine wpAnyZ_one (i := 8) (by decide +kernel) ?_
        refine wpOpK_append (by simp only [List.getElem?_toArray, List.getElem?_cons_succ, List.getElem?_cons_zero]; rfl) rfl (.tmp 22) (.tmp 25) 62 rfl w0.heap.size 57 i0 _ 5 40 Try.underlying62 HI.out.1 HI.out.2.1 HI.out.2.2.1 HI.out.2.2.2 rfl (by decide) _ l.length _ (by rfl) OWN.out ⟨wa.heap.size, 0, none⟩ 1 1 [.int .i8 vk, .int .i64 vn, .int .i64 vd, .int .i64 vl, .int .i64 vh] (by rfl) rfl (World.news_of_block (cs := #[.int .i8 vk, .int .i64 vn, .int .i64 vd, .int .i64 vl, .int .i64 vh]) (t := 57) (fr := (0, 0)) (heap_alloc_new _ _)) HON.out (by omega) ?h63 ?hby ?hbs ?_
        case h63 => (unfold maxLen; omega)
        case hby => omega
        case hbs => first | omega | (simp; omega)
        intro g cap W2 own gr hg hlt
        have HS3 := Lib.hid (HPU.out _ W2 own gr (hg.imp (fun h => h.symm) (fun h => by rw [h]; rfl)))
        clear own gr hg hlt HPU OWN HON
        have xc2 := HS3.out.cell (j := 28) rfl
        have xf2 := HS3.out.free 28
        have xz2 := HS3.out.lt
        refine ⟨.inr xc2, ?_⟩
        (try simp only [Act.put, List.setIfInBounds_toArray, List.set_cons_zero, List.set_cons_succ])
        refine wpAnyZ_take [10] (i := 9) (v := ?v9) (by simp only [List.getElem?_toArray, List.getElem?_cons_succ, List.getElem?_cons_zero]; rfl) (by decide +kernel) (fun _ _ _ h => h) (by rfl) ?t9 ?s9 ?_
        case t9 => (intro w' h; clear h; go_simp; try rfl)
        case s9 => exact xc2
        (try simp only [Act.put, List.setIfInBounds_toArray, List.set_cons_zero, List.set_cons_succ])
        refine wpAnyZ_take [] (i := 10) (v := ?v10) (by simp only [List.getElem?_toArray, List.getElem?_cons_succ, List.getElem?_cons_zero]; rfl) (by decide +kernel) (fun _ _ _ h => h) (by rfl) ?t10 ?s10 ?_
        case t10 => (intro w' h; clear h; go_simp; try rfl)
        case s10 => exact xc2
        (try simp only [Act.put, List.setIfInBounds_toArray, List.set_cons_zero, List.set_cons_succ])
        refine wpAnyZ_one (i := 11) (by decide +kernel) ?_
        refine wpOpK_skip (w' := W2.setCell ⟨xb, 28, none⟩ (.slice (some ⟨g, 0, none⟩) (l.length + 1) cap)) (by simp only [List.getElem?_toArray, List.getElem?_cons_succ, List.getElem?_cons_zero]; rfl) (by rfl) ?m11 ⟨.inl rfl, ?_⟩
        case m11 => (go_simp; try rfl)
        (try simp only [Act.put, List.setIfInBounds_toArray, List.set_cons_zero, List.set_cons_succ])
        refine wpAnyZ_done (by kernel_rfl) (NoPanic.normal ?_) _
        have HS4 := Lib.hid (HS3.out.store tyRd 28 (.slice (some ⟨g, 0, none⟩) (l.length + 1) cap))
        clear xc2 xf2 xz2 zx HS3 G D HS
        go_wp2
        go_roundw
        case rel => exact ⟨r2, l ++ [_], s3, _, by first | rfl | (congr 1; omega) | go_num, by omega, HS4, HE2, by rw [List.length_append]; simp; omega, Lib.hid (fun h => by rw [List.length_append]; simp; have := hadv h; omega)⟩
        case measure => simp [intOf]
      · have hcb : (s2.code == 0) = false := beq_eq_false_iff_ne.2 hcode
        have ER := Lib.hid (manyR_stop HE.out hcode)
        have E2 := Lib.hid E.out
        rw [ER.out] at E2
        clear HE
        go_wp2
        first | exact bodyPost_end (v := .tuple #[]) (results_none rfl _ _ _) rfl (get_mk E2.out HS.out) | exact bodyPost_ret (v := .tuple #[]) (results_none rfl _ _ _) rfl (get_mk E2.out HS.out)
end Go.Proofs.Ytcihihncgpddfaa
