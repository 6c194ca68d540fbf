/- Focus: contracts of the reference's behind and Near. -/
import Derived.Test.YtihjefncjkdnpaaFoT
namespace Go.Proofs.Ytihjefncjkdnpaa
open Go.RowKit Go.Deep
set_option linter.unusedVariables false
set_option linter.unusedSimpArgs false

theorem apart_q (a n b m : Int) (w : World) (ha : -4194304 ≤ a ∧ a ≤ 4194304) (hn : 0 ≤ n ∧ n ≤ 4194304) (hb : -4194304 ≤ b ∧ b ≤ 4194304) (hm : 0 ≤ m ∧ m ≤ 4194304) : Calls Try.prog 84 #[.int .i64 a, .int .i64 n, .int .i64 b, .int .i64 m] w fun e w' => e = .returned (.int .i64 (gapI a n b m)) ∧ w' = w :=
  (apart_any a n b m w ha hn hb hm).mono fun _ _ ⟨h1, h2⟩ => ⟨h1, h2.symm⟩
def farB (f t : R4) (key : Int) : Int := if key = 7 ∨ key = 8 ∨ key = 6 ∨ key = 5 then farI f t key else 0
set_option maxRecDepth 100000 in
set_option maxHeartbeats 16000000 in
theorem ref_behind_any (f t : R4) (key : Int) (w : World) (hf : InP f) (ht : InP t) : Calls Try.prog 61 #[.agg #[.int .i64 f.x, .int .i64 f.y, .int .i64 f.w, .int .i64 f.h], .agg #[.int .i64 t.x, .int .i64 t.y, .int .i64 t.w, .int .i64 t.h], .int .i32 key] w fun e w' => e = .returned (.tuple #[.bool (liesB f t key), .int .i64 (farB f t key)]) ∧ Below w.heap.size w w' := by
  have hfx := hf.x; have hfy := hf.y; have hfw := hf.w; have hfh := hf.h
  have htx := ht.x; have hty := ht.y; have htw := ht.w; have hth := ht.h
  obtain ⟨⟨hgx0, hgx1⟩, hgy0, hgy1⟩ := gapI_bd hf ht
  obtain ⟨Lb, hL⟩ : ∃ x, x = liesB f t key := ⟨_, rfl⟩
  obtain ⟨Fb, hF⟩ : ∃ x, x = farB f t key := ⟨_, rfl⟩
  have HL := Lib.hid hL
  have HF := Lib.hid hF
  rw [← hL, ← hF]
  obtain ⟨gx, hgx⟩ : ∃ gx, gx = gapI f.x f.w t.x t.w := ⟨_, rfl⟩
  obtain ⟨gy, hgy⟩ : ∃ gy, gy = gapI f.y f.h t.y t.h := ⟨_, rfl⟩
  rw [← hgx] at hgx0 hgx1
  rw [← hgy] at hgy0 hgy1
  have HX := Lib.hid hgx
  have HY := Lib.hid hgy
  have HAX := Lib.hid (fun w => show Calls Try.prog 84 #[.int .i64 f.x, .int .i64 f.w, .int .i64 t.x, .int .i64 t.w] w fun e w' => e = .returned (.int .i64 gx) ∧ w' = w by rw [hgx]; exact apart_q _ _ _ _ _ (by omega) (by omega) (by omega) (by omega))
  have HAY := Lib.hid (fun w => show Calls Try.prog 84 #[.int .i64 f.y, .int .i64 f.h, .int .i64 t.y, .int .i64 t.h] w fun e w' => e = .returned (.int .i64 gy) ∧ w' = w by rw [hgy]; exact apart_q _ _ _ _ _ (by omega) (by omega) (by omega) (by omega))
  obtain ⟨W1, hW1⟩ : ∃ W1, W1 = (w.alloc (.cells #[.int .i64 f.x, .int .i64 f.y, .int .i64 f.w, .int .i64 f.h] 77)).alloc (.cells #[.int .i64 t.x, .int .i64 t.y, .int .i64 t.w, .int .i64 t.h] 77) := ⟨_, rfl⟩
  have C1 := Lib.hid (show Below w.heap.size w W1 by rw [hW1]; exact below_al (below_al (Below.refl _ _) _) _)
  have KF := Lib.hid (show W1.heap[w.heap.size]? = some (.cells #[.int .i64 f.x, .int .i64 f.y, .int .i64 f.w, .int .i64 f.h] 77 (0, 0)) by rw [hW1]; exact (heap_alloc_old _ _ (by simp)).trans (heap_alloc_new _ _))
  have KT := Lib.hid (show W1.heap[w.heap.size + 1]? = some (.cells #[.int .i64 t.x, .int .i64 t.y, .int .i64 t.w, .int .i64 t.h] 77 (0, 0)) by
    rw [hW1]
    have := heap_alloc_new (w.alloc (.cells #[.int .i64 f.x, .int .i64 f.y, .int .i64 f.w, .int .i64 f.h] 77)) (.cells #[.int .i64 t.x, .int .i64 t.y, .int .i64 t.w, .int .i64 t.h] 77)
    rwa [World.size_alloc] at this)
  have HW1 := Lib.hid hW1
  clear hL hF hgx hgy hf ht hW1
  go_enter Try.func61, Try.ntmps61
  go_upto_region 1 with (fail)
  rw [← HW1.out]
  clear HW1
  have f0 : W1.cell? ⟨w.heap.size, 0, none⟩ = some (.int .i64 f.x) := by rw [cell_of_row _ _ _ _ _ _ KF.out]; rfl
  have f1 : W1.cell? ⟨w.heap.size, 1, none⟩ = some (.int .i64 f.y) := by rw [cell_of_row _ _ _ _ _ _ KF.out]; rfl
  have f2 : W1.cell? ⟨w.heap.size, 2, none⟩ = some (.int .i64 f.w) := by rw [cell_of_row _ _ _ _ _ _ KF.out]; rfl
  have f3 : W1.cell? ⟨w.heap.size, 3, none⟩ = some (.int .i64 f.h) := by rw [cell_of_row _ _ _ _ _ _ KF.out]; rfl
  have t0 : W1.cell? ⟨w.heap.size + 1, 0, none⟩ = some (.int .i64 t.x) := by rw [cell_of_row _ _ _ _ _ _ KT.out]; rfl
  have t1 : W1.cell? ⟨w.heap.size + 1, 1, none⟩ = some (.int .i64 t.y) := by rw [cell_of_row _ _ _ _ _ _ KT.out]; rfl
  have t2 : W1.cell? ⟨w.heap.size + 1, 2, none⟩ = some (.int .i64 t.w) := by rw [cell_of_row _ _ _ _ _ _ KT.out]; rfl
  have t3 : W1.cell? ⟨w.heap.size + 1, 3, none⟩ = some (.int .i64 t.h) := by rw [cell_of_row _ _ _ _ _ _ KT.out]; rfl
  have zf := lt_of_block KF.out
  have zt := lt_of_block KT.out
  go_quiet ((go_at_call 84; first | (with_reducible exact Calls.quiet_of_same (HAX.out _)) | (with_reducible exact Calls.quiet_of_same (HAY.out _))))
  rename Nat => nq
  generalize hq2 : W1.drewN nq = W2
  have C2 := Lib.hid (show Below w.heap.size w W2 by rw [← hq2]; exact below_drewNf C1.out nq)
  have KF2 := Lib.hid (show W2.heap[w.heap.size]? = some (.cells #[.int .i64 f.x, .int .i64 f.y, .int .i64 f.w, .int .i64 f.h] 77 (0, 0)) by rw [← hq2]; exact KF.out)
  have KT2 := Lib.hid (show W2.heap[w.heap.size + 1]? = some (.cells #[.int .i64 t.x, .int .i64 t.y, .int .i64 t.w, .int .i64 t.h] 77 (0, 0)) by rw [← hq2]; exact KT.out)
  clear hq2 f0 f1 f2 f3 t0 t1 t2 t3 zf zt KF KT C1
  have f0 : W2.cell? ⟨w.heap.size, 0, none⟩ = some (.int .i64 f.x) := by rw [cell_of_row _ _ _ _ _ _ KF2.out]; rfl
  have f1 : W2.cell? ⟨w.heap.size, 1, none⟩ = some (.int .i64 f.y) := by rw [cell_of_row _ _ _ _ _ _ KF2.out]; rfl
  have f2 : W2.cell? ⟨w.heap.size, 2, none⟩ = some (.int .i64 f.w) := by rw [cell_of_row _ _ _ _ _ _ KF2.out]; rfl
  have f3 : W2.cell? ⟨w.heap.size, 3, none⟩ = some (.int .i64 f.h) := by rw [cell_of_row _ _ _ _ _ _ KF2.out]; rfl
  have t0 : W2.cell? ⟨w.heap.size + 1, 0, none⟩ = some (.int .i64 t.x) := by rw [cell_of_row _ _ _ _ _ _ KT2.out]; rfl
  have t1 : W2.cell? ⟨w.heap.size + 1, 1, none⟩ = some (.int .i64 t.y) := by rw [cell_of_row _ _ _ _ _ _ KT2.out]; rfl
  have t2 : W2.cell? ⟨w.heap.size + 1, 2, none⟩ = some (.int .i64 t.w) := by rw [cell_of_row _ _ _ _ _ _ KT2.out]; rfl
  have t3 : W2.cell? ⟨w.heap.size + 1, 3, none⟩ = some (.int .i64 t.h) := by rw [cell_of_row _ _ _ _ _ _ KT2.out]; rfl
  have zf := lt_of_block KF2.out
  have zt := lt_of_block KT2.out
  go_upto_region 2 with (fail)
  go_quiet ((go_at_call 84; first | (with_reducible exact Calls.quiet_of_same (HAX.out _)) | (with_reducible exact Calls.quiet_of_same (HAY.out _))))
  rename Nat => nq'
  generalize hq3 : W2.drewN nq' = W3
  have C3 := Lib.hid (show Below w.heap.size w W3 by rw [← hq3]; exact below_drewNf C2.out nq')
  have KF3 := Lib.hid (show W3.heap[w.heap.size]? = some (.cells #[.int .i64 f.x, .int .i64 f.y, .int .i64 f.w, .int .i64 f.h] 77 (0, 0)) by rw [← hq3]; exact KF2.out)
  have KT3 := Lib.hid (show W3.heap[w.heap.size + 1]? = some (.cells #[.int .i64 t.x, .int .i64 t.y, .int .i64 t.w, .int .i64 t.h] 77 (0, 0)) by rw [← hq3]; exact KT2.out)
  clear hq3 f0 f1 f2 f3 t0 t1 t2 t3 zf zt KF2 KT2 C2
  have f0 : W3.cell? ⟨w.heap.size, 0, none⟩ = some (.int .i64 f.x) := by rw [cell_of_row _ _ _ _ _ _ KF3.out]; rfl
  have f1 : W3.cell? ⟨w.heap.size, 1, none⟩ = some (.int .i64 f.y) := by rw [cell_of_row _ _ _ _ _ _ KF3.out]; rfl
  have f2 : W3.cell? ⟨w.heap.size, 2, none⟩ = some (.int .i64 f.w) := by rw [cell_of_row _ _ _ _ _ _ KF3.out]; rfl
  have f3 : W3.cell? ⟨w.heap.size, 3, none⟩ = some (.int .i64 f.h) := by rw [cell_of_row _ _ _ _ _ _ KF3.out]; rfl
  have t0 : W3.cell? ⟨w.heap.size + 1, 0, none⟩ = some (.int .i64 t.x) := by rw [cell_of_row _ _ _ _ _ _ KT3.out]; rfl
  have t1 : W3.cell? ⟨w.heap.size + 1, 1, none⟩ = some (.int .i64 t.y) := by rw [cell_of_row _ _ _ _ _ _ KT3.out]; rfl
  have t2 : W3.cell? ⟨w.heap.size + 1, 2, none⟩ = some (.int .i64 t.w) := by rw [cell_of_row _ _ _ _ _ _ KT3.out]; rfl
  have t3 : W3.cell? ⟨w.heap.size + 1, 3, none⟩ = some (.int .i64 t.h) := by rw [cell_of_row _ _ _ _ _ _ KT3.out]; rfl
  have zf := lt_of_block KF3.out
  have zt := lt_of_block KT3.out
  rcases (show key = 7 ∨ key = 8 ∨ key = 6 ∨ key = 5 ∨ (key ≠ 7 ∧ key ≠ 8 ∧ key ≠ 6 ∧ key ≠ 5) by omega) with rfl | rfl | rfl | rfl | ⟨e7, e8, e6, e5⟩
  · have HE := Lib.hid (show farB f t 7 = 2 * gy + gx by unfold farB farI; simp only [← HX.out, ← HY.out]; simp; try omega)
    by_cases hl : f.x + f.w ≤ t.x
    · have HE2 := Lib.hid (show liesB f t 7 = true by unfold liesB; simp; omega)
      clear HX HY HAX HAY
      go_wp2
      go_ret2
      exact ⟨by rw [HL.out, HF.out, HE.out, HE2.out]; rfl, C3.out⟩
    · have HE2 := Lib.hid (show liesB f t 7 = false by unfold liesB; simp; omega)
      clear HX HY HAX HAY
      go_wp2
      go_ret2
      exact ⟨by rw [HL.out, HF.out, HE.out, HE2.out]; rfl, C3.out⟩
  · have HE := Lib.hid (show farB f t 8 = 2 * gy + gx by unfold farB farI; simp only [← HX.out, ← HY.out]; simp; try omega)
    by_cases hl : t.x + t.w ≤ f.x
    · have HE2 := Lib.hid (show liesB f t 8 = true by unfold liesB; simp; omega)
      clear HX HY HAX HAY
      go_wp2
      go_ret2
      exact ⟨by rw [HL.out, HF.out, HE.out, HE2.out]; rfl, C3.out⟩
    · have HE2 := Lib.hid (show liesB f t 8 = false by unfold liesB; simp; omega)
      clear HX HY HAX HAY
      go_wp2
      go_ret2
      exact ⟨by rw [HL.out, HF.out, HE.out, HE2.out]; rfl, C3.out⟩
  · have HE := Lib.hid (show farB f t 6 = 2 * gx + gy by unfold farB farI; simp only [← HX.out, ← HY.out]; simp; try omega)
    by_cases hl : f.y + f.h ≤ t.y
    · have HE2 := Lib.hid (show liesB f t 6 = true by unfold liesB; simp; omega)
      clear HX HY HAX HAY
      go_wp2
      go_ret2
      exact ⟨by rw [HL.out, HF.out, HE.out, HE2.out]; rfl, C3.out⟩
    · have HE2 := Lib.hid (show liesB f t 6 = false by unfold liesB; simp; omega)
      clear HX HY HAX HAY
      go_wp2
      go_ret2
      exact ⟨by rw [HL.out, HF.out, HE.out, HE2.out]; rfl, C3.out⟩
  · have HE := Lib.hid (show farB f t 5 = 2 * gx + gy by unfold farB farI; simp only [← HX.out, ← HY.out]; simp; try omega)
    by_cases hl : t.y + t.h ≤ f.y
    · have HE2 := Lib.hid (show liesB f t 5 = true by unfold liesB; simp; omega)
      clear HX HY HAX HAY
      go_wp2
      go_ret2
      exact ⟨by rw [HL.out, HF.out, HE.out, HE2.out]; rfl, C3.out⟩
    · have HE2 := Lib.hid (show liesB f t 5 = false by unfold liesB; simp; omega)
      clear HX HY HAX HAY
      go_wp2
      go_ret2
      exact ⟨by rw [HL.out, HF.out, HE.out, HE2.out]; rfl, C3.out⟩
  · have HE := Lib.hid (show farB f t key = 0 by unfold farB; rw [if_neg (by omega)])
    have HE2 := Lib.hid (show liesB f t key = false by unfold liesB; rw [if_neg e7, if_neg e8, if_neg e6, if_neg e5])
    have d7 : (key == 7) = false := beq_eq_false_iff_ne.2 e7
    have d8 : (key == 8) = false := beq_eq_false_iff_ne.2 e8
    have d6 : (key == 6) = false := beq_eq_false_iff_ne.2 e6
    have d5 : (key == 5) = false := beq_eq_false_iff_ne.2 e5
    clear e7 e8 e6 e5 HX HY HAX HAY
    go_wp2
    go_ret2
    exact ⟨by rw [HL.out, HF.out, HE.out, HE2.out]; rfl, C3.out⟩
set_option maxRecDepth 100000 in
set_option maxHeartbeats 64000000 in
theorem ref_Near_any (p pb : Option Addr) (c cb nb : Nat) (T : List Nd) (bx : Nat → Nat → Int) (i key : Int) (w : World) (hT : TreeAt w (.slice p T.length c) T) (hB : BoxAt w pb nb bx) (hl : nb ≤ 9223372036854775807) (hC : ClipOk nb bx) : Calls Try.prog 28 #[.agg #[.slice p T.length c], .slice pb nb cb, .int .i64 i, .int .i32 key] w (RetNr (nearR T nb bx i key) w) := by
  have HT := Lib.hid hT
  have HCL := Lib.hid hC
  have hlT := hT.len
  have HP := Lib.hid (fun (x : Int) w' (e : nearR T nb bx i key = x) (hb : Below w.heap.size w w') => show RetNr (nearR T nb bx i key) w (.returned (.int .i64 x)) w' by rw [← e]; exact ⟨rfl, hb⟩)
  have HNO := Lib.hid (fun h => near_no (T := T) (nb := nb) (bx := bx) (at' := i) (key := key) h)
  have HEM := Lib.hid (fun h => near_empty (T := T) (nb := nb) (bx := bx) (at' := i) (key := key) h)
  have HFO := Lib.hid (fun h h2 => near_fold (T := T) (nb := nb) (bx := bx) (at' := i) (key := key) h h2)
  have HBX := Lib.hid hB
  clear hT hC hB
  generalize hNR : nearR T nb bx i key = NR at *
  generalize RetNr NR w = post at *
  clear hNR
  go_enter Try.func28, Try.ntmps28
  go_wp2_with fail
  obtain ⟨W1, hW1⟩ : ∃ W1, W1 = w.alloc (.cells #[.slice p T.length c] 24) := ⟨_, rfl⟩
  have C1 := Lib.hid (show Below w.heap.size w W1 by rw [hW1]; exact below_al (Below.refl _ _) _)
  have a1 := Lib.hid (show W1.heap[w.heap.size]? = some (.cells #[.slice p T.length c] 24 (0, 0)) by rw [hW1]; exact heap_alloc_new _ _)
  rw [← hW1]
  clear hW1
  have HT1 := Lib.hid (HT.out.later C1.out)
  have HB1 := Lib.hid (HBX.out.later C1.out (Nat.le_refl _))
  have HF := Lib.hid (fun w' (h : Below W1.heap.size W1 w') => show w'.cell? ⟨w.heap.size, 0, none⟩ = some (.slice p T.length c) ∧ w.heap.size < w'.heap.size from by
    have := lt_of_block a1.out
    have := h.size
    exact ⟨cell_of_one ((h.block _ (lt_of_block a1.out)).trans a1.out), by omega⟩)
  clear HT HBX
  refine (ref_right_any p c T W1 HT1.out).mono ?_
  obtain ⟨cc, hcc⟩ : ∃ cc, cc = (checkT T).1 := ⟨_, rfl⟩
  have HCC := Lib.hid hcc
  have HRT := Lib.hid (show rightB T = decide (cc = 0) by unfold rightB; rw [hcc])
  rw [HRT.out]
  rintro e w2 ⟨rfl, hb⟩
  have D2 := Lib.hid hb
  obtain ⟨x0, s0⟩ := HF.out w2 hb
  clear hb hcc HRT
  rcases (show cc ≠ 0 ∨ (cc = 0 ∧ nb ≠ T.length) ∨ (cc = 0 ∧ nb = T.length ∧ i < 0) ∨ (cc = 0 ∧ nb = T.length ∧ 0 ≤ i ∧ (nb : Int) ≤ i) ∨ (cc = 0 ∧ nb = T.length ∧ 0 ≤ i ∧ i < (nb : Int)) by omega) with h | ⟨h, h2⟩ | ⟨h, h2, h3⟩ | ⟨h, h2, h3, h4⟩ | ⟨h, h2, h3, h4⟩
  · have HE := Lib.hid (HP.out (-1) w2 (HNO.out (.inl (by rw [← HCC.out]; exact h))) (below_via D2.out C1.out))
    rw [show decide (cc = 0) = false by simpa using h]
    clear h
    go_wp2
    exact HE.out
  · have HE := Lib.hid (HP.out (-1) w2 (HNO.out (.inr (.inl h2))) (below_via D2.out C1.out))
    rw [show decide (cc = 0) = true by simpa using h]
    have k2 : ((nb : Int) != (T.length : Int)) = true := by rw [bne_iff_ne]; omega
    clear h h2
    go_wp2
    exact HE.out
  · have HE := Lib.hid (HP.out (-1) w2 (HNO.out (.inr (.inr (.inl h3)))) (below_via D2.out C1.out))
    rw [show decide (cc = 0) = true by simpa using h]
    have k2 : ((nb : Int) != (T.length : Int)) = false := by rw [h2]; simp
    clear h h2
    go_wp2
    exact HE.out
  · have HE := Lib.hid (HP.out (-1) w2 (HNO.out (.inr (.inr (.inr h4)))) (below_via D2.out C1.out))
    rw [show decide (cc = 0) = true by simpa using h]
    have k2 : ((nb : Int) != (T.length : Int)) = false := by rw [h2]; simp
    have h5 : (T.length : Int) ≤ i := by omega
    clear h h2
    go_wp2
    exact HE.out
  · obtain ⟨n0, rfl⟩ := Int.eq_ofNat_of_zero_le h3
    have hn0 : n0 < nb := by omega
    rw [show decide (cc = 0) = true by simpa using h]
    have k2 : ((nb : Int) != (T.length : Int)) = false := by rw [h2]; simp
    have hn0T : (n0 : Int) < (T.length : Int) := by omega
    have HNN := Lib.hid (show ¬ ((checkT T).1 ≠ 0 ∨ nb ≠ T.length ∨ ((n0 : Nat) : Int) < 0 ∨ (nb : Int) ≤ ((n0 : Nat) : Int)) by rw [← HCC.out]; omega)
    have HNB := Lib.hid h2
    obtain ⟨bb, ob, rfl, hbz, hbc⟩ := HB1.out (by omega)
    have HBC := Lib.hid (fun w' (h : Below W1.heap.size W1 w') (n : Nat) (hn : n < nb) => show (w'.cell? ⟨bb, ob + n * 18 + 12, none⟩ = some (.int .i64 (bx n 12)) ∧ w'.cell? ⟨bb, ob + n * 18 + 13, none⟩ = some (.int .i64 (bx n 13)) ∧ w'.cell? ⟨bb, ob + n * 18 + 14, none⟩ = some (.int .i64 (bx n 14)) ∧ w'.cell? ⟨bb, ob + n * 18 + 15, none⟩ = some (.int .i64 (bx n 15))) ∧ bb < w'.heap.size from by
      obtain ⟨hcl, _⟩ := bcell h
      have := h.size
      refine ⟨⟨?_, ?_, ?_, ?_⟩, by omega⟩ <;> (rw [hcl _ _ hbz, Nat.add_assoc]; exact hbc n hn _ (by omega)))
    have HOW := Lib.hid (fun (w' : World) (n : Nat) (hn : n < nb) => show Calls Try.prog 59 #[.agg #[.int .i64 (bx n 12), .int .i64 (bx n 13), .int .i64 (bx n 14), .int .i64 (bx n 15)]] w' (fun e w'' => e = .returned (.agg #[.int .i64 (seenR bx n).x, .int .i64 (seenR bx n).y, .int .i64 (seenR bx n).w, .int .i64 (seenR bx n).h]) ∧ Below w'.heap.size w' w'') from ref_Own_any _ _ _ _ w' (HCL.out n hn 12 (by omega) (by omega)) (HCL.out n hn 13 (by omega) (by omega)) (HCL.out n hn 14 (by omega) (by omega)) (HCL.out n hn 15 (by omega) (by omega)))
    clear h h2 HNO hbc HB1
    obtain ⟨⟨y0, y1, y2, y3⟩, sb⟩ := HBC.out w2 D2.out n0 hn0
    go_wp2_with fail
    refine (HOW.out w2 n0 hn0).mono ?_
    have HIF := Lib.hid (selfR_in (clipR bx n0))
    obtain ⟨f, hf⟩ : ∃ f, f = seenR bx n0 := ⟨_, rfl⟩
    have HFR := Lib.hid hf
    rw [show selfR (clipR bx n0) = f from hf.symm] at HIF
    rw [← hf]
    rintro e w3 ⟨rfl, hb⟩
    have D3 := Lib.hid (below_via hb D2.out)
    clear hb x0 s0 hf y0 y1 y2 y3 sb
    go_wp2_with fail
    obtain ⟨w4, hw4⟩ : ∃ w4, w4 = w3.alloc (.cells #[.int .i64 f.x, .int .i64 f.y, .int .i64 f.w, .int .i64 f.h] 77) := ⟨_, rfl⟩
    have C4 : Below w3.heap.size w3 w4 := by rw [hw4]; exact below_al (Below.refl _ _) _
    have k4 : w4.heap[w3.heap.size]? = some (.cells #[.int .i64 f.x, .int .i64 f.y, .int .i64 f.w, .int .i64 f.h] 77 (0, 0)) := by rw [hw4]; exact heap_alloc_new _ _
    rw [← hw4]
    obtain ⟨gf, hgf⟩ : ∃ gf, gf = w3.heap.size := ⟨_, rfl⟩
    rw [← hgf] at k4 ⊢
    have HK4 := Lib.hid k4
    have D4 := Lib.hid (below_via C4 D3.out)
    have hfx := HIF.out.x
    have hfy := HIF.out.y
    have hfw := HIF.out.w
    have hfh := HIF.out.h
    clear hw4 C4 k4 hgf
    refine (ref_Empty_any f.x f.y f.w f.h w4 (by omega) (by omega) (by omega) (by omega)).mono ?_
    rintro e w5 ⟨rfl, hb⟩
    have D5 := Lib.hid (below_via hb D4.out)
    have HK5 := Lib.hid ((hb.block _ (lt_of_block HK4.out)).trans HK4.out)
    clear hb HK4
    cases hok : okB f.x f.y f.w f.h with
    | false =>
      have HE := Lib.hid (HP.out (-1) w5 (HEM.out (by rw [Int.toNat_natCast, ← HFR.out]; exact hok)) (below_via D5.out C1.out))
      clear hok
      go_wp2
      exact HE.out
    | true =>
      have HFD := Lib.hid (HFO.out HNN.out (by rw [Int.toNat_natCast, ← HFR.out]; exact hok))
      rw [Int.toNat_natCast, ← HFR.out] at HFD
      obtain ⟨x0, s0⟩ := HF.out w5 D5.out
      clear hok HEM HFO HNN
      go_wp2_with fail
      refine (ref_focus_Order_any p c T w5 (HT1.out.later D5.out)).mono ?_
      have hlL := fos_4096 T
      have HFG := Lib.hid (fun j (hj : j < (fosL T).length) => fos_get hj)
      obtain ⟨L, hL⟩ : ∃ L, L = fosL T := ⟨_, rfl⟩
      rw [← hL] at hlL HFD HFG ⊢
      clear hL
      rintro e w6 ⟨v, rfl, own, hb⟩
      have D6 := Lib.hid (below_via hb D5.out)
      have HK6 := Lib.hid ((hb.block _ (lt_of_block HK5.out)).trans HK5.out)
      have HV := Lib.hid (row_ints own)
      obtain ⟨pv, cv, rfl, hv1, hv2, _, hvc⟩ := HV.out
      have HVC := Lib.hid hvc
      clear hb own hvc HK5 x0 s0 HV
      go_wp2
      go_loopw [15, 12, 13] (fun iv bv lv wr => ∃ (j : Nat) (b l : Int), iv = .int .i64 j ∧ bv = .int .i64 b ∧ lv = .int .i64 l ∧ j ≤ L.length ∧ RowKit.Hid (NR = ((L.drop j).foldl (nearStep bx f key n0) (b, l)).1) ∧ -1 ≤ b ∧ b ≤ 9223372036854775807 ∧ 0 ≤ l ∧ l ≤ 33554432 ∧ RowKit.Hid (Below w6.heap.size w6 wr)) (fun iv _ _ _ => L.length - (intOf iv).toNat)
      case atStart => exact ⟨0, -1, 0, rfl, rfl, rfl, by omega, HFD, by omega, by omega, by omega, by omega, Lib.hid (Below.refl _ _)⟩
      case round =>
        obtain ⟨j, b, l, rfl, rfl, rfl, hj, HRS, hb0, hb1, hl0, hl1, BR⟩ := hrel
        by_cases hlt : j < L.length
        · have hji : (j : Int) < (L.length : Int) := by omega
          obtain ⟨bv, ov, rfl, hbv, hvc⟩ := HVC.out (by omega)
          have HCJ := Lib.hid (fun w' (h : Below w6.heap.size w6 w') => show w'.cell? ⟨bv, ov + j, none⟩ = some (.int .i64 (L.getD j 0)) ∧ bv < w'.heap.size from by
            have := h.size
            exact ⟨by rw [(bcell h).1 _ _ hbv]; exact hvc j hlt, by omega⟩)
          obtain ⟨q, hq, hqN⟩ := HFG.out j hlt
          rw [hq] at HCJ
          have hqn : q < nb := by have := HNB.out; omega
          have hqi : (q : Int) < (nb : Int) := by omega
          have hdr : L.drop j = (q : Int) :: L.drop (j + 1) := by
            rw [List.drop_eq_getElem_cons hlt]
            congr 1
            rw [← hq, List.getD_eq_getElem?_getD, List.getElem?_eq_getElem hlt]; rfl
          have HRS2 := Lib.hid (show NR = ((L.drop (j + 1)).foldl (nearStep bx f key n0) (nearStep bx f key n0 (b, l) q)).1 by rw [HRS.out, hdr, List.foldl_cons])
          have DR := Lib.hid (below_via BR.out D6.out)
          obtain ⟨cj, hbvw⟩ := HCJ.out wr BR.out
          obtain ⟨⟨y0, y1, y2, y3⟩, sb⟩ := HBC.out wr DR.out q hqn
          clear hvc hq hdr HRS
          go_wp2_with fail
          refine (HOW.out wr q hqn).mono ?_
          have HIT := Lib.hid (selfR_in (clipR bx q))
          obtain ⟨t, ht⟩ : ∃ t, t = seenR bx q := ⟨_, rfl⟩
          have HTR := Lib.hid ht
          rw [show selfR (clipR bx q) = t from ht.symm] at HIT
          rw [← ht]
          rintro e w7 ⟨rfl, hb⟩
          have R7 := Lib.hid (below_via hb BR.out)
          clear hb ht cj hbvw y0 y1 y2 y3 sb
          go_wp2_with fail
          obtain ⟨gt, hgt⟩ : ∃ gt, gt = w7.heap.size := ⟨_, rfl⟩
          obtain ⟨w8, hw8⟩ : ∃ w8, w8 = w7.alloc (.cells #[.int .i64 t.x, .int .i64 t.y, .int .i64 t.w, .int .i64 t.h] 77) := ⟨_, rfl⟩
          have C8 : Below w7.heap.size w7 w8 := by rw [hw8]; exact below_al (Below.refl _ _) _
          have R8 := Lib.hid (below_via C8 R7.out)
          have HG8 := Lib.hid (show w8.heap[gt]? = some (.cells #[.int .i64 t.x, .int .i64 t.y, .int .i64 t.w, .int .i64 t.h] 77 (0, 0)) by rw [hw8, hgt]; exact heap_alloc_new _ _)
          have htx := HIT.out.x
          have hty := HIT.out.y
          have htw := HIT.out.w
          have hth := HIT.out.h
          rw [← hw8, ← hgt]
          clear C8 hw8 hgt
          refine (ref_Empty_any t.x t.y t.w t.h w8 (by omega) (by omega) (by omega) (by omega)).mono ?_
          rintro e w9 ⟨rfl, hb⟩
          have R9 := Lib.hid (below_via hb R8.out)
          have HG9 := Lib.hid ((hb.block _ (lt_of_block HG8.out)).trans HG8.out)
          have HF9 := Lib.hid ((R9.out.block _ (lt_of_block HK6.out)).trans HK6.out)
          clear hb R8 HG8
          have f0 : w9.cell? ⟨gf, 0, none⟩ = some (.int .i64 f.x) := by rw [cell_of_row _ _ _ _ _ _ HF9.out]; rfl
          have f1 : w9.cell? ⟨gf, 1, none⟩ = some (.int .i64 f.y) := by rw [cell_of_row _ _ _ _ _ _ HF9.out]; rfl
          have f2 : w9.cell? ⟨gf, 2, none⟩ = some (.int .i64 f.w) := by rw [cell_of_row _ _ _ _ _ _ HF9.out]; rfl
          have f3 : w9.cell? ⟨gf, 3, none⟩ = some (.int .i64 f.h) := by rw [cell_of_row _ _ _ _ _ _ HF9.out]; rfl
          have t0 : w9.cell? ⟨gt, 0, none⟩ = some (.int .i64 t.x) := by rw [cell_of_row _ _ _ _ _ _ HG9.out]; rfl
          have t1 : w9.cell? ⟨gt, 1, none⟩ = some (.int .i64 t.y) := by rw [cell_of_row _ _ _ _ _ _ HG9.out]; rfl
          have t2 : w9.cell? ⟨gt, 2, none⟩ = some (.int .i64 t.w) := by rw [cell_of_row _ _ _ _ _ _ HG9.out]; rfl
          have t3 : w9.cell? ⟨gt, 3, none⟩ = some (.int .i64 t.h) := by rw [cell_of_row _ _ _ _ _ _ HG9.out]; rfl
          have zf := lt_of_block HF9.out
          have zg := lt_of_block HG9.out
          go_wp2_with fail
          refine (ref_behind_any f t key w9 HIF.out HIT.out).mono ?_
          have hfb := farI_bd HIF.out HIT.out key
          have HFB := Lib.hid (show farB f t key = farI f t key ∨ (farB f t key = 0 ∧ liesB f t key = false) from by
            unfold farB
            split
            · exact .inl rfl
            · rename_i hk
              refine .inr ⟨rfl, ?_⟩
              unfold liesB
              rw [if_neg (fun e => hk (.inl e)), if_neg (fun e => hk (.inr (.inl e))), if_neg (fun e => hk (.inr (.inr (.inl e)))), if_neg (fun e => hk (.inr (.inr (.inr e))))])
          have HST := Lib.hid (fun (h : (q : Int) = (n0 : Int) ∨ okB t.x t.y t.w t.h = false) => show nearStep bx f key n0 (b, l) q = (b, l) from step_skip (h.imp id (fun h => by rw [← HTR.out]; exact h)))
          have HNQ := Lib.hid (fun (h1 : (q : Int) ≠ (n0 : Int)) (h2 : okB t.x t.y t.w t.h = true) => show ¬ ((q : Int) = (n0 : Int) ∨ okR4 (seenR bx q) = false) from fun h => h.elim h1 (fun h => by rw [← HTR.out] at h; have h' : okB t.x t.y t.w t.h = false := h; rw [h2] at h'; cases h'))
          have HTK := Lib.hid (fun h1 h2 (F : Int) (hF : farI f t key = F) (h3 : liesB f t key = true) (h4 : b < 0 ∨ F < l) => show nearStep bx f key n0 (b, l) q = ((q : Int), F) by
            have h5 : liesB f (seenR bx q) key = true ∧ ((b, l).1 < 0 ∨ farI f (seenR bx q) key < (b, l).2) := by rw [← HTR.out, hF]; exact ⟨h3, h4⟩
            rw [step_take (HNQ.out h1 h2) h5, ← HTR.out, hF])
          have HSK := Lib.hid (fun h1 h2 (F : Int) (hF : farI f t key = F) (h3 : liesB f t key = false ∨ (¬ b < 0 ∧ ¬ F < l)) => show nearStep bx f key n0 (b, l) q = (b, l) by
            refine step_not (HNQ.out h1 h2) (fun h => ?_)
            rw [← HTR.out, hF] at h
            rcases h3 with h3 | h3
            · rw [h3] at h; cases h.1
            · exact h.2.elim h3.1 h3.2)
          generalize hfa : farI f t key = FA at *
          generalize hfbb : farB f t key = FB at *
          generalize hli : liesB f t key = LI at *
          generalize hok : okB t.x t.y t.w t.h = OK at *
          clear hfa hfbb hli hok
          rintro e w10 ⟨rfl, hb⟩
          have R10 := Lib.hid (below_via hb R9.out)
          obtain ⟨cj, hbvw⟩ := HCJ.out w10 R10.out
          clear hb f0 f1 f2 f3 t0 t1 t2 t3 zf zg R9 HG9 HF9
          by_cases hqa : (q : Int) = (n0 : Int)
          · have HS := Lib.hid (HST.out (.inl hqa))
            rw [HS.out] at HRS2
            have k3 : ((q : Int) != (n0 : Int)) = false := by rw [hqa]; simp
            clear hqa HS HST HNQ HTK HSK HFB
            go_wp2
            go_roundw
            case rel => exact ⟨j + 1, b, l, by go_num, rfl, rfl, by omega, HRS2, hb0, hb1, hl0, hl1, R10⟩
            case measure => simp [intOf]; omega
          · have k3 : ((q : Int) != (n0 : Int)) = true := by rw [bne_iff_ne]; exact hqa
            cases OK with
            | false =>
              have HS := Lib.hid (HST.out (.inr rfl))
              rw [HS.out] at HRS2
              clear hqa HS HST HNQ HTK HSK HFB
              go_wp2
              go_roundw
              case rel => exact ⟨j + 1, b, l, by go_num, rfl, rfl, by omega, HRS2, hb0, hb1, hl0, hl1, R10⟩
              case measure => simp [intOf]; omega
            | true =>
              cases LI with
              | false =>
                have HS := Lib.hid (HSK.out hqa rfl FA rfl (.inl rfl))
                rw [HS.out] at HRS2
                clear hqa HS HST HNQ HTK HSK HFB
                go_wp2
                go_roundw
                case rel => exact ⟨j + 1, b, l, by go_num, rfl, rfl, by omega, HRS2, hb0, hb1, hl0, hl1, R10⟩
                case measure => simp [intOf]; omega
              | true =>
                obtain rfl : FB = FA := by
                  rcases HFB.out with h | ⟨_, h⟩
                  · exact h
                  · cases h
                rcases (show b < 0 ∨ (0 ≤ b ∧ FB < l) ∨ (0 ≤ b ∧ l ≤ FB) by omega) with hb | ⟨hb, hf⟩ | ⟨hb, hf⟩
                · have HS := Lib.hid (HTK.out hqa rfl FB rfl rfl (.inl hb))
                  rw [HS.out] at HRS2
                  clear hqa HS HST HNQ HTK HSK HFB
                  go_wp2
                  go_roundw
                  case rel => exact ⟨j + 1, q, FB, by go_num, rfl, rfl, by omega, HRS2, by omega, by omega, by omega, by omega, R10⟩
                  case measure => simp [intOf]; omega
                · have HS := Lib.hid (HTK.out hqa rfl FB rfl rfl (.inr hf))
                  rw [HS.out] at HRS2
                  clear hqa HS HST HNQ HTK HSK HFB
                  go_wp2
                  go_roundw
                  case rel => exact ⟨j + 1, q, FB, by go_num, rfl, rfl, by omega, HRS2, by omega, by omega, by omega, by omega, R10⟩
                  case measure => simp [intOf]; omega
                · have HS := Lib.hid (HSK.out hqa rfl FB rfl (.inr ⟨by omega, by omega⟩))
                  rw [HS.out] at HRS2
                  clear hqa HS HST HNQ HTK HSK HFB
                  go_wp2
                  go_roundw
                  case rel => exact ⟨j + 1, b, l, by go_num, rfl, rfl, by omega, HRS2, hb0, hb1, hl0, hl1, R10⟩
                  case measure => simp [intOf]; omega
        · obtain rfl : j = L.length := by omega
          have HE := Lib.hid (HP.out b wr (by rw [HRS.out, List.drop_length]; rfl) (below_via (below_via BR.out D6.out) C1.out))
          clear HRS HFD
          go_wp2
          exact HE.out
end Go.Proofs.Ytihjefncjkdnpaa
