/- Focus: the law's far and lies; the nearest one is the first of the least. -/
import Derived.Test.YtihjefncjkdnpaaFoU
namespace Go.Proofs.Ytihjefncjkdnpaa
open Go.RowKit Go.Deep
set_option linter.unusedVariables false
set_option linter.unusedSimpArgs false

set_option maxHeartbeats 4000000 in
theorem far_q (a n b m : Int) (w : World) (ha : -4194304 ≤ a ∧ a ≤ 4194304) (hn : 0 ≤ n ∧ n ≤ 4194304) (hb : -4194304 ≤ b ∧ b ≤ 4194304) (hm : 0 ≤ m ∧ m ≤ 4194304) : Calls Try.prog 64 #[.int .i64 a, .int .i64 n, .int .i64 b, .int .i64 m] w fun e w' => e = .returned (.int .i64 (gapI a n b m)) ∧ w' = w := by
  go_enter Try.func64, Try.ntmps64
  go_wp2
  all_goals
    go_ret
    refine ⟨ret_int ?_, rfl⟩
    unfold gapI
    omega
set_option maxRecDepth 100000 in
set_option maxHeartbeats 16000000 in
theorem law_lies_any (f t : R4) (key : Int) (w : World) (hf : InP f) (ht : InP t) : Calls Try.prog 32 #[.agg #[.int .i64 f.x, .int .i64 f.y, .int .i64 f.w, .int .i64 f.h], .agg #[.int .i64 t.x, .int .i64 t.y, .int .i64 t.w, .int .i64 t.h], .int .i32 key] w fun e w' => e = .returned (.tuple #[.bool (liesB f t key), .int .i64 (farB f t key)]) ∧ Below w.heap.size w w' := by
  have hfx := hf.x; have hfy := hf.y; have hfw := hf.w; have hfh := hf.h
  have htx := ht.x; have hty := ht.y; have htw := ht.w; have hth := ht.h
  obtain ⟨⟨hgx0, hgx1⟩, hgy0, hgy1⟩ := gapI_bd hf ht
  obtain ⟨Lb, hL⟩ : ∃ x, x = liesB f t key := ⟨_, rfl⟩
  obtain ⟨Fb, hF⟩ : ∃ x, x = farB f t key := ⟨_, rfl⟩
  have HL := Lib.hid hL
  have HF := Lib.hid hF
  rw [← hL, ← hF]
  obtain ⟨gx, hgx⟩ : ∃ gx, gx = gapI f.x f.w t.x t.w := ⟨_, rfl⟩
  obtain ⟨gy, hgy⟩ : ∃ gy, gy = gapI f.y f.h t.y t.h := ⟨_, rfl⟩
  rw [← hgx] at hgx0 hgx1
  rw [← hgy] at hgy0 hgy1
  have HX := Lib.hid hgx
  have HY := Lib.hid hgy
  have HAX := Lib.hid (fun w => show Calls Try.prog 64 #[.int .i64 f.x, .int .i64 f.w, .int .i64 t.x, .int .i64 t.w] w fun e w' => e = .returned (.int .i64 gx) ∧ w' = w by rw [hgx]; exact far_q _ _ _ _ _ (by omega) (by omega) (by omega) (by omega))
  have HAY := Lib.hid (fun w => show Calls Try.prog 64 #[.int .i64 f.y, .int .i64 f.h, .int .i64 t.y, .int .i64 t.h] w fun e w' => e = .returned (.int .i64 gy) ∧ w' = w by rw [hgy]; exact far_q _ _ _ _ _ (by omega) (by omega) (by omega) (by omega))
  obtain ⟨W1, hW1⟩ : ∃ W1, W1 = (w.alloc (.cells #[.int .i64 f.x, .int .i64 f.y, .int .i64 f.w, .int .i64 f.h] 77)).alloc (.cells #[.int .i64 t.x, .int .i64 t.y, .int .i64 t.w, .int .i64 t.h] 77) := ⟨_, rfl⟩
  have C1 := Lib.hid (show Below w.heap.size w W1 by rw [hW1]; exact below_al (below_al (Below.refl _ _) _) _)
  have KF := Lib.hid (show W1.heap[w.heap.size]? = some (.cells #[.int .i64 f.x, .int .i64 f.y, .int .i64 f.w, .int .i64 f.h] 77 (0, 0)) by rw [hW1]; exact (heap_alloc_old _ _ (by simp)).trans (heap_alloc_new _ _))
  have KT := Lib.hid (show W1.heap[w.heap.size + 1]? = some (.cells #[.int .i64 t.x, .int .i64 t.y, .int .i64 t.w, .int .i64 t.h] 77 (0, 0)) by
    rw [hW1]
    have := heap_alloc_new (w.alloc (.cells #[.int .i64 f.x, .int .i64 f.y, .int .i64 f.w, .int .i64 f.h] 77)) (.cells #[.int .i64 t.x, .int .i64 t.y, .int .i64 t.w, .int .i64 t.h] 77)
    rwa [World.size_alloc] at this)
  have HW1 := Lib.hid hW1
  clear hL hF hgx hgy hf ht hW1
  go_enter Try.func32, Try.ntmps32
  go_upto_region 1 with (fail)
  rw [← HW1.out]
  clear HW1
  have f0 : W1.cell? ⟨w.heap.size, 0, none⟩ = some (.int .i64 f.x) := by rw [cell_of_row _ _ _ _ _ _ KF.out]; rfl
  have f1 : W1.cell? ⟨w.heap.size, 1, none⟩ = some (.int .i64 f.y) := by rw [cell_of_row _ _ _ _ _ _ KF.out]; rfl
  have f2 : W1.cell? ⟨w.heap.size, 2, none⟩ = some (.int .i64 f.w) := by rw [cell_of_row _ _ _ _ _ _ KF.out]; rfl
  have f3 : W1.cell? ⟨w.heap.size, 3, none⟩ = some (.int .i64 f.h) := by rw [cell_of_row _ _ _ _ _ _ KF.out]; rfl
  have t0 : W1.cell? ⟨w.heap.size + 1, 0, none⟩ = some (.int .i64 t.x) := by rw [cell_of_row _ _ _ _ _ _ KT.out]; rfl
  have t1 : W1.cell? ⟨w.heap.size + 1, 1, none⟩ = some (.int .i64 t.y) := by rw [cell_of_row _ _ _ _ _ _ KT.out]; rfl
  have t2 : W1.cell? ⟨w.heap.size + 1, 2, none⟩ = some (.int .i64 t.w) := by rw [cell_of_row _ _ _ _ _ _ KT.out]; rfl
  have t3 : W1.cell? ⟨w.heap.size + 1, 3, none⟩ = some (.int .i64 t.h) := by rw [cell_of_row _ _ _ _ _ _ KT.out]; rfl
  have zf := lt_of_block KF.out
  have zt := lt_of_block KT.out
  go_quiet ((go_at_call 64; first | (with_reducible exact Calls.quiet_of_same (HAX.out _)) | (with_reducible exact Calls.quiet_of_same (HAY.out _))))
  rename Nat => nq
  generalize hq2 : W1.drewN nq = W2
  have C2 := Lib.hid (show Below w.heap.size w W2 by rw [← hq2]; exact below_drewNf C1.out nq)
  have KF2 := Lib.hid (show W2.heap[w.heap.size]? = some (.cells #[.int .i64 f.x, .int .i64 f.y, .int .i64 f.w, .int .i64 f.h] 77 (0, 0)) by rw [← hq2]; exact KF.out)
  have KT2 := Lib.hid (show W2.heap[w.heap.size + 1]? = some (.cells #[.int .i64 t.x, .int .i64 t.y, .int .i64 t.w, .int .i64 t.h] 77 (0, 0)) by rw [← hq2]; exact KT.out)
  clear hq2 f0 f1 f2 f3 t0 t1 t2 t3 zf zt KF KT C1
  have f0 : W2.cell? ⟨w.heap.size, 0, none⟩ = some (.int .i64 f.x) := by rw [cell_of_row _ _ _ _ _ _ KF2.out]; rfl
  have f1 : W2.cell? ⟨w.heap.size, 1, none⟩ = some (.int .i64 f.y) := by rw [cell_of_row _ _ _ _ _ _ KF2.out]; rfl
  have f2 : W2.cell? ⟨w.heap.size, 2, none⟩ = some (.int .i64 f.w) := by rw [cell_of_row _ _ _ _ _ _ KF2.out]; rfl
  have f3 : W2.cell? ⟨w.heap.size, 3, none⟩ = some (.int .i64 f.h) := by rw [cell_of_row _ _ _ _ _ _ KF2.out]; rfl
  have t0 : W2.cell? ⟨w.heap.size + 1, 0, none⟩ = some (.int .i64 t.x) := by rw [cell_of_row _ _ _ _ _ _ KT2.out]; rfl
  have t1 : W2.cell? ⟨w.heap.size + 1, 1, none⟩ = some (.int .i64 t.y) := by rw [cell_of_row _ _ _ _ _ _ KT2.out]; rfl
  have t2 : W2.cell? ⟨w.heap.size + 1, 2, none⟩ = some (.int .i64 t.w) := by rw [cell_of_row _ _ _ _ _ _ KT2.out]; rfl
  have t3 : W2.cell? ⟨w.heap.size + 1, 3, none⟩ = some (.int .i64 t.h) := by rw [cell_of_row _ _ _ _ _ _ KT2.out]; rfl
  have zf := lt_of_block KF2.out
  have zt := lt_of_block KT2.out
  rcases (show key = 7 ∨ key = 8 ∨ key = 6 ∨ key = 5 ∨ (key ≠ 7 ∧ key ≠ 8 ∧ key ≠ 6 ∧ key ≠ 5) by omega) with rfl | rfl | rfl | rfl | ⟨e7, e8, e6, e5⟩
  · have HE := Lib.hid (show farB f t 7 = gx + 2 * gy by unfold farB farI; simp only [← HX.out, ← HY.out]; simp; try omega)
    by_cases hl : f.x + f.w ≤ t.x
    · have HE2 := Lib.hid (show liesB f t 7 = true by unfold liesB; simp; omega)
      clear HX HY HAX HAY
      go_wp2
      go_ret2
      exact ⟨by rw [HL.out, HF.out, HE.out, HE2.out]; rfl, C2.out⟩
    · have HE2 := Lib.hid (show liesB f t 7 = false by unfold liesB; simp; omega)
      clear HX HY HAX HAY
      go_wp2
      go_ret2
      exact ⟨by rw [HL.out, HF.out, HE.out, HE2.out]; rfl, C2.out⟩
  · have HE := Lib.hid (show farB f t 8 = gx + 2 * gy by unfold farB farI; simp only [← HX.out, ← HY.out]; simp; try omega)
    by_cases hl : t.x + t.w ≤ f.x
    · have HE2 := Lib.hid (show liesB f t 8 = true by unfold liesB; simp; omega)
      clear HX HY HAX HAY
      go_wp2
      go_ret2
      exact ⟨by rw [HL.out, HF.out, HE.out, HE2.out]; rfl, C2.out⟩
    · have HE2 := Lib.hid (show liesB f t 8 = false by unfold liesB; simp; omega)
      clear HX HY HAX HAY
      go_wp2
      go_ret2
      exact ⟨by rw [HL.out, HF.out, HE.out, HE2.out]; rfl, C2.out⟩
  · have HE := Lib.hid (show farB f t 6 = gy + 2 * gx by unfold farB farI; simp only [← HX.out, ← HY.out]; simp; try omega)
    by_cases hl : f.y + f.h ≤ t.y
    · have HE2 := Lib.hid (show liesB f t 6 = true by unfold liesB; simp; omega)
      clear HX HY HAX HAY
      go_wp2
      go_ret2
      exact ⟨by rw [HL.out, HF.out, HE.out, HE2.out]; rfl, C2.out⟩
    · have HE2 := Lib.hid (show liesB f t 6 = false by unfold liesB; simp; omega)
      clear HX HY HAX HAY
      go_wp2
      go_ret2
      exact ⟨by rw [HL.out, HF.out, HE.out, HE2.out]; rfl, C2.out⟩
  · have HE := Lib.hid (show farB f t 5 = gy + 2 * gx by unfold farB farI; simp only [← HX.out, ← HY.out]; simp; try omega)
    by_cases hl : t.y + t.h ≤ f.y
    · have HE2 := Lib.hid (show liesB f t 5 = true by unfold liesB; simp; omega)
      clear HX HY HAX HAY
      go_wp2
      go_ret2
      exact ⟨by rw [HL.out, HF.out, HE.out, HE2.out]; rfl, C2.out⟩
    · have HE2 := Lib.hid (show liesB f t 5 = false by unfold liesB; simp; omega)
      clear HX HY HAX HAY
      go_wp2
      go_ret2
      exact ⟨by rw [HL.out, HF.out, HE.out, HE2.out]; rfl, C2.out⟩
  · have HE := Lib.hid (show farB f t key = 0 by unfold farB; rw [if_neg (by omega)])
    have HE2 := Lib.hid (show liesB f t key = false by unfold liesB; rw [if_neg e7, if_neg e8, if_neg e6, if_neg e5])
    have d7 : (key == 7) = false := beq_eq_false_iff_ne.2 e7
    have d8 : (key == 8) = false := beq_eq_false_iff_ne.2 e8
    have d6 : (key == 6) = false := beq_eq_false_iff_ne.2 e6
    have d5 : (key == 5) = false := beq_eq_false_iff_ne.2 e5
    clear e7 e8 e6 e5 HX HY HAX HAY
    go_wp2
    go_ret2
    exact ⟨by rw [HL.out, HF.out, HE.out, HE2.out]; rfl, C2.out⟩

theorem ok_seen (r : R4) : okR4 (selfR r) = okR4 r := by
  cases h : okR4 r with
  | false => rw [selfR_no h]; decide
  | true =>
    have h' : okB r.x r.y r.w r.h = true := h
    have hs := okB_spec.1 h'
    have l1 := rlo_bd r.x; have l2 := rlo_bd r.y
    have u1 := rhi_bd r.x r.w; have u2 := rhi_bd r.y r.h
    rw [selfR_ok h, mk_in _ _ _ _ l1 hs.1 u1 l2 hs.2 u2]
    exact ok_in _ _ _ _ l1 hs.1 u1 l2 hs.2 u2
/-- may n be the answer? -/
def candB (bx : Nat → Nat → Int) (f : R4) (key at' : Int) (n : Int) : Prop := n ≠ at' ∧ okR4 (seenR bx n.toNat) = true ∧ liesB f (seenR bx n.toNat) key = true
def farN (bx : Nat → Nat → Int) (f : R4) (key : Int) (n : Int) : Int := farI f (seenR bx n.toNat) key
theorem step_cand {bx : Nat → Nat → Int} {f : R4} {key at' : Int} {st : Int × Int} {n : Int} (h : candB bx f key at' n) (h2 : st.1 < 0 ∨ farN bx f key n < st.2) : nearStep bx f key at' st n = (n, farN bx f key n) := by
  unfold nearStep
  rw [if_neg (fun e => e.elim h.1 (fun e => by rw [h.2.1] at e; cases e)), if_pos ⟨h.2.2, h2⟩]
  rfl
theorem step_keep {bx : Nat → Nat → Int} {f : R4} {key at' : Int} {st : Int × Int} {n : Int} (h : ¬ (candB bx f key at' n ∧ (st.1 < 0 ∨ farN bx f key n < st.2))) : nearStep bx f key at' st n = st := by
  unfold nearStep
  by_cases h1 : n = at' ∨ okR4 (seenR bx n.toNat) = false
  · rw [if_pos h1]
  · rw [if_neg h1, if_neg (fun e => h ⟨⟨fun e' => h1 (.inl e'), by cases ho : okR4 (seenR bx n.toNat) with | true => rfl | false => exact absurd (.inr ho) h1, e.1⟩, e.2⟩)]
/-- what stands after j steps -/
def NearI (bx : Nat → Nat → Int) (f : R4) (key at' : Int) (L : List Int) (j : Nat) (st : Int × Int) : Prop :=
  (st = (-1, 0) ∧ ∀ i, i < j → ¬ candB bx f key at' (L.getD i 0)) ∨
  ∃ j0, j0 < j ∧ st = (L.getD j0 0, farN bx f key (L.getD j0 0)) ∧ candB bx f key at' (L.getD j0 0) ∧ ∀ i, i < j → candB bx f key at' (L.getD i 0) → farN bx f key (L.getD j0 0) ≤ farN bx f key (L.getD i 0) ∧ (i < j0 → farN bx f key (L.getD j0 0) < farN bx f key (L.getD i 0))
theorem near_inv {bx : Nat → Nat → Int} {f : R4} {key at' : Int} {L : List Int} (h0 : ∀ i, i < L.length → 0 ≤ L.getD i 0) : ∀ j, j ≤ L.length → NearI bx f key at' L j ((L.take j).foldl (nearStep bx f key at') (-1, 0))
  | 0, _ => .inl ⟨rfl, fun i hi => absurd hi (Nat.not_lt_zero _)⟩
  | j + 1, hj => by
    have ih := near_inv (bx := bx) (f := f) (key := key) (at' := at') h0 j (by omega)
    have ht : L.take (j + 1) = L.take j ++ [L.getD j 0] := by
      rw [List.take_add_one, List.getD_eq_getElem?_getD, List.getElem?_eq_getElem (by omega)]; rfl
    rw [ht, List.foldl_append]
    show NearI bx f key at' L (j + 1) (nearStep bx f key at' ((L.take j).foldl (nearStep bx f key at') (-1, 0)) (L.getD j 0))
    generalize (L.take j).foldl (nearStep bx f key at') (-1, 0) = st at *
    by_cases hc : candB bx f key at' (L.getD j 0)
    · rcases ih with ⟨rfl, hn⟩ | ⟨j0, hj0, rfl, hc0, hm⟩
      · rw [step_cand hc (.inl (by decide))]
        refine .inr ⟨j, by omega, rfl, hc, fun i hi hci => ?_⟩
        have : i = j := by
          rcases Nat.lt_or_ge i j with h | h
          · exact absurd hci (hn i h)
          · omega
        subst this
        exact ⟨Int.le_refl _, fun h => absurd h (Nat.lt_irrefl _)⟩
      · have hp := h0 j0 (by omega)
        by_cases hl : farN bx f key (L.getD j 0) < farN bx f key (L.getD j0 0)
        · rw [step_cand hc (.inr hl)]
          refine .inr ⟨j, by omega, rfl, hc, fun i hi hci => ?_⟩
          rcases Nat.lt_or_ge i j with h | h
          · have := (hm i h hci).1
            exact ⟨by omega, fun _ => by omega⟩
          · have : i = j := by omega
            subst this
            exact ⟨Int.le_refl _, fun h => absurd h (Nat.lt_irrefl _)⟩
        · rw [step_keep (fun e => e.2.elim (fun e => by have e' : L.getD j0 0 < 0 := e; omega) hl)]
          refine .inr ⟨j0, by omega, rfl, hc0, fun i hi hci => ?_⟩
          rcases Nat.lt_or_ge i j with h | h
          · exact hm i h hci
          · have : i = j := by omega
            subst this
            exact ⟨by omega, fun h => by omega⟩
    · rw [step_keep (fun e => hc e.1)]
      rcases ih with ⟨rfl, hn⟩ | ⟨j0, hj0, rfl, hc0, hm⟩
      · refine .inl ⟨rfl, fun i hi hci => ?_⟩
        rcases Nat.lt_or_ge i j with h | h
        · exact hn i h hci
        · have : i = j := by omega
          subst this
          exact hc hci
      · refine .inr ⟨j0, by omega, rfl, hc0, fun i hi hci => ?_⟩
        rcases Nat.lt_or_ge i j with h | h
        · exact hm i h hci
        · have : i = j := by omega
          subst this
          exact absurd hci hc
theorem near_spec {T : List Nd} {nb : Nat} {bx : Nat → Nat → Int} {at' key : Int} (h : ¬ ((checkT T).1 ≠ 0 ∨ nb ≠ T.length ∨ at' < 0 ∨ (nb : Int) ≤ at')) (h2 : okR4 (seenR bx at'.toNat) = true) :
    (nearR T nb bx at' key = -1 ∧ ∀ i, i < (fosL T).length → ¬ candB bx (seenR bx at'.toNat) key at' ((fosL T).getD i 0)) ∨
    ∃ j0, j0 < (fosL T).length ∧ nearR T nb bx at' key = (fosL T).getD j0 0 ∧ candB bx (seenR bx at'.toNat) key at' ((fosL T).getD j0 0) ∧ ∀ i, i < (fosL T).length → candB bx (seenR bx at'.toNat) key at' ((fosL T).getD i 0) → farN bx (seenR bx at'.toNat) key ((fosL T).getD j0 0) ≤ farN bx (seenR bx at'.toNat) key ((fosL T).getD i 0) ∧ (i < j0 → farN bx (seenR bx at'.toNat) key ((fosL T).getD j0 0) < farN bx (seenR bx at'.toNat) key ((fosL T).getD i 0)) := by
  have hI := near_inv (bx := bx) (f := seenR bx at'.toNat) (key := key) (at' := at') (L := fosL T) (fun i hi => by
    obtain ⟨q, hq, _⟩ := fos_get hi
    omega) (fosL T).length (Nat.le_refl _)
  rw [List.take_length] at hI
  rw [near_fold h h2]
  rcases hI with ⟨e, hn⟩ | ⟨j0, hj0, e, hc, hm⟩
  · exact .inl ⟨by rw [e], hn⟩
  · exact .inr ⟨j0, hj0, by rw [e], hc, hm⟩
end Go.Proofs.Ytihjefncjkdnpaa
