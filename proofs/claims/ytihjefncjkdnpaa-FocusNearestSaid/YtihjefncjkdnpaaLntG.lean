/- Lent boxes: memory of their own, with marks behind them. -/
import Derived.Test.YtihjefncjkdnpaaLntD
import Derived.Test.YtihjefncjkdnpaaLntBx
namespace Go.Proofs.Ytihjefncjkdnpaa
open Go.RowKit Go.Deep
set_option linter.unusedVariables false
set_option linter.unusedSimpArgs false

def boxV (f : Nat → Int) : List Value := [.int .i64 (f 0), .int .i64 (f 1), .int .i64 (f 2), .int .i64 (f 3), .int .i64 (f 4), .int .i64 (f 5), .int .i64 (f 6), .int .i64 (f 7), .int .i64 (f 8), .int .i64 (f 9), .int .i64 (f 10), .int .i64 (f 11), .int .i64 (f 12), .int .i64 (f 13), .int .i64 (f 14), .int .i64 (f 15), .int .i64 (f 16), .int .i64 (f 17)]
def spF (j : Nat) : Int := if j = 16 then -7 else 0
def boxCells (n : Nat) (bx : Nat → Nat → Int) : List (List Value) := (List.range n).map fun i => boxV (bx i)
theorem boxV_get (f : Nat → Int) (j : Nat) (hj : j < 18) : (boxV f)[j]? = some (.int .i64 (f j)) := by
  rcases j with _ | _ | _ | _ | _ | _ | _ | _ | _ | _ | _ | _ | _ | _ | _ | _ | _ | _ | j <;> first | rfl | omega
theorem boxCells_len (n : Nat) (bx : Nat → Nat → Int) : (boxCells n bx).length = n := by simp [boxCells]
theorem boxCells_get (n : Nat) (bx : Nat → Nat → Int) (i : Nat) (hi : i < n) : (boxCells n bx).getD i [] = boxV (bx i) := by simp [boxCells, List.getD_eq_getElem?_getD, hi]
theorem boxCells_all (n : Nat) (bx : Nat → Nat → Int) : ∀ a ∈ boxCells n bx, a.length = 18 := fun a ha => by
  obtain ⟨i, _, rfl⟩ := List.mem_map.1 ha
  rfl
theorem flat_len {k : Nat} : ∀ (L : List (List Value)), (∀ a ∈ L, a.length = k) → L.flatten.length = L.length * k
  | [], _ => by simp
  | a :: L, h => by rw [List.flatten_cons, List.length_append, h a (by simp), flat_len L (fun b hb => h b (by simp [hb])), List.length_cons, Nat.succ_mul, Nat.add_comm]
theorem BoxAt.src {w : World} {p : Option Addr} {n : Nat} {bx : Nat → Nat → Int} (h : BoxAt w p n bx) : Src w p n 18 (boxCells n bx).flatten := by
  have hl : (boxCells n bx).flatten.length = n * 18 := by rw [flat_len _ (boxCells_all n bx), boxCells_len]
  refine ⟨hl, fun h0 => ?_⟩
  obtain ⟨b, off, e, hz, hc⟩ := h h0
  refine ⟨b, off, e, hz, fun j u hu => ?_⟩
  have hj : j < n * 18 := by
    by_cases h : j < n * 18
    · exact h
    · rw [List.getElem?_eq_none (by omega)] at hu; cases hu
  have e1 : j = (j / 18) * 18 + j % 18 := by omega
  have hi : j / 18 < n := by omega
  rw [e1] at hu ⊢
  rw [flat_get 18 _ (boxCells_all n bx) _ _ (by rw [boxCells_len]; exact hi) (by omega), boxCells_get n bx _ hi, boxV_get _ _ (by omega)] at hu
  rw [hc _ hi _ (by omega)]
  exact hu
def BoxLent (w : World) (B : Nat) (v : Value) (n : Nat) (bx : Nat → Nat → Int) : Prop := ∃ g c, v = .slice (some ⟨g, 0, none⟩) n c ∧ w.ownsRow B 81 18 (.slice (some ⟨g, 0, none⟩) (n + 3) c) (n + 3) (boxCells n bx ++ [boxV spF, boxV spF, boxV spF]).flatten
theorem BoxLent.later {w w' : World} {B : Nat} {v : Value} {n : Nat} {bx : Nat → Nat → Int} (h : BoxLent w B v n bx) (hb : Below w.heap.size w w') : BoxLent w' B v n bx := by
  obtain ⟨g, c, e, h1⟩ := h
  exact ⟨g, c, e, row_later h1 hb⟩
theorem infoBox : (Try.prog.info? 81).map (fun i => (i.zero, i.size, i.bytes)) = some (some (.agg (boxV fun _ => 0).toArray), 18, 144) := by kernel_rfl
theorem box_one (L : List (List Value)) (h : ∀ a ∈ L, ∃ f, a = boxV f) : ∀ u ∈ L.flatten, u.oneCell' = true := fun u hu => by
  obtain ⟨a, ha, hua⟩ := List.mem_flatten.1 hu
  obtain ⟨f, rfl⟩ := h a ha
  simp only [boxV, List.mem_cons, List.not_mem_nil, or_false] at hua
  rcases hua with rfl | rfl | rfl | rfl | rfl | rfl | rfl | rfl | rfl | rfl | rfl | rfl | rfl | rfl | rfl | rfl | rfl | rfl <;> rfl
set_option maxRecDepth 100000 in
set_option maxHeartbeats 16000000 in
theorem lentBoxes_any (p : Option Addr) (n c : Nat) (bx : Nat → Nat → Int) (w : World) (hB : BoxAt w p n bx) (hN : n * 144 ≤ 140737488351232) : Calls Try.prog 26 #[.slice p n c] w fun e w' => ∃ v, e = .returned v ∧ BoxLent w' w.heap.size v n bx ∧ Below w.heap.size w w' := by
  obtain ⟨i0, hi, hz0, hz1, hz2⟩ := info_parts infoBox
  obtain ⟨cur, hcur, mkN⟩ := make_row Try.underlying70 hi hz0 hz1 hz2 (by rfl) n (by omega) (by omega)
  have HI := Lib.hid (And.intro hi (And.intro hz0 (And.intro hz1 hz2)))
  have hlen : n ≤ 977343669106 := by omega
  have OW0 := Lib.hid (World.ownsRow_made (base := w.heap.size) (e := 81) (size := 18) w cur (n + 3) (Nat.le_refl _) (by unfold maxLen; omega) hcur)
  have B0 := below_al (Below.refl w.heap.size w) (.cells cur 81)
  have SR0 := Lib.hid (hB.later B0 (Nat.le_refl _)).src
  have H1 := Lib.hid (box_one (boxCells n bx) (fun a ha => by obtain ⟨i, _, rfl⟩ := List.mem_map.1 ha; exact ⟨_, rfl⟩))
  clear hi hz0 hz1 hz2 hB hcur
  go_enter Try.func26, Try.ntmps26
  go_wp2_with (at_builtin; go_must (refine wpList_append_src _ rfl (.tmp 8) (.tmp 9) 70 rfl w.heap.size 81 i0 _ 18 144 Try.underlying70 HI.out.1 HI.out.2.1 HI.out.2.2.1 HI.out.2.2.2 rfl (by decide) _ 0 [] rfl OW0.out p n c _ rfl SR0.out H1.out ?h1 ?h2 ?h3 ?_))
  case h1 => unfold maxLen; omega
  case h2 => omega
  case h3 => simp
  intro v1 w1 own1 gr1 pl1
  (try simp only [List.nil_append, Nat.zero_add] at own1)
  have B1 : Below w.heap.size w w1 := Below.grown B0 gr1 (by simp) (fun g hg => by simp [Value.ownBlock] at hg; omega)
  have OW1 := Lib.hid (row_later own1 (below_al (Below.refl _ _) (.cells [boxV spF, boxV spF, boxV spF].flatten.toArray 81)))
  have SR1 := Lib.hid (src_new w1 [boxV spF, boxV spF, boxV spF].flatten.toArray 81 3 18 rfl)
  have H2 := Lib.hid (box_one [boxV spF, boxV spF, boxV spF] (fun a ha => ⟨spF, by simp at ha; exact ha⟩))
  have hv1 := Lib.hid (fun g hg => (row_lt own1 g hg).2)
  have hw1 : w.heap.size ≤ w1.heap.size := B1.size
  clear own1 gr1 pl1 OW0 SR0 H1 B0 mkN
  have hnm : n + 3 ≤ maxLen := by unfold maxLen; omega
  go_wp2_with (first | ((with_reducible refine wpList_buildSlice_all _ ?b1 70 81 3 #[(0, .tmp 13), (1, .tmp 15), (2, .tmp 17)] ?b2 i0 _ 18 Try.underlying70 HI.out.1 HI.out.2.1 HI.out.2.2.1 ?b6 [boxV spF, boxV spF, boxV spF] ?b7 ?b3 ?b4 ?b5 ?_); (case b1 => rfl); (case b2 => rfl); (case b6 => decide); (case b7 => rfl); (case b3 => rfl); (case b4 => (intro a ha; simp at ha; rw [ha]; rfl)); (case b5 => (show 3 * 18 ≤ 16777216; decide))) | (at_builtin; go_must (refine wpList_append_src _ rfl (.tmp 11) (.tmp 18) 70 rfl w.heap.size 81 i0 _ 18 144 Try.underlying70 HI.out.1 HI.out.2.1 HI.out.2.2.1 HI.out.2.2.2 rfl (by decide) _ n _ rfl OW1.out (some ⟨w1.heap.size, 0, none⟩) 3 3 _ rfl SR1.out ?q1 hnm ?q2 ?q3 ?_)))
  case q1 => first | exact H2.out | (intro u hu; exact H2.out u (by simp [hu]))
  case q2 => omega
  case q3 => first | omega | (simp; omega)
  intro v2 w2 own2 gr2 pl2
  have gr2' : (w1.alloc (.cells [boxV spF, boxV spF, boxV spF].flatten.toArray 81)).grownBy w2 v1.ownBlock := by simpa using gr2
  have B2 : Below w.heap.size w w2 := Below.grown (below_al B1 _) gr2' (by simp; omega) (fun g hg => by have := hv1.out g hg; omega)
  have own2' : w2.ownsRow w.heap.size 81 18 v2 (n + 3) (boxCells n bx ++ [boxV spF, boxV spF, boxV spF]).flatten := by simpa using own2
  rcases row_form own2' with ⟨_, h0, _⟩ | ⟨g, c2, rfl, hn2, hm2, hz2, hb2⟩
  · omega
  have LA := Lib.hid (show BoxLent w2 w.heap.size (.slice (some ⟨g, 0, none⟩) n c2) n bx from ⟨g, c2, rfl, own2'⟩)
  have hlk' : (n : Int) ≤ (c2 : Int) := by omega
  clear own2 gr2 gr2' own2' OW1 SR1 H2 hv1 pl2 B1
  go_wp2
  go_ret
  exact ⟨_, rfl, LA.out, B2⟩
theorem loadBox {w : World} {b o : Nat} {f : Nat → Int} (hc : w.rangeAt b o (boxV f)) : w.rangeAt b o (boxV f) := hc
theorem neqBox (f : Nat → Int) (w : World) : (binOp .neq 81 (.agg (boxV f).toArray) (.agg (boxV f).toArray)).run Try.prog w = .ok (.bool false) w := by
  simp [boxV, go_sem]
theorem infoBoxS (f : Nat → Int) : (Try.prog.info? 81).map (·.size) = some (boxV f).length := by kernel_rfl
theorem BoxLent.cells {w : World} {B : Nat} {v : Value} {n : Nat} {bx : Nat → Nat → Int} (h : BoxLent w B v n bx) : ∃ g c, v = .slice (some ⟨g, 0, none⟩) n c ∧ n + 3 ≤ c ∧ c ≤ maxLen ∧ g < w.heap.size ∧ (∀ i, i < n → w.rangeAt g (i * 18) (boxV (bx i))) ∧ (∀ i, n ≤ i → i < n + 3 → w.rangeAt g (i * 18) (boxV spF)) := by
  obtain ⟨g, c, e, hr⟩ := h
  have hlen : ∀ a ∈ boxCells n bx ++ [boxV spF, boxV spF, boxV spF], a.length = 18 := fun a ha => by
    rw [List.mem_append] at ha
    rcases ha with ha | ha
    · exact boxCells_all n bx a ha
    · simp at ha; rw [ha]; rfl
  have key : ∀ i, i < n + 3 → w.rangeAt g (i * 18) ((boxCells n bx ++ [boxV spF, boxV spF, boxV spF]).getD i []) := fun i hi j u hu => by
    have hj : j < 18 := by
      have hm : i < (boxCells n bx ++ [boxV spF, boxV spF, boxV spF]).length := by simp [boxCells_len]; omega
      have : ((boxCells n bx ++ [boxV spF, boxV spF, boxV spF]).getD i []).length = 18 := hlen _ (by rw [List.getD_eq_getElem?_getD, List.getElem?_eq_getElem hm]; exact List.getElem_mem hm)
      by_cases h : j < 18
      · exact h
      · rw [List.getElem?_eq_none (by omega)] at hu; cases hu
    have := row_cells hr (i * 18 + j) u (by rw [flat_get 18 _ hlen i j (by simp [boxCells_len]; omega) hj]; exact hu)
    rwa [Nat.zero_add] at this
  rcases row_form hr with ⟨e', _⟩ | ⟨g', c', e', h1, h2, h3, _⟩
  · cases e'
  · injection e' with e1 _ e3
    injection e1 with e1
    injection e1 with e1
    subst e1 e3
    refine ⟨g, c, e, h1, h2, h3, fun i hi => ?_, fun i hi hi' => ?_⟩
    · have := key i (by omega)
      rwa [List.getD_eq_getElem?_getD, List.getElem?_append_left (by rw [boxCells_len]; exact hi), ← List.getD_eq_getElem?_getD, boxCells_get n bx i hi] at this
    · have := key i hi'
      rw [List.getD_eq_getElem?_getD, List.getElem?_append_right (by rw [boxCells_len]; exact hi), boxCells_len] at this
      have hz : i - n = 0 ∨ i - n = 1 ∨ i - n = 2 := by omega
      rcases hz with e | e | e <;> rw [e] at this <;> simpa using this
set_option maxRecDepth 100000 in
set_option maxHeartbeats 16000000 in
theorem keptBoxes_any (v : Value) (p : Option Addr) (n c B : Nat) (bx : Nat → Nat → Int) (w : World) (hL : BoxLent w B v n bx) (hB : BoxAt w p n bx) : Calls Try.prog 29 #[v, .slice p n c] w fun e w' => e = .returned (.bool true) ∧ Below w.heap.size w w' := by
  obtain ⟨g, cg, rfl, hlk, hlm, hg, hnd, hsp⟩ := hL.cells
  have hlm' : cg ≤ 9223372036854775807 := hlm
  have hlk' : (n : Int) + 3 ≤ (cg : Int) := by omega
  have hn : n ≤ 9223372036854775804 := by omega
  have HND := Lib.hid hnd
  have HSP := Lib.hid hsp
  have HB := Lib.hid hB
  clear hL hB hnd hsp hlm
  go_enter Try.func29, Try.ntmps29
  go_wp2
  go_loopw [14] (fun i wr => ∃ k : Nat, k ≤ n + 3 ∧ i = .int .i64 k ∧ Below w.heap.size w wr) (fun i _ => n + 3 - (intOf i).toNat)
  case atStart => exact ⟨0, Nat.zero_le _, rfl, Below.refl _ _⟩
  case round =>
    obtain ⟨k, hk, rfl, BW⟩ := hrel
    have SW := BW.size
    rcases (show k < n ∨ (n ≤ k ∧ k < n + 3) ∨ k = n + 3 by omega) with hlt | ⟨hge, hlt⟩ | rfl
    · have hki : (k : Int) < (n : Int) := by omega
      have hki2 : (k : Int) < (n : Int) + 3 := by omega
      have d1 : decide (n ≤ k) = false := by rw [decide_eq_false_iff_not]; omega
      have d2 : decide ((n : Int) ≤ (k : Int)) = false := by rw [decide_eq_false_iff_not]; omega
      have d3 : decide (k < n) = true := by rw [decide_eq_true_eq]; omega
      obtain ⟨b, off, rfl, hb, hbx⟩ := HB.out (by omega)
      have R1 := Lib.hid (HND.out k hlt)
      have R2 : RowKit.Hid (w.rangeAt b (off + k * 18) (boxV (bx k))) := Lib.hid (fun j u hu => by
        have hj : j < 18 := by
          by_cases h : j < 18
          · exact h
          · rw [List.getElem?_eq_none (by simp [boxV]; omega)] at hu; cases hu
        rw [boxV_get _ _ hj] at hu
        rw [Nat.add_assoc, hbx k hlt j hj]; exact hu)
      have LN := Lib.hid (infoBoxS (bx k))
      have nq := neqBox (bx k)
      generalize boxV (bx k) = bs at *
      have HF1 := Lib.hid (fun w' (h : Below wr.heap.size wr w') => show w'.rangeAt g (k * 18) bs from fun j u hu => by rw [(bcell (below_via h BW)).1 _ _ hg]; exact R1.out j u hu)
      have HF2 := Lib.hid (fun w' (h : Below wr.heap.size wr w') => show w'.rangeAt b (off + k * 18) bs from fun j u hu => by rw [(bcell (below_via h BW)).1 _ _ hb]; exact R2.out j u hu)
      go_upto_region 5 with (fail)
      refine wp_region_noPanic ?_
      refine wp_region_lexH (fun w' => Below wr.heap.size wr w') (by kernel_rfl) (by kernel_rfl) (fun _ _ _ _ _ h => h) (Below.drew (Below.refl _ _)) ?_
      apply lexH_run (by rfl)
      · (intro w h; clear h; go_simp; try rfl)
      (try simp only [Act.put, List.setIfInBounds_toArray, List.set_cons_zero, List.set_cons_succ])
      apply lexH_run (by rfl)
      · (intro w h; clear h; go_simp; try rfl)
      (try simp only [Act.put, List.setIfInBounds_toArray, List.set_cons_zero, List.set_cons_succ])
      apply lexH_run (by rfl)
      · (intro w h; clear h; go_simp; try rfl)
      (try simp only [Act.put, List.setIfInBounds_toArray, List.set_cons_zero, List.set_cons_succ])
      apply lexH_run (by rfl)
      · (intro w h; clear h; go_simp; try rfl)
      (try simp only [Act.put, List.setIfInBounds_toArray, List.set_cons_zero, List.set_cons_succ])
      apply lexH_run (by rfl)
      · (intro w h; clear h; go_simp; try rfl)
      (try simp only [Act.put, List.setIfInBounds_toArray, List.set_cons_zero, List.set_cons_succ])
      apply lexH_run (by rfl)
      · (intro w h; clear h; go_simp; try rfl)
      (try simp only [Act.put, List.setIfInBounds_toArray, List.set_cons_zero, List.set_cons_succ])
      apply lexH_run (by rfl)
      · (intro w h; clear h; go_simp; try rfl)
      (try simp only [Act.put, List.setIfInBounds_toArray, List.set_cons_zero, List.set_cons_succ])
      apply lexH_run (by rfl)
      · (intro w h; clear h; go_simp; try rfl)
      (try simp only [Act.put, List.setIfInBounds_toArray, List.set_cons_zero, List.set_cons_succ])
      refine lexH_load (by rfl) 81 (.tmp 24) rfl g (k * 18) rfl bs _ (fun w h => HF1.out w h) Try.underlying81 rfl LN.out ?_
      (try simp only [Act.put, List.setIfInBounds_toArray, List.set_cons_zero, List.set_cons_succ])
      apply lexH_run (by rfl)
      · (intro w h; clear h; go_simp; try rfl)
      (try simp only [Act.put, List.setIfInBounds_toArray, List.set_cons_zero, List.set_cons_succ])
      apply lexH_run (by rfl)
      · (intro w h; clear h; go_simp; try rfl)
      (try simp only [Act.put, List.setIfInBounds_toArray, List.set_cons_zero, List.set_cons_succ])
      apply lexH_run (by rfl)
      · (intro w h; clear h; go_simp; try rfl)
      (try simp only [Act.put, List.setIfInBounds_toArray, List.set_cons_zero, List.set_cons_succ])
      refine lexH_load (by rfl) 81 (.tmp 28) rfl b (off + k * 18) rfl bs _ (fun w h => HF2.out w h) Try.underlying81 rfl LN.out ?_
      (try simp only [Act.put, List.setIfInBounds_toArray, List.set_cons_zero, List.set_cons_succ])
      apply lexH_run (by rfl)
      · (intro w h; clear h; go_simp; try rfl)
      (try simp only [Act.put, List.setIfInBounds_toArray, List.set_cons_zero, List.set_cons_succ])
      apply lexH_run (by rfl)
      · (intro w h; clear h; go_simp; try rfl)
      (try simp only [Act.put, List.setIfInBounds_toArray, List.set_cons_zero, List.set_cons_succ])
      apply lexH_run (by rfl)
      · (intro w h; clear h; go_simp; try rfl)
      (try simp only [Act.put, List.setIfInBounds_toArray, List.set_cons_zero, List.set_cons_succ])
      apply lexH_run (by rfl)
      · (intro w h; clear h; go_simp; try rfl)
      (try simp only [Act.put, List.setIfInBounds_toArray, List.set_cons_zero, List.set_cons_succ])
      apply lexH_run (by rfl)
      · (intro w h; clear h; go_simp; try rfl)
      (try simp only [Act.put, List.setIfInBounds_toArray, List.set_cons_zero, List.set_cons_succ])
      apply lexH_run (by rfl)
      · (intro w h; clear h; go_simp; try rfl)
      (try simp only [Act.put, List.setIfInBounds_toArray, List.set_cons_zero, List.set_cons_succ])
      apply lexH_run (by rfl)
      · (intro w h; clear h; go_simp; try rfl)
      (try simp only [Act.put, List.setIfInBounds_toArray, List.set_cons_zero, List.set_cons_succ])
      apply lexH_run (by rfl)
      · (intro w h; clear h; go_simp; try rfl)
      (try simp only [Act.put, List.setIfInBounds_toArray, List.set_cons_zero, List.set_cons_succ])
      apply lexH_no (by rfl)
      (try simp only [Act.put, List.setIfInBounds_toArray, List.set_cons_zero, List.set_cons_succ])
      apply lexH_no (by rfl)
      (try simp only [Act.put, List.setIfInBounds_toArray, List.set_cons_zero, List.set_cons_succ])
      apply lexH_no (by rfl)
      (try simp only [Act.put, List.setIfInBounds_toArray, List.set_cons_zero, List.set_cons_succ])
      apply lexH_no (by rfl)
      (try simp only [Act.put, List.setIfInBounds_toArray, List.set_cons_zero, List.set_cons_succ])
      apply lexH_no (by rfl)
      (try simp only [Act.put, List.setIfInBounds_toArray, List.set_cons_zero, List.set_cons_succ])
      apply lexH_no (by rfl)
      (try simp only [Act.put, List.setIfInBounds_toArray, List.set_cons_zero, List.set_cons_succ])
      apply lexH_no (by rfl)
      (try simp only [Act.put, List.setIfInBounds_toArray, List.set_cons_zero, List.set_cons_succ])
      apply lexH_run (by rfl)
      · (intro w h; clear h; go_simp; try rfl)
      (try simp only [Act.put, List.setIfInBounds_toArray, List.set_cons_zero, List.set_cons_succ])
      apply lexH_run (by rfl)
      · (intro w h; clear h; go_simp; try rfl)
      (try simp only [Act.put, List.setIfInBounds_toArray, List.set_cons_zero, List.set_cons_succ])
      apply lexH_nil
      refine NoPanic.normal ?_
      go_wp2
      go_roundw
      case rel => exact ⟨k + 1, by omega, by go_num, Below.drew BW⟩
      case measure => simp [intOf]; omega
    · have hki : (n : Int) ≤ (k : Int) := by omega
      have hki2 : (k : Int) < (n : Int) + 3 := by omega
      have d1 : decide (n ≤ k) = true := by rw [decide_eq_true_eq]; omega
      have d2 : decide ((k : Int) < (n : Int)) = false := by rw [decide_eq_false_iff_not]; omega
      have d3 : decide (k < n) = false := by rw [decide_eq_false_iff_not]; omega
      have R1 := Lib.hid (HSP.out k hge hlt)
      have HF1 := Lib.hid (fun w' (h : Below wr.heap.size wr w') => show w'.rangeAt g (k * 18) [.int .i64 0, .int .i64 0, .int .i64 0, .int .i64 0, .int .i64 0, .int .i64 0, .int .i64 0, .int .i64 0, .int .i64 0, .int .i64 0, .int .i64 0, .int .i64 0, .int .i64 0, .int .i64 0, .int .i64 0, .int .i64 0, .int .i64 (-7), .int .i64 0] from fun j u hu => by rw [(bcell (below_via h BW)).1 _ _ hg]; exact R1.out j u hu)
      have LN := Lib.hid (infoBoxS spF)
      go_upto_region 5 with (fail)
      refine wp_region_noPanic ?_
      refine wp_region_lexH (fun w' => Below wr.heap.size wr w') (by kernel_rfl) (by kernel_rfl) (fun _ _ _ _ _ h => h) (Below.drew (Below.refl _ _)) ?_
      apply lexH_run (by rfl)
      · (intro w h; clear h; go_simp; try rfl)
      (try simp only [Act.put, List.setIfInBounds_toArray, List.set_cons_zero, List.set_cons_succ])
      apply lexH_run (by rfl)
      · (intro w h; clear h; go_simp; try rfl)
      (try simp only [Act.put, List.setIfInBounds_toArray, List.set_cons_zero, List.set_cons_succ])
      apply lexH_run (by rfl)
      · (intro w h; clear h; go_simp; try rfl)
      (try simp only [Act.put, List.setIfInBounds_toArray, List.set_cons_zero, List.set_cons_succ])
      apply lexH_run (by rfl)
      · (intro w h; clear h; go_simp; try rfl)
      (try simp only [Act.put, List.setIfInBounds_toArray, List.set_cons_zero, List.set_cons_succ])
      apply lexH_run (by rfl)
      · (intro w h; clear h; go_simp; try rfl)
      (try simp only [Act.put, List.setIfInBounds_toArray, List.set_cons_zero, List.set_cons_succ])
      apply lexH_no (by rfl)
      (try simp only [Act.put, List.setIfInBounds_toArray, List.set_cons_zero, List.set_cons_succ])
      apply lexH_no (by rfl)
      (try simp only [Act.put, List.setIfInBounds_toArray, List.set_cons_zero, List.set_cons_succ])
      apply lexH_no (by rfl)
      (try simp only [Act.put, List.setIfInBounds_toArray, List.set_cons_zero, List.set_cons_succ])
      apply lexH_no (by rfl)
      (try simp only [Act.put, List.setIfInBounds_toArray, List.set_cons_zero, List.set_cons_succ])
      apply lexH_no (by rfl)
      (try simp only [Act.put, List.setIfInBounds_toArray, List.set_cons_zero, List.set_cons_succ])
      apply lexH_no (by rfl)
      (try simp only [Act.put, List.setIfInBounds_toArray, List.set_cons_zero, List.set_cons_succ])
      apply lexH_no (by rfl)
      (try simp only [Act.put, List.setIfInBounds_toArray, List.set_cons_zero, List.set_cons_succ])
      apply lexH_no (by rfl)
      (try simp only [Act.put, List.setIfInBounds_toArray, List.set_cons_zero, List.set_cons_succ])
      apply lexH_no (by rfl)
      (try simp only [Act.put, List.setIfInBounds_toArray, List.set_cons_zero, List.set_cons_succ])
      apply lexH_run (by rfl)
      · (intro w h; clear h; go_simp; try rfl)
      (try simp only [Act.put, List.setIfInBounds_toArray, List.set_cons_zero, List.set_cons_succ])
      apply lexH_run (by rfl)
      · (intro w h; clear h; go_simp; try rfl)
      (try simp only [Act.put, List.setIfInBounds_toArray, List.set_cons_zero, List.set_cons_succ])
      apply lexH_run (by rfl)
      · (intro w h; clear h; go_simp; try rfl)
      (try simp only [Act.put, List.setIfInBounds_toArray, List.set_cons_zero, List.set_cons_succ])
      apply lexH_run (by rfl)
      · (intro w h; clear h; go_simp; try rfl)
      (try simp only [Act.put, List.setIfInBounds_toArray, List.set_cons_zero, List.set_cons_succ])
      apply lexH_run (by rfl)
      · (intro w h; clear h; go_simp; try rfl)
      (try simp only [Act.put, List.setIfInBounds_toArray, List.set_cons_zero, List.set_cons_succ])
      apply lexH_run (by rfl)
      · (intro w h; clear h; go_simp; try rfl)
      (try simp only [Act.put, List.setIfInBounds_toArray, List.set_cons_zero, List.set_cons_succ])
      apply lexH_run (by rfl)
      · (intro w h; clear h; go_simp; try rfl)
      (try simp only [Act.put, List.setIfInBounds_toArray, List.set_cons_zero, List.set_cons_succ])
      apply lexH_run (by rfl)
      · (intro w h; clear h; go_simp; try rfl)
      (try simp only [Act.put, List.setIfInBounds_toArray, List.set_cons_zero, List.set_cons_succ])
      apply lexH_run (by rfl)
      · (intro w h; clear h; go_simp; try rfl)
      (try simp only [Act.put, List.setIfInBounds_toArray, List.set_cons_zero, List.set_cons_succ])
      apply lexH_run (by rfl)
      · (intro w h; clear h; go_simp; try rfl)
      (try simp only [Act.put, List.setIfInBounds_toArray, List.set_cons_zero, List.set_cons_succ])
      refine lexH_load (by rfl) 81 (.tmp 40) rfl g (k * 18) rfl [.int .i64 0, .int .i64 0, .int .i64 0, .int .i64 0, .int .i64 0, .int .i64 0, .int .i64 0, .int .i64 0, .int .i64 0, .int .i64 0, .int .i64 0, .int .i64 0, .int .i64 0, .int .i64 0, .int .i64 0, .int .i64 0, .int .i64 (-7), .int .i64 0] _ (fun w h => HF1.out w h) Try.underlying81 rfl LN.out ?_
      (try simp only [Act.put, List.setIfInBounds_toArray, List.set_cons_zero, List.set_cons_succ])
      apply lexH_run (by rfl)
      · (intro w h; clear h; go_simp; try rfl)
      (try simp only [Act.put, List.setIfInBounds_toArray, List.set_cons_zero, List.set_cons_succ])
      apply lexH_run (by rfl)
      · (intro w h; clear h; go_simp; try rfl)
      (try simp only [Act.put, List.setIfInBounds_toArray, List.set_cons_zero, List.set_cons_succ])
      apply lexH_run (by rfl)
      · (intro w h; clear h; go_simp; try rfl)
      (try simp only [Act.put, List.setIfInBounds_toArray, List.set_cons_zero, List.set_cons_succ])
      apply lexH_run (by rfl)
      · (intro w h; clear h; go_simp; try rfl)
      (try simp only [Act.put, List.setIfInBounds_toArray, List.set_cons_zero, List.set_cons_succ])
      apply lexH_run (by rfl)
      · (intro w h; clear h; go_simp; try rfl)
      (try simp only [Act.put, List.setIfInBounds_toArray, List.set_cons_zero, List.set_cons_succ])
      apply lexH_nil
      refine NoPanic.normal ?_
      go_wp2
      go_roundw
      case rel => exact ⟨k + 1, by omega, by go_num, Below.drew BW⟩
      case measure => simp [intOf]; omega
    · clear hk
      go_wp2
      go_ret
      exact ⟨rfl, BW⟩
end Go.Proofs.Ytihjefncjkdnpaa
