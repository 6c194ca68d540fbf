/- The walk of ScrollKnown. -/
import Derived.Test.YtegdokchkblpiaaKnw
import Derived.Test.YtegdokchkblpiaaTbl
import Derived.Test.YtegdokchkblpiaaLntC
import Derived.Test.YtegdokchkblpiaaLntF
import Derived.Test.YtegdokchkblpiaaLntJ
import Derived.Test.YtegdokchkblpiaaLntI
import Derived.Test.YtegdokchkblpiaaTreS
import Derived.Test.YtegdokchkblpiaaAnyH
namespace Go.Proofs.Ytegdokchkblpiaa
open Go.RowKit Go.Deep
set_option linter.unusedVariables false
set_option linter.unusedSimpArgs false

/-- the cells of four boxes, as they are made -/
def bxL : List Value := List.replicate 72 (.int .i64 0)
def bxM : List Value := (((((((bxL.set 44 (.int .i64 0)).set 45 (.int .i64 0)).set 46 (.int .i64 10)).set 47 (.int .i64 4)).set 54 (.int .i64 0)).set 55 (.int .i64 0)).set 56 (.int .i64 10)).set 57 (.int .i64 9)
theorem bxM_eq : bxM = (List.range 72).map fun k => .int .i64 (knB (k / 18) (k % 18)) := by kernel_rfl
theorem bxM_get (i j : Nat) (hi : i < 4) (hj : j < 18) : bxM[i * 18 + j]? = some (.int .i64 (knB i j)) := by
  rw [bxM_eq, List.getElem?_map, List.getElem?_range (by omega)]
  show some (Value.int .i64 (knB ((i * 18 + j) / 18) ((i * 18 + j) % 18))) = _
  rw [show (i * 18 + j) / 18 = i by omega, show (i * 18 + j) % 18 = j by omega]
theorem knT_ok : ∀ x ∈ knT, NdOk x := fun x hx => by
  simp only [knT, List.mem_cons, List.not_mem_nil, or_false] at hx
  rcases hx with rfl | rfl | rfl | rfl
  · exact ndF_ok (by decide) (by decide) (by decide) (by decide)
  · exact ndF_ok (by decide) (by decide) (by decide) (by decide)
  · exact ndF_ok (by decide) (by decide) (by decide) (by decide)
  · exact ndF_ok (by decide) (by decide) (by decide) (by decide)
set_option maxRecDepth 100000 in
set_option maxHeartbeats 16000000 in
theorem ScrollKnown_walk (w : World) : Calls Try.prog 10 #[] w fun e w' => e = .returned (.bool true) ∧ Below w.heap.size w w' := by
  obtain ⟨i0, hi, hz0, hz1, hz2⟩ := info_parts infoNode_
  have HI := Lib.hid (And.intro hi (And.intro hz0 (And.intro hz1 hz2)))
  clear hi hz0 hz1 hz2
  obtain ⟨ns, hns⟩ : ∃ l, l = ndV (nodeK 6 ⟨#[98]⟩ [3]) (.slice (some ⟨w.heap.size, 0, none⟩) 1 1) (.slice none 0 0) := ⟨_, rfl⟩
  have BT := Lib.hid (show Try.prog.built 63 [(0, .int .i8 6), (1, .string ⟨#[98]⟩), (3, .slice (some ⟨w.heap.size, 0, none⟩) 1 1)] = some ns.toArray by rw [hns]; exact built_013 6 ⟨#[98]⟩ [3] _ 1 1)
  have LEN := Lib.hid (show ns.length = 34 by rw [hns]; rfl)
  have ONE := Lib.hid (show ∀ v ∈ ns, v.oneCell' = true by rw [hns]; exact ndV_ones _ _ _ _ _ _ _)
  have HNS := Lib.hid hns
  clear hns
  go_enter Try.func10, Try.ntmps10
  go_wp2_with (first | ((with_reducible refine wpList_build_node ?e0 #[(0, .const (.int .i8 6)), (1, .const (.string ⟨#[98]⟩)), (3, .tmp 12)] ?f0 ns _ ?g0 BT.out ?_); (case e0 => rfl); (case f0 => rfl); (case g0 => rfl)) | ((with_reducible refine wpList_store_nodeC ?h1 (.tmp 1) (.tmp 13) ?h2 _ _ ns (w.heap.size + 1) ?h6 ?h3 ?h4 ?h5 LEN.out ONE.out ?_); (case h1 => rfl); (case h2 => rfl); (case h3 => rfl); (case h4 => rfl); (case h5 => rfl); (case h6 => simp)))
  intro w3 HW3
  have z3 : w3.heap.size = w.heap.size + 2 := by rw [HW3.out]; simp
  have B3 : Below w.heap.size w w3 := by rw [HW3.out]; exact below_al (below_al (Below.refl _ _) _) _
  have k0 : w3.heap[w.heap.size]? = some (.cells #[.int .i64 3] 3 (0, 0)) := by rw [HW3.out]; exact (heap_alloc_old _ _ (by simp)).trans (heap_alloc_new _ _)
  have nn : w3.heap[w.heap.size + 1]? = some (.cells ns.toArray 63 (0, 0)) := by
    rw [HW3.out]
    have := heap_alloc_new (w.alloc (.cells #[.int .i64 3] 3)) (.cells ns.toArray 63)
    rw [World.size_alloc] at this
    exact this
  have RNG : w3.rangeAt (w.heap.size + 1) 0 ns := fun j v hv => by
    rw [cell_of_row _ _ _ _ _ (0, 0) nn, Nat.zero_add]; simpa using hv
  have RNG2 := Lib.hid (show ((w3.alloc (.cells #[.int .i64 1] 3)).alloc (.cells #[.int .i64 2] 3)).rangeAt (w.heap.size + 1) 0 ns from World.rangeAt_alloc (World.rangeAt_alloc RNG _) _)
  have N2 : NdIs w3 ns (nodeK 6 ⟨#[98]⟩ [3]) := ⟨_, _, HNS.out, ints_block (L := [3]) k0 (by decide), its_none _⟩
  have HN2 := Lib.hid N2
  have HZ3 := Lib.hid z3
  clear RNG nn k0 HNS BT ONE N2 HW3 z3
  obtain ⟨n0, hn0⟩ : ∃ l, l = ndV (nodeK 6 ⟨#[97]⟩ [1]) (.slice (some ⟨w3.heap.size, 0, none⟩) 1 1) (.slice none 0 0) := ⟨_, rfl⟩
  obtain ⟨n1, hn1⟩ : ∃ l, l = ndV (nodeK 3 ByteArray.empty [2]) (.slice (some ⟨w3.heap.size + 1, 0, none⟩) 1 1) (.slice none 0 0) := ⟨_, rfl⟩
  obtain ⟨n3, hn3⟩ : ∃ l, l = ndV (nodeK 1 ByteArray.empty []) (.slice none 0 0) (.slice none 0 0) := ⟨_, rfl⟩
  have BT0 := Lib.hid (show Try.prog.built 63 [(0, .int .i8 6), (1, .string ⟨#[97]⟩), (3, .slice (some ⟨w3.heap.size, 0, none⟩) 1 1)] = some n0.toArray by rw [hn0]; exact built_013 6 ⟨#[97]⟩ [1] _ 1 1)
  have BT1 := Lib.hid (show Try.prog.built 63 [(0, .int .i8 3), (3, .slice (some ⟨w3.heap.size + 1, 0, none⟩) 1 1)] = some n1.toArray by rw [hn1]; exact built_03 3 [2] _ 1 1)
  have BT3 := Lib.hid (show Try.prog.built 63 [(0, .int .i8 1)] = some n3.toArray by rw [hn3]; exact built_0 1)
  have L34 := Lib.hid (show ∀ a ∈ [n0, n1, ns, n3], a.length = 34 from fun a ha => by
    simp only [List.mem_cons, List.not_mem_nil, or_false] at ha
    rcases ha with rfl | rfl | rfl | rfl
    · rw [hn0]; rfl
    · rw [hn1]; rfl
    · exact LEN.out
    · rw [hn3]; rfl)
  have H0 := Lib.hid hn0
  have H1 := Lib.hid hn1
  have H3 := Lib.hid hn3
  clear hn0 hn1 hn3
  go_upto_region 3 with (first | ((with_reducible refine wpList_build_node ?e1 #[(0, .const (.int .i8 6)), (1, .const (.string ⟨#[97]⟩)), (3, .tmp 14)] ?f1 n0 _ ?g1 BT0.out ?_); (case e1 => rfl); (case f1 => rfl); (case g1 => rfl)) | ((with_reducible refine wpList_build_node ?e2 #[(0, .const (.int .i8 3)), (3, .tmp 16)] ?f2 n1 _ ?g2 BT1.out ?_); (case e2 => rfl); (case f2 => rfl); (case g2 => rfl)) | ((with_reducible refine wpList_build_node ?e3 #[(0, .const (.int .i8 1))] ?f3 n3 _ ?g3 BT3.out ?_); (case e3 => rfl); (case f3 => rfl); (case g3 => rfl)) | ((with_reducible refine wpList_load_node ?l1 (.tmp 1) ?l2 (w.heap.size + 1) 0 ?l3 ns LEN.out RNG2.out ?_); (case l1 => rfl); (case l2 => rfl); (case l3 => rfl)) | ((with_reducible refine wpList_buildSlice_all _ ?b1 36 63 4 #[(0, .tmp 15), (1, .tmp 17), (2, .tmp 18), (3, .tmp 19)] ?b2 i0 _ 34 Try.underlying36 HI.out.1 HI.out.2.1 HI.out.2.2.1 ?b6 [n0, n1, ns, n3] ?b7 ?b3 ?b4 ?b5 ?_); (case b1 => rfl); (case b2 => rfl); (case b6 => decide); (case b7 => rfl); (case b3 => rfl); (case b4 => exact L34.out); (case b5 => (show 4 * 34 ≤ 16777216; decide))))
  obtain ⟨w4, hw4⟩ : ∃ w4, w4 = (w3.alloc (.cells #[.int .i64 1] 3)).alloc (.cells #[.int .i64 2] 3) := ⟨_, rfl⟩
  rw [← hw4]
  have z4 : w4.heap.size = w3.heap.size + 2 := by rw [hw4]; simp
  have B34 : Below w3.heap.size w3 w4 := by rw [hw4]; exact below_al (below_al (Below.refl _ _) _) _
  have TB := tree_built w4 knT [n0, n1, ns, n3] rfl L34.out knT_ok (by decide) (fun i hi => by
    have k0 : w4.heap[w3.heap.size]? = some (.cells #[.int .i64 1] 3 (0, 0)) := by rw [hw4]; exact (heap_alloc_old _ _ (by simp)).trans (heap_alloc_new _ _)
    have k1 : w4.heap[w3.heap.size + 1]? = some (.cells #[.int .i64 2] 3 (0, 0)) := by
      rw [hw4]
      have := heap_alloc_new (w3.alloc (.cells #[.int .i64 1] 3)) (.cells #[.int .i64 2] 3)
      rwa [World.size_alloc] at this
    have : i = 0 ∨ i = 1 ∨ i = 2 ∨ i = 3 := by have : knT.length = 4 := rfl; omega
    rcases this with rfl | rfl | rfl | rfl
    · exact ⟨_, _, H0.out, ints_block (L := [1]) k0 (by decide), its_none _⟩
    · exact ⟨_, _, H1.out, ints_block (L := [2]) k1 (by decide), its_none _⟩
    · exact HN2.out.later B34 (Nat.le_refl _)
    · exact ⟨_, _, H3.out, ints_none _, its_none _⟩)
  obtain ⟨w5, hw5⟩ : ∃ w5, w5 = w4.alloc (.cells (n0 ++ (n1 ++ (ns ++ n3))).toArray 63) := ⟨_, rfl⟩
  obtain ⟨w6, hw6⟩ : ∃ w6, w6 = w5.alloc (.cells #[.slice (some ⟨w3.heap.size + 1 + 1, 0, none⟩) 4 4] 38) := ⟨_, rfl⟩
  rw [show ([n0, n1, ns, n3] : List (List Value)).flatten = n0 ++ (n1 ++ (ns ++ n3)) by simp, ← hw5] at TB
  rw [← hw5, ← hw6]
  have z5 : w5.heap.size = w3.heap.size + 1 + 1 + 1 := by rw [hw5]; simp [z4]
  rw [show w4.heap.size = w3.heap.size + 1 + 1 by omega] at TB
  have C56 : Below w5.heap.size w5 w6 := by rw [hw6]; exact below_al (Below.refl _ _) _
  have x6 : w6.heap[w3.heap.size + 1 + 1 + 1]? = some (.cells #[.slice (some ⟨w3.heap.size + 1 + 1, 0, none⟩) 4 4] 38 (0, 0)) := by rw [hw6, ← z5]; exact heap_alloc_new _ _
  obtain ⟨gt, hgt⟩ : ∃ gt, gt = w3.heap.size + 1 + 1 := ⟨_, rfl⟩
  rw [← hgt] at TB x6 ⊢
  have HT6 := Lib.hid (show TreeAt w6 (.slice (some ⟨gt, 0, none⟩) 4 4) knT from TB.later C56)
  have B6 := Lib.hid (show Below w.heap.size w w6 from below_via (below_via (below_via C56 (below_via (by rw [hw5]; exact below_al (Below.refl _ _) _) (Below.refl _ _))) B34) B3)
  have HX6 := Lib.hid x6
  obtain ⟨kt, hkt⟩ : ∃ kt, kt = gt + 1 := ⟨_, rfl⟩
  rw [← hkt] at HX6 x6 ⊢
  clear TB C56 hw5 hw6 hw4 z4 z5 B34 hgt hkt H0 H1 H3 BT0 BT1 BT3 L34 HN2 HZ3 B3 RNG2 LEN
  have HF := Lib.hid (fun w' (h : Below w6.heap.size w6 w') => show w'.cell? ⟨kt, 0, none⟩ = some (.slice (some ⟨gt, 0, none⟩) 4 4) ∧ kt < w'.heap.size from by
    have := lt_of_block HX6.out
    have := h.size
    exact ⟨cell_of_one ((h.block _ (lt_of_block HX6.out)).trans HX6.out), by omega⟩)
  have hmk : ∀ w : World, (Instr.makeSlice 39 (.int .i64 4) (.int .i64 4)).run Try.prog w = .ok (.slice (some ⟨w.heap.size, 0, none⟩) 4 4) (w.alloc (.cells bxL.toArray 69)) := fun w => by kernel_rfl
  clear x6
  obtain ⟨x0, s0⟩ := HF.out w6 (Below.refl _ _)
  have HAB := Lib.hid (show Calls Try.prog 32 #[.agg #[.slice (some ⟨gt, 0, none⟩) 4 4], .int .i64 3] w6 _ from scroll_Above_any (some ⟨gt, 0, none⟩) 4 knT 3 w6 HT6.out)
  go_wp2_with fail
  refine HAB.out.mono ?_
  rw [knT_above]
  rintro e w7 ⟨va, rfl, own7, hb7⟩
  have D7 := Lib.hid hb7
  have HA7 := Lib.hid (row_ints (L := [2, 0]) own7)
  clear HAB x0 s0 own7 hb7
  obtain ⟨x0, s0⟩ := HF.out w7 D7.out
  go_upto_region 5 with (fail)
  obtain ⟨w8, hw8⟩ : ∃ w8, w8 = w7.alloc (.cells bxL.toArray 69) := ⟨_, rfl⟩
  have C8 : Below w7.heap.size w7 w8 := by rw [hw8]; exact below_al (Below.refl _ _) _
  have k8 : w8.heap[w7.heap.size]? = some (.cells bxL.toArray 69 (0, 0)) := by rw [hw8]; exact heap_alloc_new _ _
  rw [← hw8]
  obtain ⟨gb, hgb⟩ : ∃ gb, gb = w7.heap.size := ⟨_, rfl⟩
  rw [← hgb] at k8 ⊢
  have HK8 := Lib.hid k8
  have D8 := Lib.hid (below_via C8 D7.out)
  have hz8 : gb < w8.heap.size := lt_of_block k8
  have HGB := Lib.hid (show w6.heap.size ≤ gb by rw [hgb]; exact D7.out.size)
  have HA8 := Lib.hid (HA7.out.later C8 (Nat.le_refl _))
  have C78 := Lib.hid C8
  have HGB7 := Lib.hid (show w7.heap.size ≤ gb by omega)
  clear hw8 C8 k8 hgb hmk HA8 x0 s0
  have c44 : w8.cell? ⟨gb, 44, none⟩ = some (.int .i64 0) := by rw [cell_of_row _ _ _ _ _ _ HK8.out]; rfl
  have f44 : w8.frozen? ⟨gb, 44, none⟩ = false := frozen_of_row _ _ _ _ _ HK8.out
  have c45 : w8.cell? ⟨gb, 45, none⟩ = some (.int .i64 0) := by rw [cell_of_row _ _ _ _ _ _ HK8.out]; rfl
  have f45 : w8.frozen? ⟨gb, 45, none⟩ = false := frozen_of_row _ _ _ _ _ HK8.out
  have c46 : w8.cell? ⟨gb, 46, none⟩ = some (.int .i64 0) := by rw [cell_of_row _ _ _ _ _ _ HK8.out]; rfl
  have f46 : w8.frozen? ⟨gb, 46, none⟩ = false := frozen_of_row _ _ _ _ _ HK8.out
  have c47 : w8.cell? ⟨gb, 47, none⟩ = some (.int .i64 0) := by rw [cell_of_row _ _ _ _ _ _ HK8.out]; rfl
  have f47 : w8.frozen? ⟨gb, 47, none⟩ = false := frozen_of_row _ _ _ _ _ HK8.out
  have c54 : w8.cell? ⟨gb, 54, none⟩ = some (.int .i64 0) := by rw [cell_of_row _ _ _ _ _ _ HK8.out]; rfl
  have f54 : w8.frozen? ⟨gb, 54, none⟩ = false := frozen_of_row _ _ _ _ _ HK8.out
  have c55 : w8.cell? ⟨gb, 55, none⟩ = some (.int .i64 0) := by rw [cell_of_row _ _ _ _ _ _ HK8.out]; rfl
  have f55 : w8.frozen? ⟨gb, 55, none⟩ = false := frozen_of_row _ _ _ _ _ HK8.out
  have c56 : w8.cell? ⟨gb, 56, none⟩ = some (.int .i64 0) := by rw [cell_of_row _ _ _ _ _ _ HK8.out]; rfl
  have f56 : w8.frozen? ⟨gb, 56, none⟩ = false := frozen_of_row _ _ _ _ _ HK8.out
  have c57 : w8.cell? ⟨gb, 57, none⟩ = some (.int .i64 0) := by rw [cell_of_row _ _ _ _ _ _ HK8.out]; rfl
  have f57 : w8.frozen? ⟨gb, 57, none⟩ = false := frozen_of_row _ _ _ _ _ HK8.out
  go_upto_region 7 with (fail)
  obtain ⟨w9, hw9⟩ : ∃ w9, w9 = (((((((w8.setCell ⟨gb, 44, none⟩ (.int .i64 0)).setCell ⟨gb, 45, none⟩ (.int .i64 0)).setCell ⟨gb, 46, none⟩ (.int .i64 10)).setCell ⟨gb, 47, none⟩ (.int .i64 4)).setCell ⟨gb, 54, none⟩ (.int .i64 0)).setCell ⟨gb, 55, none⟩ (.int .i64 0)).setCell ⟨gb, 56, none⟩ (.int .i64 10)).setCell ⟨gb, 57, none⟩ (.int .i64 9) := ⟨_, rfl⟩
  have k9 : w9.heap[gb]? = some (.cells bxM.toArray 69 (0, 0)) := by
    rw [hw9]
    exact blk_set _ (blk_set _ (blk_set _ (blk_set _ (blk_set _ (blk_set _ (blk_set _ (blk_set _ HK8.out)))))))
  have D79 : Below w7.heap.size w7 w9 := by
    rw [hw9]
    have h := HGB7.out
    exact (((((((C78.out.setCell (p := ⟨gb, 44, none⟩) h _).setCell (p := ⟨gb, 45, none⟩) h _).setCell (p := ⟨gb, 46, none⟩) h _).setCell (p := ⟨gb, 47, none⟩) h _).setCell (p := ⟨gb, 54, none⟩) h _).setCell (p := ⟨gb, 55, none⟩) h _).setCell (p := ⟨gb, 56, none⟩) h _).setCell (p := ⟨gb, 57, none⟩) h _
  rw [← hw9]
  have D9 := Lib.hid (below_via D79 D7.out)
  have HA9 := Lib.hid (HA7.out.later D79 (Nat.le_refl _))
  have BX9 : BoxAt w9 (some ⟨gb, 0, none⟩) 4 knB := fun _ => ⟨gb, 0, rfl, lt_of_block k9, fun i hi j hj => by
    rw [cell_of_row _ gb _ _ _ _ k9, Nat.zero_add]
    simpa using bxM_get i j hi hj⟩
  have HBX := Lib.hid BX9
  have HT9 := Lib.hid (HT6.out.later D9.out)
  clear hw9 k9 D79 BX9 HK8 HGB7 C78 HA7 D8 c44 f44 c45 f45 c46 f46 c47 f47 c54 f54 c55 f55 c56 f56 c57 f57 hz8
  obtain ⟨x0, s0⟩ := HF.out w9 D9.out
  have HM := Lib.hid (fun w' (h : Below w9.heap.size w9 w') (i : Int) => show Calls Try.prog 23 #[.agg #[.slice (some ⟨gt, 0, none⟩) 4 4], .slice (some ⟨gb, 0, none⟩) 4 4, .int .i64 i] w' (fun e w'' => e = .returned (.tuple #[.agg #[.int .i64 (mostR knT 4 knB i).1, .int .i64 (mostR knT 4 knB i).2.1], .int .i64 (mostR knT 4 knB i).2.2]) ∧ Below w'.heap.size w' w'') from scroll_Most_any (some ⟨gt, 0, none⟩) (some ⟨gb, 0, none⟩) 4 4 4 knT knB i w' (HT9.out.later h) (HBX.out.later h (Nat.le_refl _)) (by decide))
  have HM3 := Lib.hid (fun w' (h : Below w9.heap.size w9 w') => show Calls Try.prog 23 #[.agg #[.slice (some ⟨gt, 0, none⟩) 4 4], .slice (some ⟨gb, 0, none⟩) 3 4, .int .i64 2] w' (fun e w'' => e = .returned (.tuple #[.agg #[.int .i64 0, .int .i64 0], .int .i64 2]) ∧ Below w'.heap.size w' w'') from by
    have := scroll_Most_any (some ⟨gt, 0, none⟩) (some ⟨gb, 0, none⟩) 4 4 3 knT knB 2 w' (HT9.out.later h) (fun _ => by
      obtain ⟨b, off, e, hz, hc⟩ := HBX.out.later h (Nat.le_refl _) (by decide)
      exact ⟨b, off, e, hz, fun i hi => hc i (by omega)⟩) (by decide)
    rwa [knT_most0] at this)
  go_wp2_with fail
  refine (HM.out w9 (Below.refl _ _) 2).mono ?_
  rw [knT_most2]
  rintro e w10 ⟨rfl, hb⟩
  have R10 := Lib.hid hb
  have D10 := Lib.hid (below_via hb D9.out)
  clear hb x0 s0
  obtain ⟨x0, s0⟩ := HF.out w10 D10.out
  go_wp2_with fail
  obtain ⟨w11, hw11⟩ : ∃ w11, w11 = w10.alloc (.cells #[.int .i64 0, .int .i64 5] 25) := ⟨_, rfl⟩
  have C11 : Below w10.heap.size w10 w11 := by rw [hw11]; exact below_al (Below.refl _ _) _
  have k11 : w11.heap[w10.heap.size]? = some (.cells #[.int .i64 0, .int .i64 5] 25 (0, 0)) := by rw [hw11]; exact heap_alloc_new _ _
  rw [← hw11]
  obtain ⟨g5, hg5⟩ : ∃ g5, g5 = w10.heap.size := ⟨_, rfl⟩
  rw [← hg5] at k11 ⊢
  have HK11 := Lib.hid k11
  have R11 := Lib.hid (below_via C11 R10.out)
  have D11 := Lib.hid (below_via C11 D10.out)
  clear hw11 C11 k11 hg5 x0 s0
  obtain ⟨x0, s0⟩ := HF.out w11 D11.out
  refine (HM.out w11 R11.out 3).mono ?_
  rw [knT_most3]
  rintro e w12 ⟨rfl, hb⟩
  have R12 := Lib.hid (below_via hb R11.out)
  have D12 := Lib.hid (below_via hb D11.out)
  have HK12 := Lib.hid ((hb.block _ (lt_of_block HK11.out)).trans HK11.out)
  clear hb x0 s0
  obtain ⟨x0, s0⟩ := HF.out w12 D12.out
  go_upto_region 9 with (fail)
  obtain ⟨w13, hw13⟩ : ∃ w13, w13 = w12.alloc (.cells #[.int .i64 0, .int .i64 0] 25) := ⟨_, rfl⟩
  have C13 : Below w12.heap.size w12 w13 := by rw [hw13]; exact below_al (Below.refl _ _) _
  rw [← hw13]
  have R13 := Lib.hid (below_via C13 R12.out)
  have D13 := Lib.hid (below_via C13 D12.out)
  have HK13 := Lib.hid ((C13.block _ (lt_of_block HK12.out)).trans HK12.out)
  clear hw13 C13 x0 s0
  have HFS := Lib.hid (fun w' (h : Below w13.heap.size w13 w') => (HF.out w' (below_via h D13.out)).1)
  have HMS := Lib.hid (fun w' (h : Below w13.heap.size w13 w') => HM3.out w' (below_via h R13.out))
  have H13 := Lib.hid (Below.drew (Below.refl w13.heap.size w13))
  have HEQ : True := trivial
  refine wp_region_noPanic ?_
  refine wp_region_held (S := fun w' => Below w13.heap.size w13 w') (by kernel_rfl) ?_
  change wpAnyH _ _ _ _ _ 10 (Array.replicate 10 false) _ _
  refine wpAnyH_take (i := 0) (v := ?v0) (by simp only [List.getElem?_toArray, List.getElem?_cons_succ, List.getElem?_cons_zero]; rfl) (by kernel_rfl) (by kernel_rfl) (by kernel_rfl) (fun _ _ _ h => h) (.inl ⟨by rfl, ?t0⟩) ?s0 ?_
  case t0 => (intro w' h; have FK := HFS.out w' h; clear h; go_split_ands; go_simp; try rfl)
  case s0 => exact H13.out
  (try simp only [Act.put, List.setIfInBounds_toArray, List.set_cons_zero, List.set_cons_succ])
  refine wpAnyH_take (i := 1) (v := ?v1) (by simp only [List.getElem?_toArray, List.getElem?_cons_succ, List.getElem?_cons_zero]; rfl) (by kernel_rfl) (by kernel_rfl) (by kernel_rfl) (fun _ _ _ h => h) (.inl ⟨by rfl, ?t1⟩) ?s1 ?_
  case t1 => (intro w' h; clear h; go_simp; try rfl)
  case s1 => exact H13.out
  (try simp only [Act.put, List.setIfInBounds_toArray, List.set_cons_zero, List.set_cons_succ])
  refine wpAnyH_take (i := 2) (v := ?v2) (by simp only [List.getElem?_toArray, List.getElem?_cons_succ, List.getElem?_cons_zero]; rfl) (by kernel_rfl) (by kernel_rfl) (by kernel_rfl) (fun _ _ _ h => h) (.inl ⟨by rfl, ?t2⟩) ?s2 ?_
  case t2 => (intro w' h; clear h; go_simp; try rfl)
  case s2 => exact H13.out
  (try simp only [Act.put, List.setIfInBounds_toArray, List.set_cons_zero, List.set_cons_succ])
  refine wpAnyH_two (i := 3) (k := 7) (by kernel_rfl) ?A ?B
  case A =>
    refine wpOp_call (by simp only [List.getElem?_toArray, List.getElem?_cons_succ, List.getElem?_cons_zero]; rfl) (by rfl) (by go_simp; first | exact ⟨rfl, rfl⟩ | rfl) ?_
    refine (HMS.out _ H13.out).mono ?_
    rintro e wa ⟨rfl, hb⟩
    have Ha := Lib.hid (below_via hb H13.out)
    clear hb
    refine ⟨_, rfl, Ha.out, ?_⟩
    (try simp only [Act.put, List.setIfInBounds_toArray, List.set_cons_zero, List.set_cons_succ])
    refine wpAnyH_take (i := 4) (v := ?va4) (by simp only [List.getElem?_toArray, List.getElem?_cons_succ, List.getElem?_cons_zero]; rfl) (by kernel_rfl) (by kernel_rfl) (by kernel_rfl) (fun _ _ _ h => h) (.inl ⟨by rfl, ?ta4⟩) ?sa4 ?_
    case ta4 => (intro w' h; clear h; go_simp; try rfl)
    case sa4 => exact Ha.out
    (try simp only [Act.put, List.setIfInBounds_toArray, List.set_cons_zero, List.set_cons_succ])
    refine wpAnyH_take (i := 5) (v := ?va5) (by simp only [List.getElem?_toArray, List.getElem?_cons_succ, List.getElem?_cons_zero]; rfl) (by kernel_rfl) (by kernel_rfl) (by kernel_rfl) (fun _ _ _ h => h) (.inl ⟨by rfl, ?ta5⟩) ?sa5 ?_
    case ta5 => (intro w' h; clear h; go_simp; try rfl)
    case sa5 => exact Ha.out
    (try simp only [Act.put, List.setIfInBounds_toArray, List.set_cons_zero, List.set_cons_succ])
    refine wpAnyH_take (i := 6) (v := ?va6) (by simp only [List.getElem?_toArray, List.getElem?_cons_succ, List.getElem?_cons_zero]; rfl) (by kernel_rfl) (by kernel_rfl) (by kernel_rfl) (fun _ _ _ h => h) (.inl ⟨by rfl, ?ta6⟩) ?sa6 ?_
    case ta6 => (intro w' h; clear h; go_simp; try rfl)
    case sa6 => exact Ha.out
    (try simp only [Act.put, List.setIfInBounds_toArray, List.set_cons_zero, List.set_cons_succ])
    have Hb := Lib.hid (show Below w13.heap.size w13 (wa.alloc (.cells #[.int .i64 0, .int .i64 0] 25)) from below_al Ha.out _)
    refine wpAnyH_one (i := 7) (by kernel_rfl) ?_
    refine wpOp_value (v := .pointer (some ⟨wa.heap.size, 0, none⟩)) (w' := wa.alloc (.cells #[.int .i64 0, .int .i64 0] 25)) (by simp only [List.getElem?_toArray, List.getElem?_cons_succ, List.getElem?_cons_zero]; rfl) (by rfl) ?ma7 Hb.out ?_
    case ma7 => (go_simp; try rfl)
    (try simp only [Act.put, List.setIfInBounds_toArray, List.set_cons_zero, List.set_cons_succ])
    refine wpAnyH_one (i := 8) (by kernel_rfl) ?_
    refine wpOp_skip (w' := wa.alloc (.cells #[.int .i64 0, .int .i64 0] 25)) (by simp only [List.getElem?_toArray, List.getElem?_cons_succ, List.getElem?_cons_zero]; rfl) (by rfl) ?ma8 Hb.out ?_
    case ma8 => (go_simp; try rfl)
    (try simp only [Act.put, List.setIfInBounds_toArray, List.set_cons_zero, List.set_cons_succ])
    refine wpAnyH_take (i := 9) (v := ?va9) (by simp only [List.getElem?_toArray, List.getElem?_cons_succ, List.getElem?_cons_zero]; rfl) (by kernel_rfl) (by kernel_rfl) (by kernel_rfl) (fun _ _ _ h => h) (.inl ⟨by rfl, ?ta9⟩) ?sa9 ?_
    case ta9 => (intro w' h; clear h; go_simp; try rfl)
    case sa9 => exact Hb.out
    (try simp only [Act.put, List.setIfInBounds_toArray, List.set_cons_zero, List.set_cons_succ])
    refine wpAnyH_done (by kernel_rfl) (NoPanic.normal ?_) _
    obtain ⟨wq, hwq⟩ : ∃ wq, wq = wa.alloc (.cells #[.int .i64 0, .int .i64 0] 25) := ⟨_, rfl⟩
    rw [← hwq]
    have Hq := Lib.hid (show Below w13.heap.size w13 wq by rw [hwq]; exact Hb.out)
    clear hwq
    have HKq := Lib.hid ((Hq.out.block _ (lt_of_block HK13.out)).trans HK13.out)
    have Dq := Lib.hid (below_via Hq.out D13.out)
    have HAq := Lib.hid (HA9.out.later (below_via Hq.out R13.out) (Nat.le_refl _))
    obtain ⟨x0, s0⟩ := HF.out wq Dq.out
    clear HFS HMS H13
    go_wp2_with fail
    obtain ⟨wr, hwr⟩ : ∃ wr, wr = wq.alloc (.cells #[.int .i64 1, .int .i64 0, .int .i64 2, .int .i64 0, .int .i64 3, .int .i64 0, .int .i64 4, .int .i64 0] 25) := ⟨_, rfl⟩
    have Cr : Below wq.heap.size wq wr := by rw [hwr]; exact below_al (Below.refl _ _) _
    have kr : wr.heap[wq.heap.size]? = some (.cells #[.int .i64 1, .int .i64 0, .int .i64 2, .int .i64 0, .int .i64 3, .int .i64 0, .int .i64 4, .int .i64 0] 25 (0, 0)) := by rw [hwr]; exact heap_alloc_new _ _
    rw [← hwr]
    have HOr := Lib.hid (show OffsAt wr (some ⟨wq.heap.size, 0, none⟩) [(1, 0), (2, 0), (3, 0), (4, 0)] from fun _ => ⟨wq.heap.size, 0, rfl, lt_of_block kr, fun i hi => by
      have : i = 0 ∨ i = 1 ∨ i = 2 ∨ i = 3 := by simp at hi; omega
      rcases this with rfl | rfl | rfl | rfl <;> exact ⟨by rw [cell_of_row _ _ _ _ _ _ kr]; rfl, by rw [cell_of_row _ _ _ _ _ _ kr]; rfl⟩⟩)
    have HKr := Lib.hid ((Cr.block _ (lt_of_block HKq.out)).trans HKq.out)
    have Dr := Lib.hid (below_via Cr Dq.out)
    have HAr := Lib.hid (HAq.out.later Cr (Nat.le_refl _))
    have HCA := Lib.hid (show Calls Try.prog 28 #[.agg #[.slice (some ⟨gt, 0, none⟩) 4 4], .agg #[.slice (some ⟨gt, 0, none⟩) 4 4], .slice (some ⟨wq.heap.size, 0, none⟩) 4 4] wr _ from scroll_Carry_any (some ⟨gt, 0, none⟩) (some ⟨gt, 0, none⟩) (some ⟨wq.heap.size, 0, none⟩) 4 4 4 knT knT [(1, 0), (2, 0), (3, 0), (4, 0)] wr (HT6.out.later Dr.out) (HT6.out.later Dr.out) HOr.out (by decide))
    clear hwr Cr kr x0 s0 Hq HKq Dq HAq HOr
    refine HCA.out.mono ?_
    clear HCA
    rw [knT_carry]
    rintro e ws ⟨vc, rfl, own, hb⟩
    have HKs := Lib.hid ((hb.block _ (lt_of_block HKr.out)).trans HKr.out)
    have Ds := Lib.hid (below_via hb Dr.out)
    have HAs := Lib.hid (HAr.out.later hb (Nat.le_refl _))
    rcases row_form own with ⟨_, h0, _⟩ | ⟨gc, cc, rfl, _, _, hzc, _⟩
    · cases h0
    have HOs := Lib.hid (show OffsAt ws (some ⟨gc, 0, none⟩) [(1, 0), (0, 0), (3, 0), (0, 0)] from fun _ => ⟨gc, 0, rfl, hzc, fun i hi => by simpa using (own_offs own).2 i hi⟩)
    clear own hb HKr Dr HAr hzc
    go_wp2_with fail
    refine (law_works ws).mono ?_
    rintro e wt ⟨rfl, hb⟩
    have HKt := Lib.hid ((hb.block _ (lt_of_block HKs.out)).trans HKs.out)
    have Dt := Lib.hid (below_via hb Ds.out)
    have HAt := Lib.hid (HAs.out.later hb (Nat.le_refl _))
    have HOt := Lib.hid (HOs.out.later hb (Nat.le_refl _))
    clear hb HKs Ds HAs HOs
    go_wp2_with fail
    obtain ⟨wu, hwu⟩ : ∃ wu, wu = wt.alloc (.cells #[.int .i64 2, .int .i64 0] 3) := ⟨_, rfl⟩
    have Cu : Below wt.heap.size wt wu := by rw [hwu]; exact below_al (Below.refl _ _) _
    have ku : wu.heap[wt.heap.size]? = some (.cells #[.int .i64 2, .int .i64 0] 3 (0, 0)) := by rw [hwu]; exact heap_alloc_new _ _
    rw [← hwu]
    have HSI := Lib.hid (same_Ints_any va (.slice (some ⟨wt.heap.size, 0, none⟩) 2 2) [2, 0] wu (HAt.out.later Cu (Nat.le_refl _)) (ints_block (L := [2, 0]) ku (by decide)))
    have HKu := Lib.hid ((Cu.block _ (lt_of_block HKt.out)).trans HKt.out)
    have Du := Lib.hid (below_via Cu Dt.out)
    have HOu := Lib.hid (HOt.out.later Cu (Nat.le_refl _))
    clear hwu Cu ku HKt Dt HAt HOt
    refine HSI.out.mono ?_
    clear HSI
    rintro e wv ⟨rfl, hb⟩
    have HKv := Lib.hid ((hb.block _ (lt_of_block HKu.out)).trans HKu.out)
    have Dv := Lib.hid (below_via hb Du.out)
    have HOv := Lib.hid (HOu.out.later hb (Nat.le_refl _))
    have m0 : wv.cell? ⟨g5, 0, none⟩ = some (.int .i64 0) := by rw [cell_of_row _ _ _ _ _ _ HKv.out]; rfl
    have m1 : wv.cell? ⟨g5, 1, none⟩ = some (.int .i64 5) := by rw [cell_of_row _ _ _ _ _ _ HKv.out]; rfl
    have zm : g5 < wv.heap.size := lt_of_block HKv.out
    clear hb HKu Du HOu
    go_wp2_with fail
    obtain ⟨wx, hwx⟩ : ∃ wx, wx = wv.alloc (.cells #[.int .i64 1, .int .i64 0, .int .i64 0, .int .i64 0, .int .i64 3, .int .i64 0, .int .i64 0, .int .i64 0] 25) := ⟨_, rfl⟩
    have Cx : Below wv.heap.size wv wx := by rw [hwx]; exact below_al (Below.refl _ _) _
    have kx : wx.heap[wv.heap.size]? = some (.cells #[.int .i64 1, .int .i64 0, .int .i64 0, .int .i64 0, .int .i64 3, .int .i64 0, .int .i64 0, .int .i64 0] 25 (0, 0)) := by rw [hwx]; exact heap_alloc_new _ _
    rw [← hwx]
    have HOx := Lib.hid (show OffsAt wx (some ⟨wv.heap.size, 0, none⟩) [(1, 0), (0, 0), (3, 0), (0, 0)] from fun _ => ⟨wv.heap.size, 0, rfl, lt_of_block kx, fun i hi => by
      have : i = 0 ∨ i = 1 ∨ i = 2 ∨ i = 3 := by simp at hi; omega
      rcases this with rfl | rfl | rfl | rfl <;> exact ⟨by rw [cell_of_row _ _ _ _ _ _ kx]; rfl, by rw [cell_of_row _ _ _ _ _ _ kx]; rfl⟩⟩)
    have HSO := Lib.hid (show Calls Try.prog 29 #[.slice (some ⟨gc, 0, none⟩) 4 cc, .slice (some ⟨wv.heap.size, 0, none⟩) 4 4] wx _ from same_Offsets_any (some ⟨gc, 0, none⟩) (some ⟨wv.heap.size, 0, none⟩) cc 4 [(1, 0), (0, 0), (3, 0), (0, 0)] wx (by decide) (HOv.out.later Cx (Nat.le_refl _)) HOx.out)
    have Dx := Lib.hid (below_via Cx Dv.out)
    clear hwx Cx kx HKv Dv HOv HOx m0 m1 zm
    refine HSO.out.mono ?_
    clear HSO
    rintro e wy ⟨rfl, hb⟩
    have HE := Lib.hid (below_via (below_via hb Dx.out) B6.out)
    clear hb Dx
    go_wp2
    go_ret
    exact ⟨rfl, HE.out⟩
  case B =>
    have Hb := Lib.hid (show Below w13.heap.size w13 (w13.drew.alloc (.cells #[.int .i64 0, .int .i64 0] 25)) from below_al H13.out _)
    refine wpOp_value (v := .pointer (some ⟨w13.heap.size, 0, none⟩)) (w' := w13.drew.alloc (.cells #[.int .i64 0, .int .i64 0] 25)) (by simp only [List.getElem?_toArray, List.getElem?_cons_succ, List.getElem?_cons_zero]; rfl) (by rfl) ?mb7 Hb.out ?_
    case mb7 => (go_simp; try rfl)
    (try simp only [Act.put, List.setIfInBounds_toArray, List.set_cons_zero, List.set_cons_succ])
    have HKb := Lib.hid (show (w13.drew.alloc (.cells #[.int .i64 0, .int .i64 0] 25)).heap[w13.heap.size]? = some (.cells #[.int .i64 0, .int .i64 0] 25 (0, 0)) from heap_alloc_new w13.drew (.cells #[.int .i64 0, .int .i64 0] 25))
    refine wpAnyH_one (i := 3) (by kernel_rfl) ?_
    refine wpOp_call (by simp only [List.getElem?_toArray, List.getElem?_cons_succ, List.getElem?_cons_zero]; rfl) (by rfl) (by go_simp; first | exact ⟨rfl, rfl⟩ | rfl) ?_
    refine (HMS.out _ Hb.out).mono ?_
    rintro e wa ⟨rfl, hb⟩
    have Ha := Lib.hid (below_via hb Hb.out)
    have HKa := Lib.hid ((hb.block _ (lt_of_block HKb.out)).trans HKb.out)
    clear hb
    refine ⟨_, rfl, Ha.out, ?_⟩
    (try simp only [Act.put, List.setIfInBounds_toArray, List.set_cons_zero, List.set_cons_succ])
    refine wpAnyH_take (i := 4) (v := ?vb4) (by simp only [List.getElem?_toArray, List.getElem?_cons_succ, List.getElem?_cons_zero]; rfl) (by kernel_rfl) (by kernel_rfl) (by kernel_rfl) (fun _ _ _ h => h) (.inl ⟨by rfl, ?tb4⟩) ?sb4 ?_
    case tb4 => (intro w' h; clear h; go_simp; try rfl)
    case sb4 => exact Ha.out
    (try simp only [Act.put, List.setIfInBounds_toArray, List.set_cons_zero, List.set_cons_succ])
    refine wpAnyH_take (i := 5) (v := ?vb5) (by simp only [List.getElem?_toArray, List.getElem?_cons_succ, List.getElem?_cons_zero]; rfl) (by kernel_rfl) (by kernel_rfl) (by kernel_rfl) (fun _ _ _ h => h) (.inl ⟨by rfl, ?tb5⟩) ?sb5 ?_
    case tb5 => (intro w' h; clear h; go_simp; try rfl)
    case sb5 => exact Ha.out
    (try simp only [Act.put, List.setIfInBounds_toArray, List.set_cons_zero, List.set_cons_succ])
    refine wpAnyH_take (i := 6) (v := ?vb6) (by simp only [List.getElem?_toArray, List.getElem?_cons_succ, List.getElem?_cons_zero]; rfl) (by kernel_rfl) (by kernel_rfl) (by kernel_rfl) (fun _ _ _ h => h) (.inl ⟨by rfl, ?tb6⟩) ?sb6 ?_
    case tb6 => (intro w' h; clear h; go_simp; try rfl)
    case sb6 => exact Ha.out
    (try simp only [Act.put, List.setIfInBounds_toArray, List.set_cons_zero, List.set_cons_succ])
    have b0 : wa.cell? ⟨w13.heap.size, 0, none⟩ = some (.int .i64 0) := by rw [cell_of_row _ _ _ _ _ _ HKa.out]; rfl
    have b1 : wa.cell? ⟨w13.heap.size, 1, none⟩ = some (.int .i64 0) := by rw [cell_of_row _ _ _ _ _ _ HKa.out]; rfl
    have d0 : wa.frozen? ⟨w13.heap.size, 0, none⟩ = false := frozen_of_row _ _ _ _ _ HKa.out
    have d1 : wa.frozen? ⟨w13.heap.size, 1, none⟩ = false := frozen_of_row _ _ _ _ _ HKa.out
    have hz : w13.heap.size < wa.heap.size := lt_of_block HKa.out
    have Hc := Lib.hid (show Below w13.heap.size w13 ((wa.setCell ⟨w13.heap.size, 0, none⟩ (.int .i64 0)).setCell ⟨w13.heap.size, 1, none⟩ (.int .i64 0)) from (Ha.out.setCell (p := ⟨w13.heap.size, 0, none⟩) (Nat.le_refl _) _).setCell (p := ⟨w13.heap.size, 1, none⟩) (Nat.le_refl _) _)
    refine wpAnyH_one (i := 8) (by kernel_rfl) ?_
    refine wpOp_skip (w' := (wa.setCell ⟨w13.heap.size, 0, none⟩ (.int .i64 0)).setCell ⟨w13.heap.size, 1, none⟩ (.int .i64 0)) (by simp only [List.getElem?_toArray, List.getElem?_cons_succ, List.getElem?_cons_zero]; rfl) (by rfl) ?mb8 Hc.out ?_
    case mb8 => (go_simp; try rfl)
    (try simp only [Act.put, List.setIfInBounds_toArray, List.set_cons_zero, List.set_cons_succ])
    refine wpAnyH_take (i := 9) (v := ?vb9) (by simp only [List.getElem?_toArray, List.getElem?_cons_succ, List.getElem?_cons_zero]; rfl) (by kernel_rfl) (by kernel_rfl) (by kernel_rfl) (fun _ _ _ h => h) (.inl ⟨by rfl, ?tb9⟩) ?sb9 ?_
    case tb9 => (intro w' h; clear h; go_simp; try rfl)
    case sb9 => exact Hc.out
    (try simp only [Act.put, List.setIfInBounds_toArray, List.set_cons_zero, List.set_cons_succ])
    refine wpAnyH_done (by kernel_rfl) (NoPanic.normal ?_) _
    obtain ⟨wq, hwq⟩ : ∃ wq, wq = (wa.setCell ⟨w13.heap.size, 0, none⟩ (.int .i64 0)).setCell ⟨w13.heap.size, 1, none⟩ (.int .i64 0) := ⟨_, rfl⟩
    rw [← hwq]
    have Hq := Lib.hid (show Below w13.heap.size w13 wq by rw [hwq]; exact Hc.out)
    clear hwq b0 b1 d0 d1 hz
    have HKq := Lib.hid ((Hq.out.block _ (lt_of_block HK13.out)).trans HK13.out)
    have Dq := Lib.hid (below_via Hq.out D13.out)
    have HAq := Lib.hid (HA9.out.later (below_via Hq.out R13.out) (Nat.le_refl _))
    obtain ⟨x0, s0⟩ := HF.out wq Dq.out
    clear HFS HMS H13
    go_wp2_with fail
    obtain ⟨wr, hwr⟩ : ∃ wr, wr = wq.alloc (.cells #[.int .i64 1, .int .i64 0, .int .i64 2, .int .i64 0, .int .i64 3, .int .i64 0, .int .i64 4, .int .i64 0] 25) := ⟨_, rfl⟩
    have Cr : Below wq.heap.size wq wr := by rw [hwr]; exact below_al (Below.refl _ _) _
    have kr : wr.heap[wq.heap.size]? = some (.cells #[.int .i64 1, .int .i64 0, .int .i64 2, .int .i64 0, .int .i64 3, .int .i64 0, .int .i64 4, .int .i64 0] 25 (0, 0)) := by rw [hwr]; exact heap_alloc_new _ _
    rw [← hwr]
    have HOr := Lib.hid (show OffsAt wr (some ⟨wq.heap.size, 0, none⟩) [(1, 0), (2, 0), (3, 0), (4, 0)] from fun _ => ⟨wq.heap.size, 0, rfl, lt_of_block kr, fun i hi => by
      have : i = 0 ∨ i = 1 ∨ i = 2 ∨ i = 3 := by simp at hi; omega
      rcases this with rfl | rfl | rfl | rfl <;> exact ⟨by rw [cell_of_row _ _ _ _ _ _ kr]; rfl, by rw [cell_of_row _ _ _ _ _ _ kr]; rfl⟩⟩)
    have HKr := Lib.hid ((Cr.block _ (lt_of_block HKq.out)).trans HKq.out)
    have Dr := Lib.hid (below_via Cr Dq.out)
    have HAr := Lib.hid (HAq.out.later Cr (Nat.le_refl _))
    have HCA := Lib.hid (show Calls Try.prog 28 #[.agg #[.slice (some ⟨gt, 0, none⟩) 4 4], .agg #[.slice (some ⟨gt, 0, none⟩) 4 4], .slice (some ⟨wq.heap.size, 0, none⟩) 4 4] wr _ from scroll_Carry_any (some ⟨gt, 0, none⟩) (some ⟨gt, 0, none⟩) (some ⟨wq.heap.size, 0, none⟩) 4 4 4 knT knT [(1, 0), (2, 0), (3, 0), (4, 0)] wr (HT6.out.later Dr.out) (HT6.out.later Dr.out) HOr.out (by decide))
    clear hwr Cr kr x0 s0 Hq HKq Dq HAq HOr
    refine HCA.out.mono ?_
    clear HCA
    rw [knT_carry]
    rintro e ws ⟨vc, rfl, own, hb⟩
    have HKs := Lib.hid ((hb.block _ (lt_of_block HKr.out)).trans HKr.out)
    have Ds := Lib.hid (below_via hb Dr.out)
    have HAs := Lib.hid (HAr.out.later hb (Nat.le_refl _))
    rcases row_form own with ⟨_, h0, _⟩ | ⟨gc, cc, rfl, _, _, hzc, _⟩
    · cases h0
    have HOs := Lib.hid (show OffsAt ws (some ⟨gc, 0, none⟩) [(1, 0), (0, 0), (3, 0), (0, 0)] from fun _ => ⟨gc, 0, rfl, hzc, fun i hi => by simpa using (own_offs own).2 i hi⟩)
    clear own hb HKr Dr HAr hzc
    go_wp2_with fail
    refine (law_works ws).mono ?_
    rintro e wt ⟨rfl, hb⟩
    have HKt := Lib.hid ((hb.block _ (lt_of_block HKs.out)).trans HKs.out)
    have Dt := Lib.hid (below_via hb Ds.out)
    have HAt := Lib.hid (HAs.out.later hb (Nat.le_refl _))
    have HOt := Lib.hid (HOs.out.later hb (Nat.le_refl _))
    clear hb HKs Ds HAs HOs
    go_wp2_with fail
    obtain ⟨wu, hwu⟩ : ∃ wu, wu = wt.alloc (.cells #[.int .i64 2, .int .i64 0] 3) := ⟨_, rfl⟩
    have Cu : Below wt.heap.size wt wu := by rw [hwu]; exact below_al (Below.refl _ _) _
    have ku : wu.heap[wt.heap.size]? = some (.cells #[.int .i64 2, .int .i64 0] 3 (0, 0)) := by rw [hwu]; exact heap_alloc_new _ _
    rw [← hwu]
    have HSI := Lib.hid (same_Ints_any va (.slice (some ⟨wt.heap.size, 0, none⟩) 2 2) [2, 0] wu (HAt.out.later Cu (Nat.le_refl _)) (ints_block (L := [2, 0]) ku (by decide)))
    have HKu := Lib.hid ((Cu.block _ (lt_of_block HKt.out)).trans HKt.out)
    have Du := Lib.hid (below_via Cu Dt.out)
    have HOu := Lib.hid (HOt.out.later Cu (Nat.le_refl _))
    clear hwu Cu ku HKt Dt HAt HOt
    refine HSI.out.mono ?_
    clear HSI
    rintro e wv ⟨rfl, hb⟩
    have HKv := Lib.hid ((hb.block _ (lt_of_block HKu.out)).trans HKu.out)
    have Dv := Lib.hid (below_via hb Du.out)
    have HOv := Lib.hid (HOu.out.later hb (Nat.le_refl _))
    have m0 : wv.cell? ⟨g5, 0, none⟩ = some (.int .i64 0) := by rw [cell_of_row _ _ _ _ _ _ HKv.out]; rfl
    have m1 : wv.cell? ⟨g5, 1, none⟩ = some (.int .i64 5) := by rw [cell_of_row _ _ _ _ _ _ HKv.out]; rfl
    have zm : g5 < wv.heap.size := lt_of_block HKv.out
    clear hb HKu Du HOu
    go_wp2_with fail
    obtain ⟨wx, hwx⟩ : ∃ wx, wx = wv.alloc (.cells #[.int .i64 1, .int .i64 0, .int .i64 0, .int .i64 0, .int .i64 3, .int .i64 0, .int .i64 0, .int .i64 0] 25) := ⟨_, rfl⟩
    have Cx : Below wv.heap.size wv wx := by rw [hwx]; exact below_al (Below.refl _ _) _
    have kx : wx.heap[wv.heap.size]? = some (.cells #[.int .i64 1, .int .i64 0, .int .i64 0, .int .i64 0, .int .i64 3, .int .i64 0, .int .i64 0, .int .i64 0] 25 (0, 0)) := by rw [hwx]; exact heap_alloc_new _ _
    rw [← hwx]
    have HOx := Lib.hid (show OffsAt wx (some ⟨wv.heap.size, 0, none⟩) [(1, 0), (0, 0), (3, 0), (0, 0)] from fun _ => ⟨wv.heap.size, 0, rfl, lt_of_block kx, fun i hi => by
      have : i = 0 ∨ i = 1 ∨ i = 2 ∨ i = 3 := by simp at hi; omega
      rcases this with rfl | rfl | rfl | rfl <;> exact ⟨by rw [cell_of_row _ _ _ _ _ _ kx]; rfl, by rw [cell_of_row _ _ _ _ _ _ kx]; rfl⟩⟩)
    have HSO := Lib.hid (show Calls Try.prog 29 #[.slice (some ⟨gc, 0, none⟩) 4 cc, .slice (some ⟨wv.heap.size, 0, none⟩) 4 4] wx _ from same_Offsets_any (some ⟨gc, 0, none⟩) (some ⟨wv.heap.size, 0, none⟩) cc 4 [(1, 0), (0, 0), (3, 0), (0, 0)] wx (by decide) (HOv.out.later Cx (Nat.le_refl _)) HOx.out)
    have Dx := Lib.hid (below_via Cx Dv.out)
    clear hwx Cx kx HKv Dv HOv HOx m0 m1 zm
    refine HSO.out.mono ?_
    clear HSO
    rintro e wy ⟨rfl, hb⟩
    have HE := Lib.hid (below_via (below_via hb Dx.out) B6.out)
    clear hb Dx
    go_wp2
    go_ret
    exact ⟨rfl, HE.out⟩
end Go.Proofs.Ytegdokchkblpiaa
