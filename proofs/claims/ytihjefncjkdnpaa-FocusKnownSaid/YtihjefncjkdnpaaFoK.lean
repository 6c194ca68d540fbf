/- The walk of FocusKnown. -/
import Derived.Test.YtihjefncjkdnpaaRoZ
import Derived.Test.YtihjefncjkdnpaaFoT
import Derived.Test.YtihjefncjkdnpaaLntC
namespace Go.Proofs.Ytihjefncjkdnpaa
open Go.RowKit Go.Deep
set_option linter.unusedVariables false
set_option linter.unusedSimpArgs false

def fkB (i j : Nat) : Int :=
  if i = 1 then (if j = 14 then 11 else if j = 15 then 1 else 0)
  else if i = 3 then (if j = 13 then 1 else if j = 14 then 5 else if j = 15 then 1 else 0)
  else if i = 4 then (if j = 12 then 6 else if j = 13 then 1 else if j = 14 then 5 else if j = 15 then 1 else 0) else 0
def bxL6 : List Value := List.replicate 108 (.int .i64 0)
def bxM6 : List Value := ((((((((((((bxL6.set 30 (.int .i64 0)).set 31 (.int .i64 0)).set 32 (.int .i64 11)).set 33 (.int .i64 1)).set 66 (.int .i64 0)).set 67 (.int .i64 1)).set 68 (.int .i64 5)).set 69 (.int .i64 1)).set 84 (.int .i64 6)).set 85 (.int .i64 1)).set 86 (.int .i64 5)).set 87 (.int .i64 1))
theorem bxM6_eq : bxM6 = (List.range 108).map fun k => .int .i64 (fkB (k / 18) (k % 18)) := by kernel_rfl
theorem bxM6_get (i j : Nat) (hi : i < 6) (hj : j < 18) : bxM6[i * 18 + j]? = some (.int .i64 (fkB i j)) := by
  rw [bxM6_eq, List.getElem?_map, List.getElem?_range (by omega)]
  show some (Value.int .i64 (fkB ((i * 18 + j) / 18) ((i * 18 + j) % 18))) = _
  rw [show (i * 18 + j) / 18 = i by omega, show (i * 18 + j) % 18 = j by omega]
theorem fkB_ok : ClipOk 6 fkB := fun i hi j _ _ => by
  unfold fkB
  split
  · split
    · decide
    · split <;> decide
  · split
    · split
      · decide
      · split
        · decide
        · split <;> decide
    · split
      · split
        · decide
        · split
          · decide
          · split
            · decide
            · split <;> decide
      · decide
def nwT : List Nd := [ndF 1 ⟨#[98]⟩ [] 1]
theorem nwT_ok : ∀ x ∈ nwT, NdOk x := fun x hx => by
  simp only [nwT, List.mem_cons, List.not_mem_nil, or_false] at hx
  rcases hx with rfl
  exact ndF_ok (by decide) (by decide) (by decide) (by decide)
theorem fk_n0 : nextR [1, 3, 4] 3 (-7) = 1 := by decide +kernel
theorem fk_n1 : nextR [1, 3, 4] 5 1 = 1 := by decide +kernel
theorem fk_n2 : nextR [1, 3, 4] 5 (-1) = 4 := by decide +kernel
theorem fk_n3 : nextR [1, 3, 4] 5 0 = -1 := by decide +kernel
theorem fk_n4 : nextR [1, 3, 4] (-9) 2 = 3 := by decide +kernel
theorem fk_r0 : nearR smT 6 fkB 3 7 = 4 := by decide +kernel
theorem fk_r1 : nearR smT 6 fkB 3 5 = 1 := by decide +kernel
theorem fk_r2 : nearR smT 6 fkB 3 8 = -1 := by decide +kernel
theorem fk_r3 : nearR smT 6 fkB 1 6 = 3 := by decide +kernel
theorem fk_c0 : carryN smT nwT 3 = 0 := by decide +kernel
theorem fk_c1 : carryN smT nwT 1 = -1 := by decide +kernel
theorem fk_c2 : carryN smT nwT 5 = -1 := by decide +kernel
set_option maxRecDepth 100000 in
set_option maxHeartbeats 32000000 in
theorem FocusKnown_walk (w : World) : Calls Try.prog 9 #[] w fun e w' => e = .returned (.bool true) ∧ Below w.heap.size w w' := by
  obtain ⟨i0, hi, hz0, hz1, hz2⟩ := info_parts infoNode_
  have HI := Lib.hid (And.intro hi (And.intro hz0 (And.intro hz1 hz2)))
  clear hi hz0 hz1 hz2
  obtain ⟨n0, hn0⟩ : ∃ l, l = ndV (ndF 1 ⟨#[98]⟩ [] 1) (.slice none 0 0) (.slice none 0 0) := ⟨_, rfl⟩
  have BT0 := Lib.hid (show Try.prog.built 53 [(0, .int .i8 1), (1, .string ⟨#[98]⟩), (16, .int .u8 1)] = some n0.toArray by rw [hn0]; exact built_01f 1 ⟨#[98]⟩ 1)
  have L34 := Lib.hid (show ∀ a ∈ [n0], a.length = 34 from fun a ha => by
    rw [List.mem_singleton] at ha
    rw [ha, hn0]; rfl)
  have H0 := Lib.hid hn0
  have hmk : ∀ w : World, (Instr.makeSlice 70 (.int .i64 6) (.int .i64 6)).run Try.prog w = .ok (.slice (some ⟨w.heap.size, 0, none⟩) 6 6) (w.alloc (.cells bxL6.toArray 81)) := fun w => by kernel_rfl
  clear hn0
  go_enter Try.func9, Try.ntmps9
  go_wp2_with fail
  refine (small_any w).mono ?_
  rintro e w1 ⟨g, rfl, TT, hb1⟩
  have HTT := Lib.hid TT
  have B1 := Lib.hid hb1
  clear TT hb1
  go_upto_region 3 with (fail)
  obtain ⟨w2, hw2⟩ : ∃ w2, w2 = w1.alloc (.cells #[.slice (some ⟨g, 0, none⟩) 6 6] 24) := ⟨_, rfl⟩
  obtain ⟨w3, hw3⟩ : ∃ w3, w3 = w2.alloc (.cells bxL6.toArray 81) := ⟨_, rfl⟩
  rw [← hw2, ← hw3]
  have z2 : w2.heap.size = w1.heap.size + 1 := by rw [hw2]; simp
  have C3 : Below w2.heap.size w2 w3 := by rw [hw3]; exact below_al (Below.refl _ _) _
  have x2 : w2.heap[w1.heap.size]? = some (.cells #[.slice (some ⟨g, 0, none⟩) 6 6] 24 (0, 0)) := by rw [hw2]; exact heap_alloc_new _ _
  have k3 : w3.heap[w2.heap.size]? = some (.cells bxL6.toArray 81 (0, 0)) := by rw [hw3]; exact heap_alloc_new _ _
  have D2 := Lib.hid (show Below w1.heap.size w1 w2 by rw [hw2]; exact below_al (Below.refl _ _) _)
  rw [← z2]
  obtain ⟨gb, hgb⟩ : ∃ gb, gb = w2.heap.size := ⟨_, rfl⟩
  rw [← hgb] at k3 ⊢
  obtain ⟨k1, hk1⟩ : ∃ k1, k1 = w1.heap.size := ⟨_, rfl⟩
  rw [← hk1] at x2 ⊢
  have HK3 := Lib.hid k3
  have HX2 := Lib.hid x2
  have HC3 := Lib.hid C3
  have hz3 : gb < w3.heap.size := lt_of_block k3
  have hgb' : w2.heap.size ≤ gb := by omega
  have HGB := Lib.hid hgb'
  clear hw2 hw3 z2 C3 x2 k3 hk1 hgb hgb' hmk
  have c30 : w3.cell? ⟨gb, 30, none⟩ = some (.int .i64 0) := by rw [cell_of_row _ _ _ _ _ _ HK3.out]; rfl
  have f30 : w3.frozen? ⟨gb, 30, none⟩ = false := frozen_of_row _ _ _ _ _ HK3.out
  have c31 : w3.cell? ⟨gb, 31, none⟩ = some (.int .i64 0) := by rw [cell_of_row _ _ _ _ _ _ HK3.out]; rfl
  have f31 : w3.frozen? ⟨gb, 31, none⟩ = false := frozen_of_row _ _ _ _ _ HK3.out
  have c32 : w3.cell? ⟨gb, 32, none⟩ = some (.int .i64 0) := by rw [cell_of_row _ _ _ _ _ _ HK3.out]; rfl
  have f32 : w3.frozen? ⟨gb, 32, none⟩ = false := frozen_of_row _ _ _ _ _ HK3.out
  have c33 : w3.cell? ⟨gb, 33, none⟩ = some (.int .i64 0) := by rw [cell_of_row _ _ _ _ _ _ HK3.out]; rfl
  have f33 : w3.frozen? ⟨gb, 33, none⟩ = false := frozen_of_row _ _ _ _ _ HK3.out
  have c66 : w3.cell? ⟨gb, 66, none⟩ = some (.int .i64 0) := by rw [cell_of_row _ _ _ _ _ _ HK3.out]; rfl
  have f66 : w3.frozen? ⟨gb, 66, none⟩ = false := frozen_of_row _ _ _ _ _ HK3.out
  have c67 : w3.cell? ⟨gb, 67, none⟩ = some (.int .i64 0) := by rw [cell_of_row _ _ _ _ _ _ HK3.out]; rfl
  have f67 : w3.frozen? ⟨gb, 67, none⟩ = false := frozen_of_row _ _ _ _ _ HK3.out
  have c68 : w3.cell? ⟨gb, 68, none⟩ = some (.int .i64 0) := by rw [cell_of_row _ _ _ _ _ _ HK3.out]; rfl
  have f68 : w3.frozen? ⟨gb, 68, none⟩ = false := frozen_of_row _ _ _ _ _ HK3.out
  have c69 : w3.cell? ⟨gb, 69, none⟩ = some (.int .i64 0) := by rw [cell_of_row _ _ _ _ _ _ HK3.out]; rfl
  have f69 : w3.frozen? ⟨gb, 69, none⟩ = false := frozen_of_row _ _ _ _ _ HK3.out
  have c84 : w3.cell? ⟨gb, 84, none⟩ = some (.int .i64 0) := by rw [cell_of_row _ _ _ _ _ _ HK3.out]; rfl
  have f84 : w3.frozen? ⟨gb, 84, none⟩ = false := frozen_of_row _ _ _ _ _ HK3.out
  have c85 : w3.cell? ⟨gb, 85, none⟩ = some (.int .i64 0) := by rw [cell_of_row _ _ _ _ _ _ HK3.out]; rfl
  have f85 : w3.frozen? ⟨gb, 85, none⟩ = false := frozen_of_row _ _ _ _ _ HK3.out
  have c86 : w3.cell? ⟨gb, 86, none⟩ = some (.int .i64 0) := by rw [cell_of_row _ _ _ _ _ _ HK3.out]; rfl
  have f86 : w3.frozen? ⟨gb, 86, none⟩ = false := frozen_of_row _ _ _ _ _ HK3.out
  have c87 : w3.cell? ⟨gb, 87, none⟩ = some (.int .i64 0) := by rw [cell_of_row _ _ _ _ _ _ HK3.out]; rfl
  have f87 : w3.frozen? ⟨gb, 87, none⟩ = false := frozen_of_row _ _ _ _ _ HK3.out
  go_upto_region 6 with (fail)
  obtain ⟨w4, hw4⟩ : ∃ w4, w4 = (((((((((((w3.setCell ⟨gb, 30, none⟩ (.int .i64 0)).setCell ⟨gb, 31, none⟩ (.int .i64 0)).setCell ⟨gb, 32, none⟩ (.int .i64 11)).setCell ⟨gb, 33, none⟩ (.int .i64 1)).setCell ⟨gb, 66, none⟩ (.int .i64 0)).setCell ⟨gb, 67, none⟩ (.int .i64 1)).setCell ⟨gb, 68, none⟩ (.int .i64 5)).setCell ⟨gb, 69, none⟩ (.int .i64 1)).setCell ⟨gb, 84, none⟩ (.int .i64 6)).setCell ⟨gb, 85, none⟩ (.int .i64 1)).setCell ⟨gb, 86, none⟩ (.int .i64 5)).setCell ⟨gb, 87, none⟩ (.int .i64 1) := ⟨_, rfl⟩
  have k4 : w4.heap[gb]? = some (.cells bxM6.toArray 81 (0, 0)) := by
    rw [hw4]
    exact (blk_set _ (blk_set _ (blk_set _ (blk_set _ (blk_set _ (blk_set _ (blk_set _ (blk_set _ (blk_set _ (blk_set _ (blk_set _ (blk_set _ HK3.out))))))))))))
  have C4 : Below w2.heap.size w2 w4 := by
    rw [hw4]
    have hgb := HGB.out
    exact ((((((((((((HC3.out.setCell (p := ⟨gb, 30, none⟩) hgb _).setCell (p := ⟨gb, 31, none⟩) hgb _).setCell (p := ⟨gb, 32, none⟩) hgb _).setCell (p := ⟨gb, 33, none⟩) hgb _).setCell (p := ⟨gb, 66, none⟩) hgb _).setCell (p := ⟨gb, 67, none⟩) hgb _).setCell (p := ⟨gb, 68, none⟩) hgb _).setCell (p := ⟨gb, 69, none⟩) hgb _).setCell (p := ⟨gb, 84, none⟩) hgb _).setCell (p := ⟨gb, 85, none⟩) hgb _).setCell (p := ⟨gb, 86, none⟩) hgb _).setCell (p := ⟨gb, 87, none⟩) hgb _)
  rw [← hw4]
  have D4 := Lib.hid (below_via C4 D2.out)
  have HX4 := Lib.hid ((C4.block _ (lt_of_block HX2.out)).trans HX2.out)
  have HBX := Lib.hid (show BoxAt w4 (some ⟨gb, 0, none⟩) 6 fkB from fun _ => ⟨gb, 0, rfl, lt_of_block k4, fun i hi j hj => by
    rw [cell_of_row _ gb _ _ _ _ k4, Nat.zero_add]
    simpa using bxM6_get i j hi hj⟩)
  clear hw4 k4 C4 HK3 HC3 HGB D2 HX2 c30 f30 c31 f31 c32 f32 c33 f33 c66 f66 c67 f67 c68 f68 c69 f69 c84 f84 c85 f85 c86 f86 c87 f87 hz3
  go_upto_region 7 with (first | ((with_reducible refine wpList_build_node ?e0 #[(0, .const (.int .i8 1)), (1, .const (.string ⟨#[98]⟩)), (16, .const (.int .u8 1))] ?f0 n0 [(0, .int .i8 1), (1, .string ⟨#[98]⟩), (16, .int .u8 1)] ?g0 BT0.out ?_); (case e0 => rfl); (case f0 => rfl); (case g0 => rfl)) | ((with_reducible refine wpList_buildSlice_all _ ?b1 22 53 1 #[(0, .tmp 20)] ?b2 i0 _ 34 Try.underlying22 HI.out.1 HI.out.2.1 HI.out.2.2.1 ?b6 [n0] ?b7 ?b3 ?b4 ?b5 ?_); (case b1 => rfl); (case b2 => rfl); (case b6 => decide); (case b7 => rfl); (case b3 => rfl); (case b4 => exact L34.out); (case b5 => (show 1 * 34 ≤ 16777216; decide))))
  obtain ⟨w5, hw5⟩ : ∃ w5, w5 = w4.alloc (.cells n0.toArray 53) := ⟨_, rfl⟩
  obtain ⟨w6, hw6⟩ : ∃ w6, w6 = w5.alloc (.cells #[.slice (some ⟨w4.heap.size, 0, none⟩) 1 1] 24) := ⟨_, rfl⟩
  have TB := tree_built w4 nwT [n0] rfl L34.out nwT_ok (by decide) (fun i hi => by
    have : i = 0 := by have : nwT.length = 1 := rfl; omega
    subst this
    exact ⟨_, _, H0.out, ints_none _, its_none _⟩)
  rw [show ([n0] : List (List Value)).flatten = n0 by simp, ← hw5] at TB
  rw [← hw5, ← hw6]
  have z5 : w5.heap.size = w4.heap.size + 1 := by rw [hw5]; simp
  rw [← z5]
  obtain ⟨k3, hk3⟩ : ∃ k3, k3 = w5.heap.size := ⟨_, rfl⟩
  obtain ⟨gn, hgn⟩ : ∃ gn, gn = w4.heap.size := ⟨_, rfl⟩
  have C56 : Below w5.heap.size w5 w6 := by rw [hw6]; exact below_al (Below.refl _ _) _
  have C46 : Below w4.heap.size w4 w6 := below_via C56 (by rw [hw5]; exact below_al (Below.refl _ _) _)
  have x6 : w6.heap[w5.heap.size]? = some (.cells #[.slice (some ⟨w4.heap.size, 0, none⟩) 1 1] 24 (0, 0)) := by rw [hw6]; exact heap_alloc_new _ _
  rw [← hk3, ← hgn] at x6
  rw [← hgn] at TB
  rw [← hk3, ← hgn]
  have HN6 := Lib.hid (show TreeAt w6 (.slice (some ⟨gn, 0, none⟩) 1 1) nwT from TB.later C56)
  have D6 := Lib.hid (below_via C46 D4.out)
  have HT6 := Lib.hid (HTT.out.later D6.out)
  have HX6 := Lib.hid ((C46.block _ (lt_of_block HX4.out)).trans HX4.out)
  have HY6 := Lib.hid x6
  have HB6 := Lib.hid (HBX.out.later C46 (Nat.le_refl _))
  have B6 := Lib.hid (below_via D6.out B1.out)
  clear hw5 hw6 TB z5 hk3 hgn C56 C46 x6 HTT HX4 HBX D4 D6 B1 HI L34 BT0 H0
  have HF := Lib.hid (fun w' (h : Below w6.heap.size w6 w') => show (w'.cell? ⟨k1, 0, none⟩ = some (.slice (some ⟨g, 0, none⟩) 6 6) ∧ w'.cell? ⟨k3, 0, none⟩ = some (.slice (some ⟨gn, 0, none⟩) 1 1)) ∧ k1 < w'.heap.size ∧ k3 < w'.heap.size from by
    have h1 := lt_of_block HX6.out
    have h3 := lt_of_block HY6.out
    have h4 := h.size
    exact ⟨⟨cell_of_one ((h.block _ h1).trans HX6.out), cell_of_one ((h.block _ h3).trans HY6.out)⟩, by omega, by omega⟩)
  have HNX := Lib.hid (fun w' (h : Below w6.heap.size w6 w') (i j : Int) => show Calls Try.prog 14 #[.agg #[.slice (some ⟨g, 0, none⟩) 6 6], .int .i64 i, .int .i64 j] w' (RetN [1, 3, 4] i j w') from by
    have := focus_Next_any (some ⟨g, 0, none⟩) 6 smT i j w' (HT6.out.later h)
    rw [smT_fos] at this
    exact this)
  have HNR := Lib.hid (fun w' (h : Below w6.heap.size w6 w') (i k : Int) => show Calls Try.prog 27 #[.agg #[.slice (some ⟨g, 0, none⟩) 6 6], .slice (some ⟨gb, 0, none⟩) 6 6, .int .i64 i, .int .i32 k] w' (RetNr (nearR smT 6 fkB i k) w') from focus_Near_any (some ⟨g, 0, none⟩) (some ⟨gb, 0, none⟩) 6 6 6 smT fkB i k w' (HT6.out.later h) (HB6.out.later h (Nat.le_refl _)) (by decide) fkB_ok)
  have HCA := Lib.hid (fun w' (h : Below w6.heap.size w6 w') (i : Int) => show Calls Try.prog 18 #[.agg #[.slice (some ⟨g, 0, none⟩) 6 6], .agg #[.slice (some ⟨gn, 0, none⟩) 1 1], .int .i64 i] w' (RetC smT nwT i w') from focus_Carry_any (some ⟨g, 0, none⟩) (some ⟨gn, 0, none⟩) 6 1 smT nwT i w' (HT6.out.later h) (HN6.out.later h))
  have R6 := Lib.hid (Below.refl w6.heap.size w6)
  obtain ⟨⟨x0, x1⟩, s0, s1⟩ := HF.out w6 R6.out
  go_wp2_with fail
  refine (HNX.out w6 R6.out 3 (-7)).mono ?_
  rintro e w7 ⟨rfl, hb⟩
  rw [fk_n0]
  have R7 := Lib.hid (below_via hb R6.out)
  clear hb x0 x1 s0 s1
  obtain ⟨⟨x0, x1⟩, s0, s1⟩ := HF.out w7 R7.out
  go_wp2_with fail
  refine (HNX.out w7 R7.out 5 1).mono ?_
  rintro e w8 ⟨rfl, hb⟩
  rw [fk_n1]
  have R8 := Lib.hid (below_via hb R7.out)
  clear hb x0 x1 s0 s1
  obtain ⟨⟨x0, x1⟩, s0, s1⟩ := HF.out w8 R8.out
  go_wp2_with fail
  refine (HNX.out w8 R8.out 5 (-1)).mono ?_
  rintro e w9 ⟨rfl, hb⟩
  rw [fk_n2]
  have R9 := Lib.hid (below_via hb R8.out)
  clear hb x0 x1 s0 s1
  obtain ⟨⟨x0, x1⟩, s0, s1⟩ := HF.out w9 R9.out
  go_wp2_with fail
  refine (HNX.out w9 R9.out 5 0).mono ?_
  rintro e w10 ⟨rfl, hb⟩
  rw [fk_n3]
  have R10 := Lib.hid (below_via hb R9.out)
  clear hb x0 x1 s0 s1
  obtain ⟨⟨x0, x1⟩, s0, s1⟩ := HF.out w10 R10.out
  go_wp2_with fail
  refine (HNX.out w10 R10.out (-9) 2).mono ?_
  rintro e w11 ⟨rfl, hb⟩
  rw [fk_n4]
  have R11 := Lib.hid (below_via hb R10.out)
  clear hb x0 x1 s0 s1
  obtain ⟨⟨x0, x1⟩, s0, s1⟩ := HF.out w11 R11.out
  go_wp2_with fail
  refine (HNR.out w11 R11.out 3 7).mono ?_
  rintro e w12 ⟨rfl, hb⟩
  rw [fk_r0]
  have R12 := Lib.hid (below_via hb R11.out)
  clear hb x0 x1 s0 s1
  obtain ⟨⟨x0, x1⟩, s0, s1⟩ := HF.out w12 R12.out
  go_wp2_with fail
  refine (HNR.out w12 R12.out 3 5).mono ?_
  rintro e w13 ⟨rfl, hb⟩
  rw [fk_r1]
  have R13 := Lib.hid (below_via hb R12.out)
  clear hb x0 x1 s0 s1
  obtain ⟨⟨x0, x1⟩, s0, s1⟩ := HF.out w13 R13.out
  go_wp2_with fail
  refine (HNR.out w13 R13.out 3 8).mono ?_
  rintro e w14 ⟨rfl, hb⟩
  rw [fk_r2]
  have R14 := Lib.hid (below_via hb R13.out)
  clear hb x0 x1 s0 s1
  obtain ⟨⟨x0, x1⟩, s0, s1⟩ := HF.out w14 R14.out
  go_wp2_with fail
  refine (HNR.out w14 R14.out 1 6).mono ?_
  rintro e w15 ⟨rfl, hb⟩
  rw [fk_r3]
  have R15 := Lib.hid (below_via hb R14.out)
  clear hb x0 x1 s0 s1
  obtain ⟨⟨x0, x1⟩, s0, s1⟩ := HF.out w15 R15.out
  go_wp2_with fail
  refine (works_any w15).mono ?_
  rintro e w16 ⟨rfl, hb⟩
  have R16 := Lib.hid (below_via hb R15.out)
  clear hb x0 x1 s0 s1
  obtain ⟨⟨x0, x1⟩, s0, s1⟩ := HF.out w16 R16.out
  go_wp2_with fail
  refine (HCA.out w16 R16.out 3).mono ?_
  rintro e w17 ⟨rfl, hb⟩
  rw [fk_c0]
  have R17 := Lib.hid (below_via hb R16.out)
  clear hb x0 x1 s0 s1
  obtain ⟨⟨x0, x1⟩, s0, s1⟩ := HF.out w17 R17.out
  go_wp2_with fail
  refine (HCA.out w17 R17.out 1).mono ?_
  rintro e w18 ⟨rfl, hb⟩
  rw [fk_c1]
  have R18 := Lib.hid (below_via hb R17.out)
  clear hb x0 x1 s0 s1
  obtain ⟨⟨x0, x1⟩, s0, s1⟩ := HF.out w18 R18.out
  go_wp2_with fail
  refine (HCA.out w18 R18.out 5).mono ?_
  rintro e w19 ⟨rfl, hb⟩
  rw [fk_c2]
  have R19 := Lib.hid (below_via hb R18.out)
  clear hb x0 x1 s0 s1
  obtain ⟨⟨x0, x1⟩, s0, s1⟩ := HF.out w19 R19.out
  have HE := Lib.hid (below_via R19.out B6.out)
  clear x0 x1 s0 s1
  go_wp2
  go_ret
  exact ⟨rfl, HE.out⟩
end Go.Proofs.Ytihjefncjkdnpaa
