/- Focus: the little tree, the little taker, works. -/
import Derived.Test.YtihjefncjkdnpaaRoC
import Derived.Test.YtihjefncjkdnpaaFoH
import Derived.Test.YtihjefncjkdnpaaTbl
import Derived.Test.YtihjefncjkdnpaaLntB
namespace Go.Proofs.Ytihjefncjkdnpaa
open Go.RowKit Go.Deep
set_option linter.unusedVariables false
set_option linter.unusedSimpArgs false

/-- the little tree -/
def smT : List Nd := [ndF 3 ByteArray.empty [1, 2, 5] 0, ndF 7 ⟨#[97]⟩ [] 0, ndF 2 ByteArray.empty [3, 4] 0, ndF 1 ⟨#[98]⟩ [] 1, ndF 1 ⟨#[99]⟩ [] 1, ndF 1 ByteArray.empty [] 0]
theorem smT_len : smT.length = 6 := rfl
theorem smT_check : (checkT smT).1 = 0 := by decide +kernel
theorem smT_fos : fosL smT = [1, 3, 4] := by decide +kernel
theorem smT_par : parL smT = [-1, 0, 0, 2, 2, 0] := by decide +kernel
theorem smT_next : nextR [1, 3, 4] 4 1 = 1 := by decide +kernel
theorem smT_carry : carryN smT smT 3 = 3 := by decide +kernel
theorem smT_ok : ∀ x ∈ smT, NdOk x := fun x hx => by
  simp only [smT, List.mem_cons, List.not_mem_nil, or_false] at hx
  rcases hx with rfl | rfl | rfl | rfl | rfl | rfl <;> exact ndF_ok (by decide) (by decide) (by decide) (by decide)
set_option maxRecDepth 100000 in
set_option maxHeartbeats 8000000 in
theorem small_any (w : World) : Calls Try.prog 33 #[] w fun e w' => ∃ g, e = .returned (.agg #[.slice (some ⟨g, 0, none⟩) 6 6]) ∧ TreeAt w' (.slice (some ⟨g, 0, none⟩) 6 6) smT ∧ Below w.heap.size w w' := by
  obtain ⟨i0, hi, hz0, hz1, hz2⟩ := info_parts infoNode_
  have HI := Lib.hid (And.intro hi (And.intro hz0 (And.intro hz1 hz2)))
  clear hi hz0 hz1 hz2
  obtain ⟨n0, hn0⟩ : ∃ l, l = ndV (ndF 3 ByteArray.empty [1, 2, 5] 0) (.slice (some ⟨w.heap.size + 1, 0, none⟩) 3 3) (.slice none 0 0) := ⟨_, rfl⟩
  obtain ⟨n1, hn1⟩ : ∃ l, l = ndV (ndF 7 ⟨#[97]⟩ [] 0) (.slice none 0 0) (.slice none 0 0) := ⟨_, rfl⟩
  obtain ⟨n2, hn2⟩ : ∃ l, l = ndV (ndF 2 ByteArray.empty [3, 4] 0) (.slice (some ⟨w.heap.size + 1 + 1, 0, none⟩) 2 2) (.slice none 0 0) := ⟨_, rfl⟩
  obtain ⟨n3, hn3⟩ : ∃ l, l = ndV (ndF 1 ⟨#[98]⟩ [] 1) (.slice none 0 0) (.slice none 0 0) := ⟨_, rfl⟩
  obtain ⟨n4, hn4⟩ : ∃ l, l = ndV (ndF 1 ⟨#[99]⟩ [] 1) (.slice none 0 0) (.slice none 0 0) := ⟨_, rfl⟩
  obtain ⟨n5, hn5⟩ : ∃ l, l = ndV (ndF 1 ByteArray.empty [] 0) (.slice none 0 0) (.slice none 0 0) := ⟨_, rfl⟩
  have BT0 := Lib.hid (show Try.prog.built 53 [(0, .int .i8 3), (3, .slice (some ⟨w.heap.size + 1, 0, none⟩) 3 3)] = some n0.toArray by rw [hn0]; exact built_03 3 [1, 2, 5] _ 3 3)
  have BT1 := Lib.hid (show Try.prog.built 53 [(0, .int .i8 7), (1, .string ⟨#[97]⟩)] = some n1.toArray by rw [hn1]; exact built_01 7 ⟨#[97]⟩)
  have BT2 := Lib.hid (show Try.prog.built 53 [(0, .int .i8 2), (3, .slice (some ⟨w.heap.size + 1 + 1, 0, none⟩) 2 2)] = some n2.toArray by rw [hn2]; exact built_03 2 [3, 4] _ 2 2)
  have BT3 := Lib.hid (show Try.prog.built 53 [(0, .int .i8 1), (1, .string ⟨#[98]⟩), (16, .int .u8 1)] = some n3.toArray by rw [hn3]; exact built_01f 1 ⟨#[98]⟩ 1)
  have BT4 := Lib.hid (show Try.prog.built 53 [(0, .int .i8 1), (1, .string ⟨#[99]⟩), (16, .int .u8 1)] = some n4.toArray by rw [hn4]; exact built_01f 1 ⟨#[99]⟩ 1)
  have BT5 := Lib.hid (show Try.prog.built 53 [(0, .int .i8 1)] = some n5.toArray by rw [hn5]; exact built_0 1)
  have L34 := Lib.hid (show ∀ a ∈ [n0, n1, n2, n3, n4, n5], a.length = 34 from fun a ha => by
    simp only [List.mem_cons, List.not_mem_nil, or_false] at ha
    rcases ha with rfl | rfl | rfl | rfl | rfl | rfl
    · rw [hn0]; rfl
    · rw [hn1]; rfl
    · rw [hn2]; rfl
    · rw [hn3]; rfl
    · rw [hn4]; rfl
    · rw [hn5]; rfl)
  have H0 := Lib.hid hn0
  have H1 := Lib.hid hn1
  have H2 := Lib.hid hn2
  have H3 := Lib.hid hn3
  have H4 := Lib.hid hn4
  have H5 := Lib.hid hn5
  clear hn0 hn1 hn2 hn3 hn4 hn5
  go_enter Try.func33, Try.ntmps33
  go_wp2_with (first | ((with_reducible refine wpList_build_node ?e0 #[(0, .const (.int .i8 3)), (3, .tmp 1)] ?f0 n0 [(0, .int .i8 3), (3, .slice (some ⟨w.heap.size + 1, 0, none⟩) 3 3)] ?g0 BT0.out ?_); (case e0 => rfl); (case f0 => rfl); (case g0 => rfl)) | ((with_reducible refine wpList_build_node ?e1 #[(0, .const (.int .i8 7)), (1, .const (.string ⟨#[97]⟩))] ?f1 n1 [(0, .int .i8 7), (1, .string ⟨#[97]⟩)] ?g1 BT1.out ?_); (case e1 => rfl); (case f1 => rfl); (case g1 => rfl)) | ((with_reducible refine wpList_build_node ?e2 #[(0, .const (.int .i8 2)), (3, .tmp 4)] ?f2 n2 [(0, .int .i8 2), (3, .slice (some ⟨w.heap.size + 1 + 1, 0, none⟩) 2 2)] ?g2 BT2.out ?_); (case e2 => rfl); (case f2 => rfl); (case g2 => rfl)) | ((with_reducible refine wpList_build_node ?e3 #[(0, .const (.int .i8 1)), (1, .const (.string ⟨#[98]⟩)), (16, .const (.int .u8 1))] ?f3 n3 [(0, .int .i8 1), (1, .string ⟨#[98]⟩), (16, .int .u8 1)] ?g3 BT3.out ?_); (case e3 => rfl); (case f3 => rfl); (case g3 => rfl)) | ((with_reducible refine wpList_build_node ?e4 #[(0, .const (.int .i8 1)), (1, .const (.string ⟨#[99]⟩)), (16, .const (.int .u8 1))] ?f4 n4 [(0, .int .i8 1), (1, .string ⟨#[99]⟩), (16, .int .u8 1)] ?g4 BT4.out ?_); (case e4 => rfl); (case f4 => rfl); (case g4 => rfl)) | ((with_reducible refine wpList_build_node ?e5 #[(0, .const (.int .i8 1))] ?f5 n5 [(0, .int .i8 1)] ?g5 BT5.out ?_); (case e5 => rfl); (case f5 => rfl); (case g5 => rfl)) | ((with_reducible refine wpList_buildSlice_all _ ?b1 22 53 6 #[(0, .tmp 2), (1, .tmp 3), (2, .tmp 5), (3, .tmp 6), (4, .tmp 7), (5, .tmp 8)] ?b2 i0 _ 34 Try.underlying22 HI.out.1 HI.out.2.1 HI.out.2.2.1 ?b6 [n0, n1, n2, n3, n4, n5] ?b7 ?b3 ?b4 ?b5 ?_); (case b1 => rfl); (case b2 => rfl); (case b6 => decide); (case b7 => rfl); (case b3 => rfl); (case b4 => exact L34.out); (case b5 => (show 6 * 34 ≤ 16777216; decide))))
  obtain ⟨W1, hW1⟩ : ∃ W1, W1 = w.alloc (.cells #[.slice (some ⟨w.heap.size + 1 + 1 + 1, 0, none⟩) 6 6] 24) := ⟨_, rfl⟩
  obtain ⟨W2, hW2⟩ : ∃ W2, W2 = W1.alloc (.cells #[.int .i64 1, .int .i64 2, .int .i64 5] 3) := ⟨_, rfl⟩
  obtain ⟨W3, hW3⟩ : ∃ W3, W3 = W2.alloc (.cells #[.int .i64 3, .int .i64 4] 3) := ⟨_, rfl⟩
  obtain ⟨W4, hW4⟩ : ∃ W4, W4 = W3.alloc (.cells (n0 ++ (n1 ++ (n2 ++ (n3 ++ (n4 ++ n5))))).toArray 53) := ⟨_, rfl⟩
  rw [← hW1, ← hW2, ← hW3, ← hW4]
  have z1 : W1.heap.size = w.heap.size + 1 := by rw [hW1]; simp
  have z2 : W2.heap.size = w.heap.size + 1 + 1 := by rw [hW2]; simp [z1]
  have z3 : W3.heap.size = w.heap.size + 1 + 1 + 1 := by rw [hW3]; simp [z2]
  have k1 : W3.heap[w.heap.size + 1]? = some (.cells #[.int .i64 1, .int .i64 2, .int .i64 5] 3 (0, 0)) := by
    rw [hW3, heap_alloc_old _ _ (by omega), hW2, ← z1]; exact heap_alloc_new _ _
  have k2 : W3.heap[w.heap.size + 1 + 1]? = some (.cells #[.int .i64 3, .int .i64 4] 3 (0, 0)) := by
    rw [hW3, ← z2]; exact heap_alloc_new _ _
  have TB := tree_built W3 smT [n0, n1, n2, n3, n4, n5] rfl L34.out smT_ok (by decide) (fun i hi => by
    have : i = 0 ∨ i = 1 ∨ i = 2 ∨ i = 3 ∨ i = 4 ∨ i = 5 := by have := smT_len; omega
    rcases this with rfl | rfl | rfl | rfl | rfl | rfl
    · exact ⟨_, _, H0.out, ints_block (L := [1, 2, 5]) k1 (by decide), its_none _⟩
    · exact ⟨_, _, H1.out, ints_none _, its_none _⟩
    · exact ⟨_, _, H2.out, ints_block (L := [3, 4]) k2 (by decide), its_none _⟩
    · exact ⟨_, _, H3.out, ints_none _, its_none _⟩
    · exact ⟨_, _, H4.out, ints_none _, its_none _⟩
    · exact ⟨_, _, H5.out, ints_none _, its_none _⟩)
  rw [show ([n0, n1, n2, n3, n4, n5] : List (List Value)).flatten = n0 ++ (n1 ++ (n2 ++ (n3 ++ (n4 ++ n5)))) by simp, ← hW4, z3] at TB
  have B4 : Below w.heap.size w W4 := by rw [hW4, hW3, hW2, hW1]; exact below_al (below_al (below_al (below_al (Below.refl _ _) _) _) _) _
  have y1 : W4.cell? ⟨w.heap.size, 0, none⟩ = some (.slice (some ⟨w.heap.size + 1 + 1 + 1, 0, none⟩) 6 6) := by
    have : W4.heap[w.heap.size]? = some (.cells #[.slice (some ⟨w.heap.size + 1 + 1 + 1, 0, none⟩) 6 6] 24 (0, 0)) := by
      rw [hW4, heap_alloc_old _ _ (by omega), hW3, heap_alloc_old _ _ (by omega), hW2, heap_alloc_old _ _ (by omega), hW1]; exact heap_alloc_new _ _
    exact cell_of_one this
  exact bodyPost_ret (v := .agg #[.slice (some ⟨w.heap.size + 1 + 1 + 1, 0, none⟩) 6 6]) (by simp [results, Try.results33, go_sem, y1]) rfl ⟨_, rfl, TB, B4⟩
structure InvW (w0 : World) (nb : Nat) (g : Int) (O : Nat → Prop) (W : World) : Prop where
  be : Below w0.heap.size w0 W
  at_ : W.heap[nb]? = some (.cells #[.int .i64 g] 3 (0, 0))
  zn : w0.heap.size ≤ nb
  own : ∀ b, O b ↔ b = nb
def stepW (g : Int) (_ : Value) : Int × Bool := (g + 5, true)
def takerW (nb : Nat) : Value := .func (.func 44) #[] #[.pointer (some ⟨nb, 0, none⟩)]
theorem works_crowd (w0 : World) (nb : Nat) : Crowd (InvW w0 nb) stepW (fun g tk => tk = takerW nb ∧ 0 ≤ g ∧ g ≤ 100) w0 (evV 0 5 0 0 0 ByteArray.empty) := by
  refine ⟨fun {g O W} h => h.be, fun {g O W W'} h hb => ⟨below_via hb h.be, (hb.block _ (lt_of_block h.at_)).trans h.at_, h.zn, h.own⟩, fun {g O W} h b hb => by rw [(h.own b).1 hb]; exact lt_of_block h.at_, fun {g O W} tk hk h => ?_⟩
  obtain ⟨rfl, hg0, hg1⟩ := hk
  refine ⟨_, _, rfl, fun _ _ => rfl, ?_⟩
  have c0 := cell_of_one h.at_
  have f0 := free_of_one h.at_
  have z0 := lt_of_block h.at_
  have HH := Lib.hid h
  clear h
  unfold evV
  go_enter Try.func44, Try.ntmps44
  go_wp2
  obtain ⟨W1, hW1⟩ : ∃ W1, W1 = W.setCell ⟨nb, 0, none⟩ (.int .i64 (g + 5)) := ⟨_, rfl⟩
  rw [← hW1]
  have HI : InvW w0 nb (g + 5) O W1 := by
    rw [hW1]
    exact ⟨HH.out.be.setCell (p := ⟨nb, 0, none⟩) HH.out.zn _, one_setCell HH.out.at_, HH.out.zn, HH.out.own⟩
  have hz : W1.heap.size = W.heap.size := by rw [hW1]; simp
  have hf : ∀ b, b ≠ nb → W1.heap[b]? = W.heap[b]? := fun b hb => by rw [hW1]; exact blk_setCell_other _ _ _ _ (by simpa using hb)
  go_ret
  refine ⟨rfl, O, ⟨below_al HI.be _, (heap_alloc_old _ _ (by omega)).trans HI.at_, HI.zn, HI.own⟩, by simp; omega, fun b hb hO => (heap_alloc_old _ _ (by omega)).trans (hf b (fun e => hO ((HI.own b).2 e))), fun b hb => .inl hb⟩
end Go.Proofs.Ytihjefncjkdnpaa
