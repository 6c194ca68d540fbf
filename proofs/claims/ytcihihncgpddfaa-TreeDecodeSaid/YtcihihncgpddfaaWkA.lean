/- Trees' bytes: wakes. -/
import Derived.Test.YtcihihncgpddfaaDecC
import Derived.Test.YtcihihncgpddfaaWrE
import Derived.Test.YtcihihncgpddfaaOdB
import Derived.Test.YtcihihncgpddfaaTbl
namespace Go.Proofs.Ytcihihncgpddfaa
open Go.RowKit Go.Deep
set_option linter.unusedVariables false
set_option linter.unusedSimpArgs false

def wkT : List Nd := [ndF 1 ByteArray.empty [] 0]
def wkU : List Nd := [ndF 1 ByteArray.empty [] 0, ndF 99 ByteArray.empty [] 0]
theorem wkT_check : checkT wkT = (0, 0) := by decide +kernel
theorem wkU_check : checkT wkU = (101, 1) := by decide +kernel
theorem wkT_code : (encT wkT).2 = 0 := by decide +kernel
theorem wkT_len : (encT wkT).1.length = 38 := by decide +kernel
theorem wkT_byte : Byte8 (encT wkT).1 := by unfold Byte8; decide +kernel
theorem wkT_ord : (ordL wkT).length = 1 := by decide +kernel
theorem ndF0_ok (k : Int) (h : -128 ≤ k ∧ k ≤ 127) : NdOk (ndF k ByteArray.empty [] 0) := ndF_ok h (by decide) (by decide) (by decide)
theorem wkT_ok : ∀ x ∈ wkT, NdOk x := fun x hx => by simp only [wkT, List.mem_singleton] at hx; rw [hx]; exact ndF0_ok 1 (by decide)
theorem wkU_ok : ∀ x ∈ wkU, NdOk x := fun x hx => by
  simp only [wkU, List.mem_cons, List.not_mem_nil, or_false] at hx
  rcases hx with rfl | rfl
  · exact ndF0_ok 1 (by decide)
  · exact ndF0_ok 99 (by decide)
theorem wkT_dec : decT (encT wkT).1 = (wkT, 0, 0) := (enc_back (T := wkT) (b := (encT wkT).1) (by rw [← wkT_code]) wkT_ok).1
theorem row_bytes {w : World} {base : Nat} {v : Value} {L : List Int} (h : w.ownsRow base 5 1 v L.length (u8L L)) : BytesAt w v L := by
  rcases row_form h with ⟨rfl, h0, _⟩ | ⟨g, c, rfl, hn, hm, hz, _⟩
  · rw [show L = [] from List.eq_nil_of_length_eq_zero h0]
    exact ⟨none, 0, rfl, Nat.le_refl _, by omega, fun h => absurd h (Nat.lt_irrefl _)⟩
  · refine ⟨_, c, rfl, hn, by unfold maxLen at hm; omega, fun h0 => ⟨g, 0, rfl, hz, fun i hi => ?_⟩⟩
    refine row_cells h i _ ?_
    unfold u8L
    rw [List.getElem?_map, List.getD_eq_getElem?_getD, List.getElem?_eq_getElem hi]
    rfl
set_option maxRecDepth 100000 in
set_option maxHeartbeats 16000000 in
theorem wakes_any (w : World) : Calls Try.prog 18 #[] w fun e w' => e = .returned (.bool true) ∧ Below w.heap.size w w' := by
  obtain ⟨i0, hi, hz0, hz1, hz2⟩ := info_parts infoNode_
  have HI := Lib.hid (And.intro hi (And.intro hz0 (And.intro hz1 hz2)))
  clear hi hz0 hz1 hz2
  obtain ⟨n1, hn1⟩ : ∃ l, l = ndV (ndF 1 ByteArray.empty [] 0) (.slice none 0 0) (.slice none 0 0) := ⟨_, rfl⟩
  obtain ⟨n9, hn9⟩ : ∃ l, l = ndV (ndF 99 ByteArray.empty [] 0) (.slice none 0 0) (.slice none 0 0) := ⟨_, rfl⟩
  have BT1 := Lib.hid (show Try.prog.built 64 [(0, .int .i8 1)] = some n1.toArray by rw [hn1]; exact built_0 1)
  have BT9 := Lib.hid (show Try.prog.built 64 [(0, .int .i8 99)] = some n9.toArray by rw [hn9]; exact built_0 99)
  have L1 := Lib.hid (show ∀ a ∈ [n1], a.length = 34 from fun a ha => by
    simp only [List.mem_cons, List.not_mem_nil, or_false] at ha
    rcases ha with rfl
    rw [hn1]; rfl)
  have L2 := Lib.hid (show ∀ a ∈ [n1, n9], a.length = 34 from fun a ha => by
    simp only [List.mem_cons, List.not_mem_nil, or_false] at ha
    rcases ha with rfl | rfl
    · rw [hn1]; rfl
    · rw [hn9]; rfl)
  have HN1 := Lib.hid hn1
  have HN9 := Lib.hid hn9
  clear hn1 hn9
  have TB1 := Lib.hid (tree_built w wkT [n1] rfl L1.out wkT_ok (by decide) (fun i hi => by
    have : i = 0 := by have : wkT.length = 1 := rfl; omega
    subst this
    exact ⟨_, _, HN1.out, ints_none _, its_none _⟩))
  have TB2 := Lib.hid (fun w' => tree_built w' wkU [n1, n9] rfl L2.out wkU_ok (by decide) (fun i hi => by
    have : i = 0 ∨ i = 1 := by have : wkU.length = 2 := rfl; omega
    rcases this with rfl | rfl
    · exact ⟨_, _, HN1.out, ints_none _, its_none _⟩
    · exact ⟨_, _, HN9.out, ints_none _, its_none _⟩))
  go_enter Try.func18, Try.ntmps18
  go_wp2_with (first | ((with_reducible refine wpList_build_node ?e1 #[(0, .const (.int .i8 1))] ?f1 n1 [(0, .int .i8 1)] ?g1 BT1.out ?_); (case e1 => rfl); (case f1 => rfl); (case g1 => rfl)) | ((with_reducible refine wpList_buildSlice_all _ ?b1 22 64 1 #[(0, .tmp 11)] ?b2 i0 _ 34 Try.underlying22 HI.out.1 HI.out.2.1 HI.out.2.2.1 ?b6 [n1] ?b7 ?b3 ?b4 ?b5 ?_); (case b1 => rfl); (case b2 => rfl); (case b6 => decide); (case b7 => rfl); (case b3 => rfl); (case b4 => exact L1.out); (case b5 => (show 1 * 34 ≤ 16777216; decide))))
  obtain ⟨W1, hW1⟩ : ∃ x, x = w.alloc (.cells n1.toArray 64) := ⟨_, rfl⟩
  obtain ⟨W2, hW2⟩ : ∃ x, x = W1.alloc (.cells #[.slice (some ⟨w.heap.size, 0, none⟩) 1 1] 24) := ⟨_, rfl⟩
  have z1 : W1.heap.size = w.heap.size + 1 := by rw [hW1]; simp
  have T1 : TreeAt W1 (.slice (some ⟨w.heap.size, 0, none⟩) 1 1) wkT := by
    have := TB1.out
    rw [show ([n1] : List (List Value)).flatten = n1 by simp, ← hW1] at this
    exact this
  have B1 : Below w.heap.size w W1 := by rw [hW1]; exact below_al (Below.refl _ _) _
  have B2 : Below W1.heap.size W1 W2 := by rw [hW2]; exact below_al (Below.refl _ _) _
  have T2 : TreeAt W2 (.slice (some ⟨w.heap.size, 0, none⟩) 1 1) wkT := T1.later B2
  have k2 : W2.heap[w.heap.size + 1]? = some (.cells #[.slice (some ⟨w.heap.size, 0, none⟩) 1 1] 24 (0, 0)) := by rw [hW2, ← z1]; exact heap_alloc_new _ _
  have BW2 := Lib.hid (below_via B2 B1)
  rw [← hW1, ← hW2]
  obtain ⟨tb, htb⟩ : ∃ x, x = w.heap.size + 1 := ⟨_, rfl⟩
  rw [← htb] at k2
  simp only [← htb]
  have HT2 := Lib.hid T2
  have K2 := Lib.hid k2
  have HC := Lib.hid (tree_Check_any (some ⟨w.heap.size, 0, none⟩) 1 wkT W2 T2)
  rw [wkT_check] at HC
  clear hW1 hW2 z1 T1 B1 B2 T2 k2 htb
  refine HC.out.mono ?_
  clear HC
  rintro e w3 ⟨rfl, hb3⟩
  have BW3 := Lib.hid (below_via hb3 BW2.out)
  have HT3 := Lib.hid (HT2.out.later hb3)
  have K3 := Lib.hid ((hb3.block _ (lt_of_block K2.out)).trans K2.out)
  clear hb3 HT2 K2 BW2
  simp only
  go_wp2_with (first | ((with_reducible refine wpList_build_node ?e1 #[(0, .const (.int .i8 1))] ?f1 n1 [(0, .int .i8 1)] ?g1 BT1.out ?_); (case e1 => rfl); (case f1 => rfl); (case g1 => rfl)) | ((with_reducible refine wpList_build_node ?e9 #[(0, .const (.int .i8 99))] ?f9 n9 [(0, .int .i8 99)] ?g9 BT9.out ?_); (case e9 => rfl); (case f9 => rfl); (case g9 => rfl)) | ((with_reducible refine wpList_buildSlice_all _ ?b1 22 64 2 #[(0, .tmp 20), (1, .tmp 21)] ?b2 i0 _ 34 Try.underlying22 HI.out.1 HI.out.2.1 HI.out.2.2.1 ?b6 [n1, n9] ?b7 ?b3 ?b4 ?b5 ?_); (case b1 => rfl); (case b2 => rfl); (case b6 => decide); (case b7 => rfl); (case b3 => rfl); (case b4 => exact L2.out); (case b5 => (show 2 * 34 ≤ 16777216; decide))))
  obtain ⟨W4, hW4⟩ : ∃ x, x = w3.alloc (.cells (n1 ++ n9).toArray 64) := ⟨_, rfl⟩
  have T4 : TreeAt W4 (.slice (some ⟨w3.heap.size, 0, none⟩) 2 2) wkU := by
    have := TB2.out w3
    rw [show ([n1, n9] : List (List Value)).flatten = n1 ++ n9 by simp, ← hW4] at this
    exact this
  have B4 : Below w3.heap.size w3 W4 := by rw [hW4]; exact below_al (Below.refl _ _) _
  have BW4 := Lib.hid (below_via B4 BW3.out)
  have HT4 := Lib.hid (HT3.out.later B4)
  have K4 := Lib.hid ((B4.block _ (lt_of_block K3.out)).trans K3.out)
  rw [← hW4]
  have HC := Lib.hid (tree_Check_any (some ⟨w3.heap.size, 0, none⟩) 2 wkU W4 T4)
  rw [wkU_check] at HC
  clear hW4 T4 B4 HT3 K3 BW3
  refine HC.out.mono ?_
  clear HC
  rintro e w5 ⟨rfl, hb5⟩
  have BW5 := Lib.hid (below_via hb5 BW4.out)
  have HT5 := Lib.hid (HT4.out.later hb5)
  have K5 := Lib.hid ((hb5.block _ (lt_of_block K4.out)).trans K4.out)
  have c5 := cell_of_one K5.out
  have z5 := lt_of_block K5.out
  have HC := Lib.hid (tree_Encode_any (some ⟨w.heap.size, 0, none⟩) 1 wkT w5 HT5.out)
  clear hb5 HT4 K4 BW4
  simp only
  go_wp2_with fail
  refine HC.out.mono ?_
  clear HC c5 z5
  rintro e w6 ⟨v6, rfl, own6, hb6⟩
  have BW6 := Lib.hid (below_via hb6 BW5.out)
  have HT6 := Lib.hid (HT5.out.later hb6)
  have K6 := Lib.hid ((hb6.block _ (lt_of_block K5.out)).trans K5.out)
  rw [wkT_code]
  have HBY := Lib.hid (row_bytes own6)
  have HC := Lib.hid (tree_Decode_any v6 (encT wkT).1 w6 HBY.out wkT_byte)
  obtain ⟨p6, k6, rfl⟩ := row_sl own6
  rw [wkT_len] at HC ⊢
  clear own6 hb6 HT5 K5 BW5 HBY
  go_wp2_with fail
  refine HC.out.mono ?_
  clear HC
  rintro e w7 ⟨tv, kvs, cvs, rfl, own7, hb7⟩
  have BW7 := Lib.hid (below_via hb7 BW6.out)
  have HT7 := Lib.hid (HT6.out.later hb7)
  have K7 := Lib.hid ((hb7.block _ (lt_of_block K6.out)).trans K6.out)
  rw [wkT_dec] at own7 ⊢
  obtain ⟨p7, k7, rfl, hT7⟩ := own7.tree wkT_ok
  obtain ⟨_, _, p', c', e', _, _, hnd⟩ := hT7
  injection e' with e1 _ e3
  subst e1 e3
  obtain ⟨b7, o7, rfl, hb7', hnd⟩ := hnd (by decide)
  obtain ⟨kv, cv, _, _, hcc⟩ := hnd 0 (by decide)
  have y0 : w7.cell? ⟨b7, o7, none⟩ = some (.int .i8 1) := hcc 0 (by omega)
  have x7 := cell_of_one K7.out
  have zz7 := lt_of_block K7.out
  have HC := Lib.hid (fun w' (hb : Below w7.heap.size w7 w') => tree_Order_any (some ⟨w.heap.size, 0, none⟩) 1 wkT w' (HT7.out.later hb))
  clear hcc hnd own7 hb7 HT6 K6 BW6
  simp only
  go_wp2_with fail
  refine (HC.out _ (below_al (Below.refl _ _) _)).mono ?_
  clear HC
  rintro e w8 ⟨v8, rfl, own8, hb8⟩
  have BW8 := Lib.hid (below_via hb8 (below_al BW7.out _))
  obtain ⟨p8, k8, rfl⟩ := row_sl own8
  rw [wkT_ord]
  clear own8 hb8 HT7 K7 BW7 x7 y0
  go_wp2
  go_ret
  exact ⟨rfl, BW8.out⟩
end Go.Proofs.Ytcihihncgpddfaa
