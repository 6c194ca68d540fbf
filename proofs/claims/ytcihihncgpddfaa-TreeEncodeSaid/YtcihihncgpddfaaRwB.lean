/- Trees' bytes: the reference's node. -/
import Derived.Test.YtcihihncgpddfaaRwA
import Derived.Test.YtcihihncgpddfaaTrrB
namespace Go.Proofs.Ytcihihncgpddfaa
open Go.RowKit Go.Deep
set_option linter.unusedVariables false
set_option linter.unusedSimpArgs false

set_option maxRecDepth 100000 in
set_option maxHeartbeats 16000000 in
theorem ref_node_any (w0 : World) (v : Value) (L : List Int) (x : Nd) (kv cv : Value) (W : World) (h : W.ownsRow w0.heap.size 5 1 v L.length (u8L L)) (hb : Below w0.heap.size w0 W) (hk : IntsAt w0 kv x.kids) (hc : ItsAt w0 cv x.cols) (hx : NdWr x) (hl : L.length ≤ 4294967296) : Calls Try.prog 47 #[v, .agg (ndV x kv cv).toArray] W (PutP w0.heap.size W v (L ++ ndB x)) := by
  obtain ⟨i0, hi, hz0, hz1, hz2⟩ := info_parts infoU8_
  have HI := Lib.hid (And.intro hi (And.intro hz0 (And.intro hz1 hz2)))
  obtain ⟨base, hbase⟩ : ∃ b, b = w0.heap.size := ⟨_, rfl⟩
  have hzb : base ≤ W.heap.size := by rw [hbase]; exact hb.size
  obtain ⟨cs, hcs⟩ : ∃ cs, cs = ndV x kv cv := ⟨_, rfl⟩
  obtain ⟨W1, hW1⟩ : ∃ w, w = W.alloc (.cells cs.toArray 64) := ⟨_, rfl⟩
  have B0 : Below W.heap.size W W1 := by rw [hW1]; exact below_al (Below.refl _ _) _
  have b1 : W1.heap[W.heap.size]? = some (.cells cs.toArray 64 (0, 0)) := by rw [hW1]; exact heap_alloc_new _ _
  rw [← hbase] at h hb ⊢
  have hv0 : v.ownBlock ≠ some W.heap.size := fun e => by have := (row_lt h _ e).1; omega
  have HS0 := Lib.hid (PutS.refl (row_later h B0))
  have zW1 : W.heap.size < W1.heap.size := lt_of_block b1
  have HCL := Lib.hid (fun (L' : List Int) (v' : Value) (w' : World) (hs : PutS base W1 v L' v' w') (j : Nat) (a : Value) (ha : (ndV x kv cv)[j]? = some a) => show w'.cell? ⟨W.heap.size, j, none⟩ = some a by
    rw [cell_of_row _ _ _ _ _ _ ((hs.fr _ zW1 hv0).trans b1), hcs]
    simpa using ha)
  have HCZ := Lib.hid (fun (L' : List Int) (v' : Value) (w' : World) (hs : PutS base W1 v L' v' w') => show W.heap.size < w'.heap.size ∧ base ≤ w'.heap.size by have := hs.sz; exact ⟨by omega, by omega⟩)
  have HKI := Lib.hid (fun (L' : List Int) (v' : Value) (w' : World) (hs : PutS base W1 v L' v' w') => show IntsAt w' kv x.kids ∧ ItsAt w' cv x.cols by
    have hb2 : Below w0.heap.size w0 w' := by rw [← hbase]; exact (hb.trans (B0.mono hzb)).trans hs.be
    exact ⟨hk.later hb2 (Nat.le_refl _), hc.later hb2 (Nat.le_refl _)⟩)
  have HB0 := Lib.hid B0
  have HX := Lib.hid hx
  have hkl := hx.kidl
  have hcl := hx.coll
  obtain ⟨pk, ck, rfl, _⟩ := id hk
  obtain ⟨pc, cc, rfl, _⟩ := id hc
  have hlen : ∀ n, (numB n).length ≤ 11 := fun n => numF_len 10 _
  have htx : ∀ s : ByteArray, (txtB s).length ≤ 11 + s.size := txtB_len
  have hix : ∀ y, (itB y).length ≤ 45 := itB_len
  have hsx : ∀ n, (sgnB n).length ≤ 11 := sgnB_len
  have HW1 := Lib.hid hW1.symm
  rw [← hcs]
  clear hi hz0 hz1 hz2 h hb hk hc hx B0 b1 hcs hW1 hbase
  go_enter Try.func47, Try.ntmps47
  have y0_0 : W1.cell? ⟨W.heap.size, 0, none⟩ = some (.int .i8 x.kind) := HCL.out _ _ _ HS0.out 0 _ rfl
  have hk7 := HX.out.fit.kind
  have hk0 := HX.out.kind
  have zn0 := (HCZ.out _ _ _ HS0.out).1
  have zb0 := (HCZ.out _ _ _ HS0.out).2
  have OWN := Lib.hid (HS0.out.own.alloc (.cells #[.int .u8 x.kind] 5))
  have HON := Lib.hid (show ∀ u ∈ [Value.int .u8 x.kind], u.oneCell' = true from fun u hu => by simp at hu; rcases hu with rfl <;> rfl)
  have h63 : L.length + 1 ≤ maxLen := by unfold maxLen; omega
  have HPU := Lib.hid (fun v' W2 own gr pl => PutS.push (N := [x.kind]) HS0.out.own zb0 (below_al (Below.refl _ _) (.cells #[.int .u8 x.kind] 5)) (W2 := W2) (v' := v') (m := L.length + 1) (xs := u8L L ++ [Value.int .u8 x.kind]) own (by simp) (by rw [u8L_app]; rfl) gr pl)
  go_upto_region 1 with (fail)
  rw [HW1.out]
  go_wp2_with (at_builtin; go_must (refine append_keep rfl (.tmp 9) (.tmp 13) 36 rfl base 5 i0 _ 1 1 Try.underlying36 HI.out.1 HI.out.2.1 HI.out.2.2.1 HI.out.2.2.2 rfl (by decide) _ L.length _ rfl OWN.out ⟨W1.heap.size, 0, none⟩ 1 1 [.int .u8 x.kind] rfl rfl ?n1 HON.out h63 ?n2 ?n3 ?_))
  try case n1 => exact World.news_of_block (cs := #[.int .u8 x.kind]) (t := 5) (fr := (0, 0)) (heap_alloc_new _ _)
  case n2 => omega
  case n3 => first | omega | (simp; omega)
  intro v1 w1 own gr pl
  have HT1 := Lib.hid (HPU.out _ w1 own gr (pl.imp id (fun h => h.1.trans (by simp))))
  obtain ⟨L1, hL1⟩ : ∃ l, l = L ++ [x.kind] := ⟨_, rfl⟩
  rw [← hL1] at HT1
  have hl1 : L1.length ≤ 4294967297 := by rw [hL1, List.length_append]; simp; omega
  have HL1 := Lib.hid hL1
  clear hL1
  have HS1 := Lib.hid (HS0.out.trans HT1.out)
  clear own gr pl OWN HON HPU HT1 h63 y0_0 zn0 zb0 HS0
  have y1_1 : w1.cell? ⟨W.heap.size, 1, none⟩ = some (.string x.id) := HCL.out _ _ _ HS1.out 1 _ rfl
  have zn1 := (HCZ.out _ _ _ HS1.out).1
  have zb1 := (HCZ.out _ _ _ HS1.out).2
  have HC := Lib.hid (ref_text_any base v1 L1 x.id w1 HS1.out.own zb1 (by have := HX.out.id; omega) (by omega))
  go_wp2_with fail
  refine HC.out.mono ?_
  obtain ⟨L2, hL2⟩ : ∃ l, l = L1 ++ txtB x.id := ⟨_, rfl⟩
  rw [← hL2]
  have hl2 : L2.length ≤ 4295037297 := by rw [hL2, List.length_append]; have := htx x.id; have := HX.out.id; omega
  have HL2 := Lib.hid hL2
  clear hL2
  rintro e w2 ⟨v2, rfl, hs⟩
  have HS2 := Lib.hid (HS1.out.trans hs)
  clear hs HC y1_1 zn1 zb1 HS1
  have y2_2 : w2.cell? ⟨W.heap.size, 2, none⟩ = some (.string x.cls) := HCL.out _ _ _ HS2.out 2 _ rfl
  have zn2 := (HCZ.out _ _ _ HS2.out).1
  have zb2 := (HCZ.out _ _ _ HS2.out).2
  have HC := Lib.hid (ref_text_any base v2 L2 x.cls w2 HS2.out.own zb2 (by have := HX.out.cls; omega) (by omega))
  go_wp2_with fail
  refine HC.out.mono ?_
  obtain ⟨L3, hL3⟩ : ∃ l, l = L2 ++ txtB x.cls := ⟨_, rfl⟩
  rw [← hL3]
  have hl3 : L3.length ≤ 4295107297 := by rw [hL3, List.length_append]; have := htx x.cls; have := HX.out.cls; omega
  have HL3 := Lib.hid hL3
  clear hL3
  rintro e w3 ⟨v3, rfl, hs⟩
  have HS3 := Lib.hid (HS2.out.trans hs)
  clear hs HC y2_2 zn2 zb2 HS2
  have y3_22 : w3.cell? ⟨W.heap.size, 22, none⟩ = some (.string x.text) := HCL.out _ _ _ HS3.out 22 _ rfl
  have zn3 := (HCZ.out _ _ _ HS3.out).1
  have zb3 := (HCZ.out _ _ _ HS3.out).2
  have HC := Lib.hid (ref_text_any base v3 L3 x.text w3 HS3.out.own zb3 (by have := HX.out.text; omega) (by omega))
  go_wp2_with fail
  refine HC.out.mono ?_
  obtain ⟨L4, hL4⟩ : ∃ l, l = L3 ++ txtB x.text := ⟨_, rfl⟩
  rw [← hL4]
  have hl4 : L4.length ≤ 4295177297 := by rw [hL4, List.length_append]; have := htx x.text; have := HX.out.text; omega
  have HL4 := Lib.hid hL4
  clear hL4
  rintro e w4 ⟨v4, rfl, hs⟩
  have HS4 := Lib.hid (HS3.out.trans hs)
  clear hs HC y3_22 zn3 zb3 HS3
  have y4_3 : w4.cell? ⟨W.heap.size, 3, none⟩ = some (.slice pk x.kids.length ck) := HCL.out _ _ _ HS4.out 3 _ rfl
  have zn4 := (HCZ.out _ _ _ HS4.out).1
  have zb4 := (HCZ.out _ _ _ HS4.out).2
  have HC := Lib.hid (ref_number_any base v4 L4 x.kids.length w4 HS4.out.own zb4 (by omega) (by omega) (by omega))
  go_wp2_with fail
  refine HC.out.mono ?_
  obtain ⟨L5, hL5⟩ : ∃ l, l = L4 ++ numB x.kids.length := ⟨_, rfl⟩
  rw [← hL5]
  have hl5 : L5.length ≤ 4295177308 := by rw [hL5, List.length_append]; have := hlen x.kids.length; omega
  have HL5 := Lib.hid hL5
  clear hL5
  rintro e w5 ⟨v5, rfl, hs⟩
  have HS5 := Lib.hid (HS4.out.trans hs)
  clear hs HC y4_3 zn4 zb4 HS4
  have HTK := Lib.hid (fun j (h : j < x.kids.length) => kidsB_take h)
  have HM := Lib.hid (fun j (h : j < x.kids.length) => HX.out.fit.kids _ (mem_getD 0 h))
  have hkb : ∀ j, (kidsB (x.kids.take j)).length ≤ 11 * x.kids.length := fun j => Nat.le_trans (kidsB_len _) (Nat.mul_le_mul_left _ (by rw [List.length_take]; omega))
  have HALL := Lib.hid (show kidsB (x.kids.take x.kids.length) = kidsB x.kids by rw [List.take_length])
  go_wp2
  go_loopw [0, 5] (fun bv iv wr => ∃ (j : Nat) (v2 : Value), bv = v2 ∧ iv = .int .i64 j ∧ j ≤ x.kids.length ∧ RowKit.Hid (PutS base W1 v (L5 ++ kidsB (x.kids.take j)) v2 wr)) (fun _ iv _ => x.kids.length - (intOf iv).toNat)
  case atStart => exact ⟨0, v5, rfl, rfl, Nat.zero_le _, Lib.hid (by simpa [kidsB] using HS5.out)⟩
  case round =>
    clear HS5
    obtain ⟨j, vq, hbv, rfl, hj, HS⟩ := hrel
    have hbv2 := hbv.symm
    clear hbv
    subst hbv2
    have yc : wr.cell? ⟨W.heap.size, 3, none⟩ = some (.slice pk x.kids.length ck) := HCL.out _ _ _ HS.out 3 _ rfl
    have zn := (HCZ.out _ _ _ HS.out).1
    have zb := (HCZ.out _ _ _ HS.out).2
    by_cases hlt : j < x.kids.length
    · have hji : (j : Int) < (x.kids.length : Int) := by omega
      have hkc := (HKI.out _ _ _ HS.out).1
      obtain ⟨p', c', e', _, _, _, hkc⟩ := hkc
      injection e' with e1 _ e3
      subst e1 e3
      obtain ⟨bk, ok, e5, hbk, hkc⟩ := hkc (by omega)
      rw [e5] at yc
      clear e5
      have hm := HM.out j hlt
      have hjl := hkb j
      have HT2 := Lib.hid (HTK.out j hlt)
      have ck0 := hkc j hlt
      have HC := Lib.hid (ref_number_any base vq _ (x.kids.getD j 0) wr HS.out.own zb hm.lo hm.hi (by rw [List.length_append]; omega))
      clear hkc hm
      generalize x.kids.getD j 0 = kq at *
      go_wp2_with fail
      refine HC.out.mono ?_
      clear HC
      rintro e w2 ⟨v3, rfl, hs⟩
      rw [List.append_assoc, ← HT2.out] at hs
      have HS2 := Lib.hid (HS.out.trans hs)
      clear hs HS yc
      go_wp2
      go_roundw
      case rel => exact ⟨j + 1, v3, rfl, by go_num, by omega, HS2⟩
      case measure => simp [intOf]; omega
    · obtain rfl : j = x.kids.length := by omega
      rw [HALL.out] at HS
      obtain ⟨L6, hL6⟩ : ∃ l, l = L5 ++ kidsB x.kids := ⟨_, rfl⟩
      rw [← hL6] at HS
      have hl6 : L6.length ≤ 4295222364 := by rw [hL6, List.length_append]; have := hkb x.kids.length; rw [HALL.out] at this; omega
      have HL6 := Lib.hid hL6
      clear hL6
      have HS6 := HS
      clear HS zb
      obtain ⟨v6, hv6⟩ : ∃ q, q = vq := ⟨_, rfl⟩
      rw [← hv6] at HS6 ⊢
      obtain ⟨w6, hw6⟩ : ∃ q, q = wr := ⟨_, rfl⟩
      rw [← hw6] at HS6 yc zn ⊢
      clear hv6 hw6
      have y6_4 : w6.cell? ⟨W.heap.size, 4, none⟩ = some (.int .i8 x.iw.k) := HCL.out _ _ _ HS6.out 4 _ rfl
      have y6_5 : w6.cell? ⟨W.heap.size, 5, none⟩ = some (.int .i64 x.iw.n) := HCL.out _ _ _ HS6.out 5 _ rfl
      have y6_6 : w6.cell? ⟨W.heap.size, 6, none⟩ = some (.int .i64 x.iw.d) := HCL.out _ _ _ HS6.out 6 _ rfl
      have y6_7 : w6.cell? ⟨W.heap.size, 7, none⟩ = some (.int .i64 x.iw.lo) := HCL.out _ _ _ HS6.out 7 _ rfl
      have y6_8 : w6.cell? ⟨W.heap.size, 8, none⟩ = some (.int .i64 x.iw.hi) := HCL.out _ _ _ HS6.out 8 _ rfl
      have zn6 := (HCZ.out _ _ _ HS6.out).1
      have zb6 := (HCZ.out _ _ _ HS6.out).2
      have HC := Lib.hid (ref_item_any base v6 L6 x.iw w6 HS6.out.own zb6 HX.out.fit.iw HX.out.iwk (by omega))
      go_wp2_with fail
      refine HC.out.mono ?_
      obtain ⟨L7, hL7⟩ : ∃ l, l = L6 ++ itB x.iw := ⟨_, rfl⟩
      rw [← hL7]
      have hl7 : L7.length ≤ 4295222409 := by rw [hL7, List.length_append]; have := hix x.iw; omega
      have HL7 := Lib.hid hL7
      clear hL7
      rintro e w7 ⟨v7, rfl, hs⟩
      have HS7 := Lib.hid (HS6.out.trans hs)
      clear hs HC y6_4 y6_5 y6_6 y6_7 y6_8 zn6 zb6 HS6
      have y7_9 : w7.cell? ⟨W.heap.size, 9, none⟩ = some (.int .i8 x.ih.k) := HCL.out _ _ _ HS7.out 9 _ rfl
      have y7_10 : w7.cell? ⟨W.heap.size, 10, none⟩ = some (.int .i64 x.ih.n) := HCL.out _ _ _ HS7.out 10 _ rfl
      have y7_11 : w7.cell? ⟨W.heap.size, 11, none⟩ = some (.int .i64 x.ih.d) := HCL.out _ _ _ HS7.out 11 _ rfl
      have y7_12 : w7.cell? ⟨W.heap.size, 12, none⟩ = some (.int .i64 x.ih.lo) := HCL.out _ _ _ HS7.out 12 _ rfl
      have y7_13 : w7.cell? ⟨W.heap.size, 13, none⟩ = some (.int .i64 x.ih.hi) := HCL.out _ _ _ HS7.out 13 _ rfl
      have zn7 := (HCZ.out _ _ _ HS7.out).1
      have zb7 := (HCZ.out _ _ _ HS7.out).2
      have HC := Lib.hid (ref_item_any base v7 L7 x.ih w7 HS7.out.own zb7 HX.out.fit.ih HX.out.ihk (by omega))
      go_wp2_with fail
      refine HC.out.mono ?_
      obtain ⟨L8, hL8⟩ : ∃ l, l = L7 ++ itB x.ih := ⟨_, rfl⟩
      rw [← hL8]
      have hl8 : L8.length ≤ 4295222454 := by rw [hL8, List.length_append]; have := hix x.ih; omega
      have HL8 := Lib.hid hL8
      clear hL8
      rintro e w8 ⟨v8, rfl, hs⟩
      have HS8 := Lib.hid (HS7.out.trans hs)
      clear hs HC y7_9 y7_10 y7_11 y7_12 y7_13 zn7 zb7 HS7
      have y8_14 : w8.cell? ⟨W.heap.size, 14, none⟩ = some (.int .i64 x.gap) := HCL.out _ _ _ HS8.out 14 _ rfl
      have zn8 := (HCZ.out _ _ _ HS8.out).1
      have zb8 := (HCZ.out _ _ _ HS8.out).2
      have HC := Lib.hid (ref_number_any base v8 L8 x.gap w8 HS8.out.own zb8 HX.out.fit.gap.lo HX.out.fit.gap.hi (by omega))
      go_wp2_with fail
      refine HC.out.mono ?_
      obtain ⟨L9, hL9⟩ : ∃ l, l = L8 ++ numB x.gap := ⟨_, rfl⟩
      rw [← hL9]
      have hl9 : L9.length ≤ 4295222465 := by rw [hL9, List.length_append]; have := hlen x.gap; omega
      have HL9 := Lib.hid hL9
      clear hL9
      rintro e w9 ⟨v9, rfl, hs⟩
      have HS9 := Lib.hid (HS8.out.trans hs)
      clear hs HC y8_14 zn8 zb8 HS8
      go_wp2
      refine wp_loop_rounds 5 ?_
      rw [rounds_succ]
      have y9_15 : w9.cell? ⟨W.heap.size, 15, none⟩ = some (.int .i64 x.p0) := HCL.out _ _ _ HS9.out 15 _ rfl
      have zn9 := (HCZ.out _ _ _ HS9.out).1
      have zb9 := (HCZ.out _ _ _ HS9.out).2
      have HC := Lib.hid (ref_number_any base v9 L9 x.p0 w9 HS9.out.own zb9 HX.out.fit.p0.lo HX.out.fit.p0.hi (by omega))
      go_wp2_with fail
      refine HC.out.mono ?_
      obtain ⟨L10, hL10⟩ : ∃ l, l = L9 ++ numB x.p0 := ⟨_, rfl⟩
      rw [← hL10]
      have hl10 : L10.length ≤ 4295222476 := by rw [hL10, List.length_append]; have := hlen x.p0; omega
      have HL10 := Lib.hid hL10
      clear hL10
      rintro e w10 ⟨v10, rfl, hs⟩
      have HS10 := Lib.hid (HS9.out.trans hs)
      clear hs HC y9_15 zn9 zb9 HS9
      go_wp2
      rw [rounds_succ]
      have y10_16 : w10.cell? ⟨W.heap.size, 16, none⟩ = some (.int .i64 x.p1) := HCL.out _ _ _ HS10.out 16 _ rfl
      have zn10 := (HCZ.out _ _ _ HS10.out).1
      have zb10 := (HCZ.out _ _ _ HS10.out).2
      have HC := Lib.hid (ref_number_any base v10 L10 x.p1 w10 HS10.out.own zb10 HX.out.fit.p1.lo HX.out.fit.p1.hi (by omega))
      go_wp2_with fail
      refine HC.out.mono ?_
      obtain ⟨L11, hL11⟩ : ∃ l, l = L10 ++ numB x.p1 := ⟨_, rfl⟩
      rw [← hL11]
      have hl11 : L11.length ≤ 4295222487 := by rw [hL11, List.length_append]; have := hlen x.p1; omega
      have HL11 := Lib.hid hL11
      clear hL11
      rintro e w11 ⟨v11, rfl, hs⟩
      have HS11 := Lib.hid (HS10.out.trans hs)
      clear hs HC y10_16 zn10 zb10 HS10
      go_wp2
      rw [rounds_succ]
      have y11_17 : w11.cell? ⟨W.heap.size, 17, none⟩ = some (.int .i64 x.p2) := HCL.out _ _ _ HS11.out 17 _ rfl
      have zn11 := (HCZ.out _ _ _ HS11.out).1
      have zb11 := (HCZ.out _ _ _ HS11.out).2
      have HC := Lib.hid (ref_number_any base v11 L11 x.p2 w11 HS11.out.own zb11 HX.out.fit.p2.lo HX.out.fit.p2.hi (by omega))
      go_wp2_with fail
      refine HC.out.mono ?_
      obtain ⟨L12, hL12⟩ : ∃ l, l = L11 ++ numB x.p2 := ⟨_, rfl⟩
      rw [← hL12]
      have hl12 : L12.length ≤ 4295222498 := by rw [hL12, List.length_append]; have := hlen x.p2; omega
      have HL12 := Lib.hid hL12
      clear hL12
      rintro e w12 ⟨v12, rfl, hs⟩
      have HS12 := Lib.hid (HS11.out.trans hs)
      clear hs HC y11_17 zn11 zb11 HS11
      go_wp2
      rw [rounds_succ]
      have y12_18 : w12.cell? ⟨W.heap.size, 18, none⟩ = some (.int .i64 x.p3) := HCL.out _ _ _ HS12.out 18 _ rfl
      have zn12 := (HCZ.out _ _ _ HS12.out).1
      have zb12 := (HCZ.out _ _ _ HS12.out).2
      have HC := Lib.hid (ref_number_any base v12 L12 x.p3 w12 HS12.out.own zb12 HX.out.fit.p3.lo HX.out.fit.p3.hi (by omega))
      go_wp2_with fail
      refine HC.out.mono ?_
      obtain ⟨L13, hL13⟩ : ∃ l, l = L12 ++ numB x.p3 := ⟨_, rfl⟩
      rw [← hL13]
      have hl13 : L13.length ≤ 4295222509 := by rw [hL13, List.length_append]; have := hlen x.p3; omega
      have HL13 := Lib.hid hL13
      clear hL13
      rintro e w13 ⟨v13, rfl, hs⟩
      have HS13 := Lib.hid (HS12.out.trans hs)
      clear hs HC y12_18 zn12 zb12 HS12
      go_wp2
      rw [rounds_succ]
      have hb5 := HX.out.fit.b
      have hb0 := HX.out.bd
      have hb1 := HX.out.al
      have hb2 := HX.out.cr
      have hb3 := HX.out.wr
      have hb4 := HX.out.fl
      obtain ⟨hb5a, hb5b, hb5c, hb5d, hb5e⟩ := hb5
      have y13_19 : w13.cell? ⟨W.heap.size, 19, none⟩ = some (.int .i8 x.border) := HCL.out _ _ _ HS13.out 19 _ rfl
      have y13_20 : w13.cell? ⟨W.heap.size, 20, none⟩ = some (.int .i8 x.align) := HCL.out _ _ _ HS13.out 20 _ rfl
      have y13_21 : w13.cell? ⟨W.heap.size, 21, none⟩ = some (.int .i8 x.cross) := HCL.out _ _ _ HS13.out 21 _ rfl
      have y13_23 : w13.cell? ⟨W.heap.size, 23, none⟩ = some (.int .i8 x.wrap) := HCL.out _ _ _ HS13.out 23 _ rfl
      have y13_33 : w13.cell? ⟨W.heap.size, 33, none⟩ = some (.int .u8 x.flags) := HCL.out _ _ _ HS13.out 33 _ rfl
      have zn13 := (HCZ.out _ _ _ HS13.out).1
      have zb13 := (HCZ.out _ _ _ HS13.out).2
      have OWN := Lib.hid (HS13.out.own.alloc (.cells #[.int .u8 x.border, .int .u8 x.align, .int .u8 x.cross, .int .u8 x.wrap, .int .u8 x.flags] 5))
      have HON := Lib.hid (show ∀ u ∈ [Value.int .u8 x.border, Value.int .u8 x.align, Value.int .u8 x.cross, Value.int .u8 x.wrap, Value.int .u8 x.flags], u.oneCell' = true from fun u hu => by simp at hu; rcases hu with rfl | rfl | rfl | rfl | rfl <;> rfl)
      have h63 : L13.length + 5 ≤ maxLen := by unfold maxLen; omega
      have HPU := Lib.hid (fun v' W2 own gr pl => PutS.push (N := [x.border, x.align, x.cross, x.wrap, x.flags]) HS13.out.own zb13 (below_al (Below.refl _ _) (.cells #[.int .u8 x.border, .int .u8 x.align, .int .u8 x.cross, .int .u8 x.wrap, .int .u8 x.flags] 5)) (W2 := W2) (v' := v') (m := L13.length + 5) (xs := u8L L13 ++ [Value.int .u8 x.border, Value.int .u8 x.align, Value.int .u8 x.cross, Value.int .u8 x.wrap, Value.int .u8 x.flags]) own (by simp) (by rw [u8L_app]; rfl) gr pl)
      go_wp2_with (at_builtin; go_must (refine append_keep rfl (.tmp 68) (.tmp 83) 36 rfl base 5 i0 _ 1 1 Try.underlying36 HI.out.1 HI.out.2.1 HI.out.2.2.1 HI.out.2.2.2 rfl (by decide) _ L13.length _ rfl OWN.out ⟨w13.heap.size, 0, none⟩ 5 5 [.int .u8 x.border, .int .u8 x.align, .int .u8 x.cross, .int .u8 x.wrap, .int .u8 x.flags] rfl rfl ?n1 HON.out h63 ?n2 ?n3 ?_))
      try case n1 => exact World.news_of_block (cs := #[.int .u8 x.border, .int .u8 x.align, .int .u8 x.cross, .int .u8 x.wrap, .int .u8 x.flags]) (t := 5) (fr := (0, 0)) (heap_alloc_new _ _)
      case n2 => omega
      case n3 => first | omega | (simp; omega)
      intro v14 w14 own gr pl
      have HT14 := Lib.hid (HPU.out _ w14 own gr (pl.imp id (fun h => h.1.trans (by simp))))
      obtain ⟨L14, hL14⟩ : ∃ l, l = L13 ++ [x.border, x.align, x.cross, x.wrap, x.flags] := ⟨_, rfl⟩
      rw [← hL14] at HT14
      have hl14 : L14.length ≤ 4295222514 := by rw [hL14, List.length_append]; simp; omega
      have HL14 := Lib.hid hL14
      clear hL14
      have HS14 := Lib.hid (HS13.out.trans HT14.out)
      clear own gr pl OWN HON HPU HT14 h63 y13_19 y13_20 y13_21 y13_23 y13_33 zn13 zb13 HS13
      have q0 : wrap64 x.fg = x.fg := IntWalk.wrap64_in _ ⟨by have := HX.out.fit.fg.lo; omega, HX.out.fit.fg.hi⟩
      have q1 : wrap64 x.bg = x.bg := IntWalk.wrap64_in _ ⟨by have := HX.out.fit.bg.lo; omega, HX.out.fit.bg.hi⟩
      have y14_24 : w14.cell? ⟨W.heap.size, 24, none⟩ = some (.int .i32 x.fg) := HCL.out _ _ _ HS14.out 24 _ rfl
      have zn14 := (HCZ.out _ _ _ HS14.out).1
      have zb14 := (HCZ.out _ _ _ HS14.out).2
      have HC := Lib.hid (ref_number_any base v14 L14 x.fg w14 HS14.out.own zb14 HX.out.fit.fg.lo HX.out.fit.fg.hi (by omega))
      go_wp2_with fail
      refine HC.out.mono ?_
      obtain ⟨L15, hL15⟩ : ∃ l, l = L14 ++ numB x.fg := ⟨_, rfl⟩
      rw [← hL15]
      have hl15 : L15.length ≤ 4295222525 := by rw [hL15, List.length_append]; have := hlen x.fg; omega
      have HL15 := Lib.hid hL15
      clear hL15
      rintro e w15 ⟨v15, rfl, hs⟩
      have HS15 := Lib.hid (HS14.out.trans hs)
      clear hs HC y14_24 zn14 zb14 HS14
      have y15_25 : w15.cell? ⟨W.heap.size, 25, none⟩ = some (.int .i32 x.bg) := HCL.out _ _ _ HS15.out 25 _ rfl
      have zn15 := (HCZ.out _ _ _ HS15.out).1
      have zb15 := (HCZ.out _ _ _ HS15.out).2
      have HC := Lib.hid (ref_number_any base v15 L15 x.bg w15 HS15.out.own zb15 HX.out.fit.bg.lo HX.out.fit.bg.hi (by omega))
      go_wp2_with fail
      refine HC.out.mono ?_
      obtain ⟨L16, hL16⟩ : ∃ l, l = L15 ++ numB x.bg := ⟨_, rfl⟩
      rw [← hL16]
      have hl16 : L16.length ≤ 4295222536 := by rw [hL16, List.length_append]; have := hlen x.bg; omega
      have HL16 := Lib.hid hL16
      clear hL16
      rintro e w16 ⟨v16, rfl, hs⟩
      have HS16 := Lib.hid (HS15.out.trans hs)
      clear hs HC y15_25 zn15 zb15 HS15
      have y16_26 : w16.cell? ⟨W.heap.size, 26, none⟩ = some (.int .u8 x.add) := HCL.out _ _ _ HS16.out 26 _ rfl
      have y16_27 : w16.cell? ⟨W.heap.size, 27, none⟩ = some (.int .u8 x.drop) := HCL.out _ _ _ HS16.out 27 _ rfl
      have zn16 := (HCZ.out _ _ _ HS16.out).1
      have zb16 := (HCZ.out _ _ _ HS16.out).2
      have OWN := Lib.hid (HS16.out.own.alloc (.cells #[.int .u8 x.add, .int .u8 x.drop] 5))
      have HON := Lib.hid (show ∀ u ∈ [Value.int .u8 x.add, Value.int .u8 x.drop], u.oneCell' = true from fun u hu => by simp at hu; rcases hu with rfl | rfl <;> rfl)
      have h63 : L16.length + 2 ≤ maxLen := by unfold maxLen; omega
      have HPU := Lib.hid (fun v' W2 own gr pl => PutS.push (N := [x.add, x.drop]) HS16.out.own zb16 (below_al (Below.refl _ _) (.cells #[.int .u8 x.add, .int .u8 x.drop] 5)) (W2 := W2) (v' := v') (m := L16.length + 2) (xs := u8L L16 ++ [Value.int .u8 x.add, Value.int .u8 x.drop]) own (by simp) (by rw [u8L_app]; rfl) gr pl)
      go_wp2_with (at_builtin; go_must (refine append_keep rfl (.tmp 97) (.tmp 104) 36 rfl base 5 i0 _ 1 1 Try.underlying36 HI.out.1 HI.out.2.1 HI.out.2.2.1 HI.out.2.2.2 rfl (by decide) _ L16.length _ rfl OWN.out ⟨w16.heap.size, 0, none⟩ 2 2 [.int .u8 x.add, .int .u8 x.drop] rfl rfl ?n1 HON.out h63 ?n2 ?n3 ?_))
      try case n1 => exact World.news_of_block (cs := #[.int .u8 x.add, .int .u8 x.drop]) (t := 5) (fr := (0, 0)) (heap_alloc_new _ _)
      case n2 => omega
      case n3 => first | omega | (simp; omega)
      intro v17 w17 own gr pl
      have HT17 := Lib.hid (HPU.out _ w17 own gr (pl.imp id (fun h => h.1.trans (by simp))))
      obtain ⟨L17, hL17⟩ : ∃ l, l = L16 ++ [x.add, x.drop] := ⟨_, rfl⟩
      rw [← hL17] at HT17
      have hl17 : L17.length ≤ 4295222538 := by rw [hL17, List.length_append]; simp; omega
      have HL17 := Lib.hid hL17
      clear hL17
      have HS17 := Lib.hid (HS16.out.trans HT17.out)
      clear own gr pl OWN HON HPU HT17 h63 y16_26 y16_27 zn16 zb16 HS16
      have y17_28 : w17.cell? ⟨W.heap.size, 28, none⟩ = some (.slice pc x.cols.length cc) := HCL.out _ _ _ HS17.out 28 _ rfl
      have zn17 := (HCZ.out _ _ _ HS17.out).1
      have zb17 := (HCZ.out _ _ _ HS17.out).2
      have HC := Lib.hid (ref_number_any base v17 L17 x.cols.length w17 HS17.out.own zb17 (by omega) (by omega) (by omega))
      go_wp2_with fail
      refine HC.out.mono ?_
      obtain ⟨L18, hL18⟩ : ∃ l, l = L17 ++ numB x.cols.length := ⟨_, rfl⟩
      rw [← hL18]
      have hl18 : L18.length ≤ 4295222549 := by rw [hL18, List.length_append]; have := hlen x.cols.length; omega
      have HL18 := Lib.hid hL18
      clear hL18
      rintro e w18 ⟨v18, rfl, hs⟩
      have HS18 := Lib.hid (HS17.out.trans hs)
      clear hs HC y17_28 zn17 zb17 HS17
      have HTK := Lib.hid (fun j (h : j < x.cols.length) => itsB_take h)
      have HM := Lib.hid (fun j (h : j < x.cols.length) => And.intro (HX.out.fit.cols _ (mem_getD zIt h)) (HX.out.colk _ (mem_getD zIt h)))
      have hkb : ∀ j, (itsB (x.cols.take j)).length ≤ 45 * x.cols.length := fun j => Nat.le_trans (itsB_len _) (Nat.mul_le_mul_left _ (by rw [List.length_take]; omega))
      have HALL := Lib.hid (show itsB (x.cols.take x.cols.length) = itsB x.cols by rw [List.take_length])
      go_wp2
      go_loopw [0, 7] (fun bv iv wr => ∃ (j : Nat) (v2 : Value), bv = v2 ∧ iv = .int .i64 j ∧ j ≤ x.cols.length ∧ RowKit.Hid (PutS base W1 v (L18 ++ itsB (x.cols.take j)) v2 wr)) (fun _ iv _ => x.cols.length - (intOf iv).toNat)
      case atStart => exact ⟨0, v18, rfl, rfl, Nat.zero_le _, Lib.hid (by simpa [itsB] using HS18.out)⟩
      case round =>
        clear HS18
        obtain ⟨j, vq, hbv, rfl, hj, HS⟩ := hrel
        have hbv2 := hbv.symm
        clear hbv
        subst hbv2
        have yc : wr.cell? ⟨W.heap.size, 28, none⟩ = some (.slice pc x.cols.length cc) := HCL.out _ _ _ HS.out 28 _ rfl
        have zn := (HCZ.out _ _ _ HS.out).1
        have zb := (HCZ.out _ _ _ HS.out).2
        by_cases hlt : j < x.cols.length
        · have hji : (j : Int) < (x.cols.length : Int) := by omega
          have hkc := (HKI.out _ _ _ HS.out).2
          obtain ⟨p', c', e', _, _, _, hkc⟩ := hkc
          injection e' with e1 _ e3
          subst e1 e3
          obtain ⟨bk, ok, e5, hbk, hkc⟩ := hkc (by omega)
          rw [e5] at yc
          clear e5
          have hm := HM.out j hlt
          have hjl := hkb j
          have HT2 := Lib.hid (HTK.out j hlt)
          have i0 : wr.cell? ⟨bk, ok + j * 5, none⟩ = some (.int .i8 (x.cols.getD j zIt).k) := hkc j hlt 0 (by omega)
          have i1 : wr.cell? ⟨bk, ok + j * 5 + 1, none⟩ = some (.int .i64 (x.cols.getD j zIt).n) := hkc j hlt 1 (by omega)
          have i2 : wr.cell? ⟨bk, ok + j * 5 + 2, none⟩ = some (.int .i64 (x.cols.getD j zIt).d) := hkc j hlt 2 (by omega)
          have i3 : wr.cell? ⟨bk, ok + j * 5 + 3, none⟩ = some (.int .i64 (x.cols.getD j zIt).lo) := hkc j hlt 3 (by omega)
          have i4 : wr.cell? ⟨bk, ok + j * 5 + 4, none⟩ = some (.int .i64 (x.cols.getD j zIt).hi) := hkc j hlt 4 (by omega)
          have HC := Lib.hid (ref_item_any base vq _ (x.cols.getD j zIt) wr HS.out.own zb hm.1 hm.2 (by rw [List.length_append]; omega))
          clear hkc hm
          generalize x.cols.getD j zIt = kq at *
          go_wp2_with fail
          refine HC.out.mono ?_
          clear HC
          rintro e w2 ⟨v3, rfl, hs⟩
          rw [List.append_assoc, ← HT2.out] at hs
          have HS2 := Lib.hid (HS.out.trans hs)
          clear hs HS yc
          go_wp2
          go_roundw
          case rel => exact ⟨j + 1, v3, rfl, by go_num, by omega, HS2⟩
          case measure => simp [intOf]; omega
        · obtain rfl : j = x.cols.length := by omega
          rw [HALL.out] at HS
          obtain ⟨L19, hL19⟩ : ∃ l, l = L18 ++ itsB x.cols := ⟨_, rfl⟩
          rw [← hL19] at HS
          have hl19 : L19.length ≤ 4295406869 := by rw [hL19, List.length_append]; have := hkb x.cols.length; rw [HALL.out] at this; omega
          have HL19 := Lib.hid hL19
          clear hL19
          have HS19 := HS
          clear HS zb
          obtain ⟨v19, hv19⟩ : ∃ q, q = vq := ⟨_, rfl⟩
          rw [← hv19] at HS19 ⊢
          obtain ⟨w19, hw19⟩ : ∃ q, q = wr := ⟨_, rfl⟩
          rw [← hw19] at HS19 yc zn ⊢
          clear hv19 hw19
          go_wp2
          refine wp_loop_rounds 5 ?_
          rw [rounds_succ]
          have y19_29 : w19.cell? ⟨W.heap.size, 29, none⟩ = some (.int .i64 x.x0) := HCL.out _ _ _ HS19.out 29 _ rfl
          have zn19 := (HCZ.out _ _ _ HS19.out).1
          have zb19 := (HCZ.out _ _ _ HS19.out).2
          have HC := Lib.hid (ref_signed_any base v19 L19 x.x0 w19 HS19.out.own zb19 HX.out.fit.pl.1.1 HX.out.fit.pl.1.2 (by omega))
          go_wp2_with fail
          refine HC.out.mono ?_
          obtain ⟨L20, hL20⟩ : ∃ l, l = L19 ++ sgnB x.x0 := ⟨_, rfl⟩
          rw [← hL20]
          have hl20 : L20.length ≤ 4295406880 := by rw [hL20, List.length_append]; have := hsx x.x0; omega
          have HL20 := Lib.hid hL20
          clear hL20
          rintro e w20 ⟨v20, rfl, hs⟩
          have HS20 := Lib.hid (HS19.out.trans hs)
          clear hs HC y19_29 zn19 zb19 HS19
          go_wp2
          rw [rounds_succ]
          have y20_30 : w20.cell? ⟨W.heap.size, 30, none⟩ = some (.int .i64 x.x1) := HCL.out _ _ _ HS20.out 30 _ rfl
          have zn20 := (HCZ.out _ _ _ HS20.out).1
          have zb20 := (HCZ.out _ _ _ HS20.out).2
          have HC := Lib.hid (ref_signed_any base v20 L20 x.x1 w20 HS20.out.own zb20 HX.out.fit.pl.2.1.1 HX.out.fit.pl.2.1.2 (by omega))
          go_wp2_with fail
          refine HC.out.mono ?_
          obtain ⟨L21, hL21⟩ : ∃ l, l = L20 ++ sgnB x.x1 := ⟨_, rfl⟩
          rw [← hL21]
          have hl21 : L21.length ≤ 4295406891 := by rw [hL21, List.length_append]; have := hsx x.x1; omega
          have HL21 := Lib.hid hL21
          clear hL21
          rintro e w21 ⟨v21, rfl, hs⟩
          have HS21 := Lib.hid (HS20.out.trans hs)
          clear hs HC y20_30 zn20 zb20 HS20
          go_wp2
          rw [rounds_succ]
          have y21_31 : w21.cell? ⟨W.heap.size, 31, none⟩ = some (.int .i64 x.x2) := HCL.out _ _ _ HS21.out 31 _ rfl
          have zn21 := (HCZ.out _ _ _ HS21.out).1
          have zb21 := (HCZ.out _ _ _ HS21.out).2
          have HC := Lib.hid (ref_signed_any base v21 L21 x.x2 w21 HS21.out.own zb21 HX.out.fit.pl.2.2.1.1 HX.out.fit.pl.2.2.1.2 (by omega))
          go_wp2_with fail
          refine HC.out.mono ?_
          obtain ⟨L22, hL22⟩ : ∃ l, l = L21 ++ sgnB x.x2 := ⟨_, rfl⟩
          rw [← hL22]
          have hl22 : L22.length ≤ 4295406902 := by rw [hL22, List.length_append]; have := hsx x.x2; omega
          have HL22 := Lib.hid hL22
          clear hL22
          rintro e w22 ⟨v22, rfl, hs⟩
          have HS22 := Lib.hid (HS21.out.trans hs)
          clear hs HC y21_31 zn21 zb21 HS21
          go_wp2
          rw [rounds_succ]
          have y22_32 : w22.cell? ⟨W.heap.size, 32, none⟩ = some (.int .i64 x.x3) := HCL.out _ _ _ HS22.out 32 _ rfl
          have zn22 := (HCZ.out _ _ _ HS22.out).1
          have zb22 := (HCZ.out _ _ _ HS22.out).2
          have HC := Lib.hid (ref_signed_any base v22 L22 x.x3 w22 HS22.out.own zb22 HX.out.fit.pl.2.2.2.1 HX.out.fit.pl.2.2.2.2 (by omega))
          go_wp2_with fail
          refine HC.out.mono ?_
          obtain ⟨L23, hL23⟩ : ∃ l, l = L22 ++ sgnB x.x3 := ⟨_, rfl⟩
          rw [← hL23]
          have hl23 : L23.length ≤ 4295406913 := by rw [hL23, List.length_append]; have := hsx x.x3; omega
          have HL23 := Lib.hid hL23
          clear hL23
          rintro e w23 ⟨v23, rfl, hs⟩
          have HS23 := Lib.hid (HS22.out.trans hs)
          clear hs HC y22_32 zn22 zb22 HS22
          go_wp2
          rw [rounds_succ]
          have E : L ++ ndB x = L23 := by rw [HL23.out, HL22.out, HL21.out, HL20.out, HL19.out, HL18.out, HL17.out, HL16.out, HL15.out, HL14.out, HL13.out, HL12.out, HL11.out, HL10.out, HL9.out, HL8.out, HL7.out, HL6.out, HL5.out, HL4.out, HL3.out, HL2.out, HL1.out]; simp [ndB, partsTo, partB, txtB]
          go_wp2
          refine bodyPost_ret (v := v23) (by simp [results, Try.results47, go_sem]) rfl ?_
          rw [E]
          exact put_mk (HS23.out.from HB0.out hzb)
end Go.Proofs.Ytcihihncgpddfaa
