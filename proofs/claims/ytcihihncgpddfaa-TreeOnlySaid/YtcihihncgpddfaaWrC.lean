/- Trees' bytes: the writer's closures with an append in a region that draws its order; parts. -/
import Derived.Test.YtcihihncgpddfaaWrB
import Derived.Deep.AppendLies
import Derived.Test.YtcihihncgpddfaaAnyZ
namespace Go.Proofs.Ytcihihncgpddfaa
open Go.RowKit Go.Deep
set_option linter.unusedVariables false
set_option linter.unusedSimpArgs false

theorem WrAt.apart {base : Nat} {W W1 W2 : World} {wb : Nat} {v : Value} {L : List Int} (h : WrAt base W wb v L) (B1 : Below W.heap.size W W1) (gr : W1.grownBy W2 v.ownBlock) {b k : Nat} (hb : b < base) : W2.cell? ⟨b, k, none⟩ = W.cell? ⟨b, k, none⟩ := by
  have z1 := B1.size
  have zw := h.lt
  have zb := h.zb
  rw [gr.cell_far ⟨b, k, none⟩ (by simp only; omega) (fun e => by have := (row_lt h.own b e.symm).2; omega)]
  exact (bcell B1).1 _ _ (by omega)
theorem ownsRow_drew {w : World} {base : Nat} {t : TypeId} {k : Nat} {v : Value} {n : Nat} {xs : List Value} (h : w.ownsRow base t k v n xs) : w.drew.ownsRow base t k v n xs := h
set_option maxRecDepth 100000 in
set_option maxHeartbeats 8000000 in
theorem put9 (w0 : World) (wb : Nat) (v : Value) (L : List Int) (b o : Nat) (x : Nd) (W : World) (h : WrAt w0.heap.size W wb v L) (hN : Src1 w0 b o x W) (hx : NdWr x) (hl : L.length ≤ 4294967296) : Calls Try.prog 96 #[.pointer (some ⟨wb, 0, none⟩), .pointer (some ⟨b, o, none⟩)] W (WrPost w0.heap.size W wb v (L ++ partB x 9)) := by
  obtain ⟨kv, cv, hkv, hcv, hc⟩ := hN.now
  have zb := hN.ltW
  have c19 : W.cell? ⟨b, o + 19, none⟩ = some (.int .i8 x.border) := hc 19 (by omega)
  have c20 : W.cell? ⟨b, o + 20, none⟩ = some (.int .i8 x.align) := hc 20 (by omega)
  have c21 : W.cell? ⟨b, o + 21, none⟩ = some (.int .i8 x.cross) := hc 21 (by omega)
  have c23 : W.cell? ⟨b, o + 23, none⟩ = some (.int .i8 x.wrap) := hc 23 (by omega)
  have c33 : W.cell? ⟨b, o + 33, none⟩ = some (.int .u8 x.flags) := hc 33 (by omega)
  obtain ⟨i0, hi, hz0, hz1, hz2⟩ := info_parts infoU8_
  have HI := Lib.hid (And.intro hi (And.intro hz0 (And.intro hz1 hz2)))
  have HW := Lib.hid h
  have HX := Lib.hid hx
  have HN0 := Lib.hid hN
  have zb0 := hN.lt
  clear h hx hN hkv hcv hc hi hz0 hz1 hz2
  go_enter Try.func96, Try.ntmps96
  have HC0 := Lib.hid (octet_any w0.heap.size wb v L x.border W HW.out HX.out.bd HX.out.fit.b.1 (by omega))
  go_wp2_with fail
  refine HC0.out.mono ?_
  clear HC0
  obtain ⟨L1, hL1⟩ : ∃ l, l = L ++ [x.border] := ⟨_, rfl⟩
  rw [← hL1]
  have hl1 : L1.length ≤ 4294967296 + 1 := by rw [hL1, List.length_append]; simp; omega
  have HL1 := Lib.hid hL1
  clear hL1
  rintro e w1 ⟨rfl, v1, hs⟩
  have HS1 := Lib.hid hs
  clear hs
  have B1 := HS1.out.be
  have y1 : b < w1.heap.size := Nat.lt_of_lt_of_le zb HS1.out.sz
  have d20 : w1.cell? ⟨b, o + 20, none⟩ = some (.int .i8 x.align) := by rw [(bcell B1).1 _ _ zb0]; exact c20
  have HC1 := Lib.hid (octet_any w0.heap.size wb v1 L1 x.align w1 HS1.out.at_ HX.out.al HX.out.fit.b.2.1 (by omega))
  go_wp2_with fail
  refine HC1.out.mono ?_
  clear HC1
  obtain ⟨L2, hL2⟩ : ∃ l, l = L1 ++ [x.align] := ⟨_, rfl⟩
  rw [← hL2]
  have hl2 : L2.length ≤ 4294967296 + 2 := by rw [hL2, List.length_append]; simp; omega
  have HL2 := Lib.hid hL2
  clear hL2
  rintro e w2 ⟨rfl, v2, hs⟩
  have HS2 := Lib.hid (HS1.out.trans hs)
  clear hs
  have B2 := HS2.out.be
  have y2 : b < w2.heap.size := Nat.lt_of_lt_of_le zb HS2.out.sz
  have d21 : w2.cell? ⟨b, o + 21, none⟩ = some (.int .i8 x.cross) := by rw [(bcell B2).1 _ _ zb0]; exact c21
  have HC2 := Lib.hid (octet_any w0.heap.size wb v2 L2 x.cross w2 HS2.out.at_ HX.out.cr HX.out.fit.b.2.2.1 (by omega))
  go_wp2_with fail
  refine HC2.out.mono ?_
  clear HC2
  obtain ⟨L3, hL3⟩ : ∃ l, l = L2 ++ [x.cross] := ⟨_, rfl⟩
  rw [← hL3]
  have hl3 : L3.length ≤ 4294967296 + 3 := by rw [hL3, List.length_append]; simp; omega
  have HL3 := Lib.hid hL3
  clear hL3
  rintro e w3 ⟨rfl, v3, hs⟩
  have HS3 := Lib.hid (HS2.out.trans hs)
  clear hs
  have B3 := HS3.out.be
  have y3 : b < w3.heap.size := Nat.lt_of_lt_of_le zb HS3.out.sz
  have d23 : w3.cell? ⟨b, o + 23, none⟩ = some (.int .i8 x.wrap) := by rw [(bcell B3).1 _ _ zb0]; exact c23
  have HC3 := Lib.hid (octet_any w0.heap.size wb v3 L3 x.wrap w3 HS3.out.at_ HX.out.wr HX.out.fit.b.2.2.2.1 (by omega))
  go_wp2_with fail
  refine HC3.out.mono ?_
  clear HC3
  obtain ⟨L4, hL4⟩ : ∃ l, l = L3 ++ [x.wrap] := ⟨_, rfl⟩
  rw [← hL4]
  have hl4 : L4.length ≤ 4294967296 + 4 := by rw [hL4, List.length_append]; simp; omega
  have HL4 := Lib.hid hL4
  clear hL4
  rintro e w4 ⟨rfl, v4, hs⟩
  have HS4 := Lib.hid (HS3.out.trans hs)
  clear hs
  have B4 := HS4.out.be
  have y4 : b < w4.heap.size := Nat.lt_of_lt_of_le zb HS4.out.sz
  have d33 : w4.cell? ⟨b, o + 33, none⟩ = some (.int .u8 x.flags) := by rw [(bcell B4).1 _ _ zb0]; exact c33
  have f0 : w4.frozen? ⟨wb, 0, none⟩ = false := by unfold World.frozen?; rw [HS4.out.at_.blk]; simp
  have x0 := cell_of_one HS4.out.at_.blk
  have zw := HS4.out.at_.lt
  have hzb : w0.heap.size ≤ w4.heap.size := by have := HS4.out.at_.zb; omega
  have OWN := Lib.hid ((ownsRow_drew HS4.out.at_.own).alloc (.cells #[.int .u8 x.flags] 5))
  have HON := Lib.hid (show ∀ u ∈ [Value.int .u8 x.flags], u.oneCell' = true from fun u hu => by simp at hu; rcases hu with rfl <;> rfl)
  have h63 : L4.length + 1 ≤ maxLen := by unfold maxLen; omega
  have HPU := Lib.hid (fun v' W2 own gr pl => HS4.out.trans (HS4.out.at_.push (N := [x.flags]) (below_al (Below.drew (Below.refl _ _)) (.cells #[.int .u8 x.flags] 5)) (W2 := W2) (v' := v') (m := L4.length + 1) (xs := u8L L4 ++ [Value.int .u8 x.flags]) own (by simp) (by rw [u8L_app]; rfl) gr pl))
  have HCC := Lib.hid (fun W2 gr => HS4.out.at_.cells (below_al (Below.drew (Below.refl _ _)) (.cells #[.int .u8 x.flags] 5)) (W2 := W2) gr)
  have E : L ++ partB x 9 = L4 ++ [x.flags] := by rw [HL4.out, HL3.out, HL2.out, HL1.out]; simp [partB]
  go_upto_region 4 with (fail)
  have HS0 := Lib.hid (show w4.drew.cell? ⟨wb, 0, none⟩ = some v4 ∧ w4.drew.cell? ⟨b, o + 33, none⟩ = some (.int .u8 x.flags) from ⟨x0, d33⟩)
  refine wp_region_noPanic ?_
  refine wp_region_Z (fun w' => w'.cell? ⟨wb, 0, none⟩ = some v4 ∧ w'.cell? ⟨b, o + 33, none⟩ = some (.int .u8 x.flags)) 13 (by kernel_rfl) ?_
  change wpAnyZ _ _ _ _ _ _ 14 (Array.replicate 14 false) _ _
  refine wpAnyZ_take [12, 11] (i := 0) (v := ?v0) (by simp only [List.getElem?_toArray, List.getElem?_cons_succ, List.getElem?_cons_zero]; rfl) (by decide +kernel) (fun _ _ _ h => h) (by rfl) ?t0 ?s0 ?_
  case t0 => (intro w' h; clear h; go_simp; try rfl)
  case s0 => exact HS0.out
  (try simp only [Act.put, List.setIfInBounds_toArray, List.set_cons_zero, List.set_cons_succ])
  refine wpAnyZ_take [12, 11] (i := 1) (v := ?v1) (by simp only [List.getElem?_toArray, List.getElem?_cons_succ, List.getElem?_cons_zero]; rfl) (by decide +kernel) (fun _ _ _ h => h) (by rfl) ?t1 ?s1 ?_
  case t1 => (intro w' h; clear h; go_simp; try rfl)
  case s1 => exact HS0.out
  (try simp only [Act.put, List.setIfInBounds_toArray, List.set_cons_zero, List.set_cons_succ])
  refine wpAnyZ_take [12, 11] (i := 2) (v := ?v2) (by simp only [List.getElem?_toArray, List.getElem?_cons_succ, List.getElem?_cons_zero]; rfl) (by decide +kernel) (fun _ _ _ h => h) (by rfl) ?t2 ?s2 ?_
  case t2 => (intro w' h; clear h; go_simp; try rfl)
  case s2 => exact HS0.out
  (try simp only [Act.put, List.setIfInBounds_toArray, List.set_cons_zero, List.set_cons_succ])
  refine wpAnyZ_take [12, 11] (i := 3) (v := ?v3) (by simp only [List.getElem?_toArray, List.getElem?_cons_succ, List.getElem?_cons_zero]; rfl) (by decide +kernel) (fun _ _ _ h => h) (by rfl) ?t3 ?s3 ?_
  case t3 => (intro w' h; clear h; go_simp; try rfl)
  case s3 => exact HS0.out
  (try simp only [Act.put, List.setIfInBounds_toArray, List.set_cons_zero, List.set_cons_succ])
  refine wpAnyZ_take [12, 11] (i := 4) (v := ?v4) (by simp only [List.getElem?_toArray, List.getElem?_cons_succ, List.getElem?_cons_zero]; rfl) (by decide +kernel) (fun _ _ _ h => h) (by rfl) ?t4 ?s4 ?_
  case t4 => (intro w' h; have FK := (fun w' (h : w'.cell? ⟨wb, 0, none⟩ = some v4 ∧ w'.cell? ⟨b, o + 33, none⟩ = some (.int .u8 x.flags)) => h) w' h; clear h; go_split_ands; go_simp; try rfl)
  case s4 => exact HS0.out
  (try simp only [Act.put, List.setIfInBounds_toArray, List.set_cons_zero, List.set_cons_succ])
  refine wpAnyZ_take [12, 11] (i := 5) (v := ?v5) (by simp only [List.getElem?_toArray, List.getElem?_cons_succ, List.getElem?_cons_zero]; rfl) (by decide +kernel) (fun _ _ _ h => h) (by rfl) ?t5 ?s5 ?_
  case t5 => (intro w' h; clear h; go_simp; try rfl)
  case s5 => exact HS0.out
  (try simp only [Act.put, List.setIfInBounds_toArray, List.set_cons_zero, List.set_cons_succ])
  refine wpAnyZ_take [12, 11] (i := 6) (v := ?v6) (by simp only [List.getElem?_toArray, List.getElem?_cons_succ, List.getElem?_cons_zero]; rfl) (by decide +kernel) (fun _ _ _ h => h) (by rfl) ?t6 ?s6 ?_
  case t6 => (intro w' h; clear h; go_simp; try rfl)
  case s6 => exact HS0.out
  (try simp only [Act.put, List.setIfInBounds_toArray, List.set_cons_zero, List.set_cons_succ])
  refine wpAnyZ_take [12, 11] (i := 7) (v := ?v7) (by simp only [List.getElem?_toArray, List.getElem?_cons_succ, List.getElem?_cons_zero]; rfl) (by decide +kernel) (fun _ _ _ h => h) (by rfl) ?t7 ?s7 ?_
  case t7 => (intro w' h; clear h; go_simp; try rfl)
  case s7 => exact HS0.out
  (try simp only [Act.put, List.setIfInBounds_toArray, List.set_cons_zero, List.set_cons_succ])
  refine wpAnyZ_take [12, 11] (i := 8) (v := ?v8) (by simp only [List.getElem?_toArray, List.getElem?_cons_succ, List.getElem?_cons_zero]; rfl) (by decide +kernel) (fun _ _ _ h => h) (by rfl) ?t8 ?s8 ?_
  case t8 => (intro w' h; have FK := (fun w' (h : w'.cell? ⟨wb, 0, none⟩ = some v4 ∧ w'.cell? ⟨b, o + 33, none⟩ = some (.int .u8 x.flags)) => h) w' h; clear h; go_split_ands; go_simp; try rfl)
  case s8 => exact HS0.out
  (try simp only [Act.put, List.setIfInBounds_toArray, List.set_cons_zero, List.set_cons_succ])
  have HB := Lib.hid (show (w4.drew.alloc (.cells #[.int .u8 x.flags] 5)).cell? ⟨wb, 0, none⟩ = some v4 ∧ (w4.drew.alloc (.cells #[.int .u8 x.flags] 5)).cell? ⟨b, o + 33, none⟩ = some (.int .u8 x.flags) from ⟨((World.cell?_alloc_past _ _ _ zw).trans x0), ((World.cell?_alloc_past _ _ _ y4).trans d33)⟩)
  refine wpAnyZ_one (i := 9) (by decide +kernel) ?_
  refine wpOpK_value (v := .slice (some ⟨w4.heap.size, 0, none⟩) 1 1) (w' := w4.drew.alloc (.cells #[.int .u8 x.flags] 5)) (by simp only [List.getElem?_toArray, List.getElem?_cons_succ, List.getElem?_cons_zero]; rfl) (by rfl) ?m9 ⟨.inr HB.out, ?_⟩
  case m9 => (go_simp; try rfl)
  (try simp only [Act.put, List.setIfInBounds_toArray, List.set_cons_zero, List.set_cons_succ])
  refine wpAnyZ_one (i := 10) (by decide +kernel) ?_
  refine wpOpK_append (by simp only [List.getElem?_toArray, List.getElem?_cons_succ, List.getElem?_cons_zero]; rfl) rfl (.tmp 32) (.tmp 37) 36 rfl w0.heap.size 5 i0 _ 1 1 Try.underlying36 HI.out.1 HI.out.2.1 HI.out.2.2.1 HI.out.2.2.2 rfl (by decide) _ L4.length _ (by rfl) OWN.out ⟨w4.heap.size, 0, none⟩ 1 1 [.int .u8 x.flags] (by rfl) rfl (World.news_of_block (cs := #[.int .u8 x.flags]) (t := 5) (fr := (0, 0)) (heap_alloc_new _ _)) HON.out (by omega) ?h63 ?hby ?hbs ?_
  case h63 => (unfold maxLen; omega)
  case hby => omega
  case hbs => first | omega | (simp; omega)
  intro g cap W2 own gr hg hlt
  have HS5 := Lib.hid (HPU.out _ W2 own gr (hg.imp (fun h => h.symm) (fun h => by rw [h]; rfl)))
  obtain ⟨c2, f2, z2⟩ := HCC.out W2 gr
  have HQ := Lib.hid (show W2.cell? ⟨wb, 0, none⟩ = some v4 ∧ W2.cell? ⟨b, o + 33, none⟩ = some (.int .u8 x.flags) from ⟨c2, (HS4.out.at_.apart (below_al (Below.drew (Below.refl _ _)) _) gr zb0).trans d33⟩)
  clear own gr hg hlt
  refine ⟨.inr HQ.out, ?_⟩
  (try simp only [Act.put, List.setIfInBounds_toArray, List.set_cons_zero, List.set_cons_succ])
  refine wpAnyZ_take [12] (i := 11) (v := ?v11) (by simp only [List.getElem?_toArray, List.getElem?_cons_succ, List.getElem?_cons_zero]; rfl) (by decide +kernel) (fun _ _ _ h => h) (by rfl) ?t11 ?s11 ?_
  case t11 => (intro w' h; clear h; go_simp; try rfl)
  case s11 => exact HQ.out
  (try simp only [Act.put, List.setIfInBounds_toArray, List.set_cons_zero, List.set_cons_succ])
  refine wpAnyZ_take [] (i := 12) (v := ?v12) (by simp only [List.getElem?_toArray, List.getElem?_cons_succ, List.getElem?_cons_zero]; rfl) (by decide +kernel) (fun _ _ _ h => h) (by rfl) ?t12 ?s12 ?_
  case t12 => (intro w' h; clear h; go_simp; try rfl)
  case s12 => exact HQ.out
  (try simp only [Act.put, List.setIfInBounds_toArray, List.set_cons_zero, List.set_cons_succ])
  refine wpAnyZ_one (i := 13) (by decide +kernel) ?_
  refine wpOpK_skip (w' := W2.setCell ⟨wb, 0, none⟩ (.slice (some ⟨g, 0, none⟩) (L4.length + 1) cap)) (by simp only [List.getElem?_toArray, List.getElem?_cons_succ, List.getElem?_cons_zero]; rfl) (by rfl) ?m13 ⟨.inl rfl, ?_⟩
  case m13 => (go_simp; try rfl)
  (try simp only [Act.put, List.setIfInBounds_toArray, List.set_cons_zero, List.set_cons_succ])
  refine wpAnyZ_done (by kernel_rfl) (NoPanic.normal ?_) _
  clear x0 f0 zw OWN HON HPU HCC
  go_wp2
  refine bodyPost_end (v := .tuple #[]) ?ra ?rb ?rc
  case ra => exact results_none rfl _ _ _
  case rb => rfl
  case rc => rw [E]; exact ⟨rfl, _, HS5.out⟩
set_option maxRecDepth 100000 in
set_option maxHeartbeats 8000000 in
theorem put10 (w0 : World) (wb : Nat) (v : Value) (L : List Int) (b o : Nat) (x : Nd) (W : World) (h : WrAt w0.heap.size W wb v L) (hN : Src1 w0 b o x W) (hx : NdWr x) (hl : L.length ≤ 4294967296) : Calls Try.prog 98 #[.pointer (some ⟨wb, 0, none⟩), .pointer (some ⟨b, o, none⟩)] W (WrPost w0.heap.size W wb v (L ++ partB x 10)) := by
  obtain ⟨kv, cv, hkv, hcv, hc⟩ := hN.now
  have zb := hN.ltW
  have c24 : W.cell? ⟨b, o + 24, none⟩ = some (.int .i32 x.fg) := hc 24 (by omega)
  have c25 : W.cell? ⟨b, o + 25, none⟩ = some (.int .i32 x.bg) := hc 25 (by omega)
  have c26 : W.cell? ⟨b, o + 26, none⟩ = some (.int .u8 x.add) := hc 26 (by omega)
  have c27 : W.cell? ⟨b, o + 27, none⟩ = some (.int .u8 x.drop) := hc 27 (by omega)
  obtain ⟨i0, hi, hz0, hz1, hz2⟩ := info_parts infoU8_
  have HI := Lib.hid (And.intro hi (And.intro hz0 (And.intro hz1 hz2)))
  have HW := Lib.hid h
  have HX := Lib.hid hx
  have zb0 := hN.lt
  have q0 : wrap64 x.fg = x.fg := IntWalk.wrap64_in _ ⟨by have := hx.fit.fg.lo; omega, hx.fit.fg.hi⟩
  have q1 : wrap64 x.bg = x.bg := IntWalk.wrap64_in _ ⟨by have := hx.fit.bg.lo; omega, hx.fit.bg.hi⟩
  have hlen : ∀ n, (numB n).length ≤ 11 := fun n => numF_len 10 _
  clear h hx hN hkv hcv hc hi hz0 hz1 hz2
  go_enter Try.func98, Try.ntmps98
  have HC0 := Lib.hid (number_any w0.heap.size wb v L x.fg W HW.out HX.out.fit.fg.lo HX.out.fit.fg.hi (by omega))
  go_wp2_with fail
  refine HC0.out.mono ?_
  clear HC0
  obtain ⟨L1, hL1⟩ : ∃ l, l = L ++ numB x.fg := ⟨_, rfl⟩
  rw [← hL1]
  have hl1 : L1.length ≤ 4294967296 + 11 := by rw [hL1, List.length_append]; have := hlen x.fg; omega
  have HL1 := Lib.hid hL1
  clear hL1
  rintro e w1 ⟨rfl, v1, hs⟩
  have HS1 := Lib.hid hs
  clear hs
  have B1 := HS1.out.be
  have y1 : b < w1.heap.size := Nat.lt_of_lt_of_le zb HS1.out.sz
  have d25 : w1.cell? ⟨b, o + 25, none⟩ = some (.int .i32 x.bg) := by rw [(bcell B1).1 _ _ zb0]; exact c25
  have HC1 := Lib.hid (number_any w0.heap.size wb v1 L1 x.bg w1 HS1.out.at_ HX.out.fit.bg.lo HX.out.fit.bg.hi (by omega))
  go_wp2_with fail
  refine HC1.out.mono ?_
  clear HC1
  obtain ⟨L2, hL2⟩ : ∃ l, l = L1 ++ numB x.bg := ⟨_, rfl⟩
  rw [← hL2]
  have hl2 : L2.length ≤ 4294967296 + 22 := by rw [hL2, List.length_append]; have := hlen x.bg; omega
  have HL2 := Lib.hid hL2
  clear hL2
  rintro e w2 ⟨rfl, v2, hs⟩
  have HS2 := Lib.hid (HS1.out.trans hs)
  clear hs
  have B2 := HS2.out.be
  have y2 : b < w2.heap.size := Nat.lt_of_lt_of_le zb HS2.out.sz
  have d26 : w2.cell? ⟨b, o + 26, none⟩ = some (.int .u8 x.add) := by rw [(bcell B2).1 _ _ zb0]; exact c26
  have d27 : w2.cell? ⟨b, o + 27, none⟩ = some (.int .u8 x.drop) := by rw [(bcell B2).1 _ _ zb0]; exact c27
  have f0 : w2.frozen? ⟨wb, 0, none⟩ = false := by unfold World.frozen?; rw [HS2.out.at_.blk]; simp
  have x0 := cell_of_one HS2.out.at_.blk
  have zw := HS2.out.at_.lt
  have hzb : w0.heap.size ≤ w2.heap.size := by have := HS2.out.at_.zb; omega
  have OWN := Lib.hid ((ownsRow_drew HS2.out.at_.own).alloc (.cells #[.int .u8 x.add, .int .u8 x.drop] 5))
  have HON := Lib.hid (show ∀ u ∈ [Value.int .u8 x.add, Value.int .u8 x.drop], u.oneCell' = true from fun u hu => by simp at hu; rcases hu with rfl | rfl <;> rfl)
  have h63 : L2.length + 2 ≤ maxLen := by unfold maxLen; omega
  have HPU := Lib.hid (fun v' W2 own gr pl => HS2.out.trans (HS2.out.at_.push (N := [x.add, x.drop]) (below_al (Below.drew (Below.refl _ _)) (.cells #[.int .u8 x.add, .int .u8 x.drop] 5)) (W2 := W2) (v' := v') (m := L2.length + 2) (xs := u8L L2 ++ [Value.int .u8 x.add, Value.int .u8 x.drop]) own (by simp) (by rw [u8L_app]; rfl) gr pl))
  have HCC := Lib.hid (fun W2 gr => HS2.out.at_.cells (below_al (Below.drew (Below.refl _ _)) (.cells #[.int .u8 x.add, .int .u8 x.drop] 5)) (W2 := W2) gr)
  have E : L ++ partB x 10 = L2 ++ [x.add, x.drop] := by rw [HL2.out, HL1.out]; simp [partB]
  go_upto_region 2 with (fail)
  have HS0 := Lib.hid (show w2.drew.cell? ⟨wb, 0, none⟩ = some v2 ∧ w2.drew.cell? ⟨b, o + 26, none⟩ = some (.int .u8 x.add) ∧ w2.drew.cell? ⟨b, o + 27, none⟩ = some (.int .u8 x.drop) from ⟨x0, d26, d27⟩)
  refine wp_region_noPanic ?_
  refine wp_region_Z (fun w' => w'.cell? ⟨wb, 0, none⟩ = some v2 ∧ w'.cell? ⟨b, o + 26, none⟩ = some (.int .u8 x.add) ∧ w'.cell? ⟨b, o + 27, none⟩ = some (.int .u8 x.drop)) 19 (by kernel_rfl) ?_
  change wpAnyZ _ _ _ _ _ _ 20 (Array.replicate 20 false) _ _
  refine wpAnyZ_take [18, 17] (i := 0) (v := ?v0) (by simp only [List.getElem?_toArray, List.getElem?_cons_succ, List.getElem?_cons_zero]; rfl) (by decide +kernel) (fun _ _ _ h => h) (by rfl) ?t0 ?s0 ?_
  case t0 => (intro w' h; clear h; go_simp; try rfl)
  case s0 => exact HS0.out
  (try simp only [Act.put, List.setIfInBounds_toArray, List.set_cons_zero, List.set_cons_succ])
  refine wpAnyZ_take [18, 17] (i := 1) (v := ?v1) (by simp only [List.getElem?_toArray, List.getElem?_cons_succ, List.getElem?_cons_zero]; rfl) (by decide +kernel) (fun _ _ _ h => h) (by rfl) ?t1 ?s1 ?_
  case t1 => (intro w' h; clear h; go_simp; try rfl)
  case s1 => exact HS0.out
  (try simp only [Act.put, List.setIfInBounds_toArray, List.set_cons_zero, List.set_cons_succ])
  refine wpAnyZ_take [18, 17] (i := 2) (v := ?v2) (by simp only [List.getElem?_toArray, List.getElem?_cons_succ, List.getElem?_cons_zero]; rfl) (by decide +kernel) (fun _ _ _ h => h) (by rfl) ?t2 ?s2 ?_
  case t2 => (intro w' h; clear h; go_simp; try rfl)
  case s2 => exact HS0.out
  (try simp only [Act.put, List.setIfInBounds_toArray, List.set_cons_zero, List.set_cons_succ])
  refine wpAnyZ_take [18, 17] (i := 3) (v := ?v3) (by simp only [List.getElem?_toArray, List.getElem?_cons_succ, List.getElem?_cons_zero]; rfl) (by decide +kernel) (fun _ _ _ h => h) (by rfl) ?t3 ?s3 ?_
  case t3 => (intro w' h; clear h; go_simp; try rfl)
  case s3 => exact HS0.out
  (try simp only [Act.put, List.setIfInBounds_toArray, List.set_cons_zero, List.set_cons_succ])
  refine wpAnyZ_take [18, 17] (i := 4) (v := ?v4) (by simp only [List.getElem?_toArray, List.getElem?_cons_succ, List.getElem?_cons_zero]; rfl) (by decide +kernel) (fun _ _ _ h => h) (by rfl) ?t4 ?s4 ?_
  case t4 => (intro w' h; have FK := (fun w' (h : w'.cell? ⟨wb, 0, none⟩ = some v2 ∧ w'.cell? ⟨b, o + 26, none⟩ = some (.int .u8 x.add) ∧ w'.cell? ⟨b, o + 27, none⟩ = some (.int .u8 x.drop)) => h) w' h; clear h; go_split_ands; go_simp; try rfl)
  case s4 => exact HS0.out
  (try simp only [Act.put, List.setIfInBounds_toArray, List.set_cons_zero, List.set_cons_succ])
  refine wpAnyZ_take [18, 17] (i := 5) (v := ?v5) (by simp only [List.getElem?_toArray, List.getElem?_cons_succ, List.getElem?_cons_zero]; rfl) (by decide +kernel) (fun _ _ _ h => h) (by rfl) ?t5 ?s5 ?_
  case t5 => (intro w' h; clear h; go_simp; try rfl)
  case s5 => exact HS0.out
  (try simp only [Act.put, List.setIfInBounds_toArray, List.set_cons_zero, List.set_cons_succ])
  refine wpAnyZ_take [18, 17] (i := 6) (v := ?v6) (by simp only [List.getElem?_toArray, List.getElem?_cons_succ, List.getElem?_cons_zero]; rfl) (by decide +kernel) (fun _ _ _ h => h) (by rfl) ?t6 ?s6 ?_
  case t6 => (intro w' h; clear h; go_simp; try rfl)
  case s6 => exact HS0.out
  (try simp only [Act.put, List.setIfInBounds_toArray, List.set_cons_zero, List.set_cons_succ])
  refine wpAnyZ_take [18, 17] (i := 7) (v := ?v7) (by simp only [List.getElem?_toArray, List.getElem?_cons_succ, List.getElem?_cons_zero]; rfl) (by decide +kernel) (fun _ _ _ h => h) (by rfl) ?t7 ?s7 ?_
  case t7 => (intro w' h; clear h; go_simp; try rfl)
  case s7 => exact HS0.out
  (try simp only [Act.put, List.setIfInBounds_toArray, List.set_cons_zero, List.set_cons_succ])
  refine wpAnyZ_take [18, 17] (i := 8) (v := ?v8) (by simp only [List.getElem?_toArray, List.getElem?_cons_succ, List.getElem?_cons_zero]; rfl) (by decide +kernel) (fun _ _ _ h => h) (by rfl) ?t8 ?s8 ?_
  case t8 => (intro w' h; clear h; go_simp; try rfl)
  case s8 => exact HS0.out
  (try simp only [Act.put, List.setIfInBounds_toArray, List.set_cons_zero, List.set_cons_succ])
  refine wpAnyZ_take [18, 17] (i := 9) (v := ?v9) (by simp only [List.getElem?_toArray, List.getElem?_cons_succ, List.getElem?_cons_zero]; rfl) (by decide +kernel) (fun _ _ _ h => h) (by rfl) ?t9 ?s9 ?_
  case t9 => (intro w' h; have FK := (fun w' (h : w'.cell? ⟨wb, 0, none⟩ = some v2 ∧ w'.cell? ⟨b, o + 26, none⟩ = some (.int .u8 x.add) ∧ w'.cell? ⟨b, o + 27, none⟩ = some (.int .u8 x.drop)) => h) w' h; clear h; go_split_ands; go_simp; try rfl)
  case s9 => exact HS0.out
  (try simp only [Act.put, List.setIfInBounds_toArray, List.set_cons_zero, List.set_cons_succ])
  refine wpAnyZ_take [18, 17] (i := 10) (v := ?v10) (by simp only [List.getElem?_toArray, List.getElem?_cons_succ, List.getElem?_cons_zero]; rfl) (by decide +kernel) (fun _ _ _ h => h) (by rfl) ?t10 ?s10 ?_
  case t10 => (intro w' h; clear h; go_simp; try rfl)
  case s10 => exact HS0.out
  (try simp only [Act.put, List.setIfInBounds_toArray, List.set_cons_zero, List.set_cons_succ])
  refine wpAnyZ_take [18, 17] (i := 11) (v := ?v11) (by simp only [List.getElem?_toArray, List.getElem?_cons_succ, List.getElem?_cons_zero]; rfl) (by decide +kernel) (fun _ _ _ h => h) (by rfl) ?t11 ?s11 ?_
  case t11 => (intro w' h; clear h; go_simp; try rfl)
  case s11 => exact HS0.out
  (try simp only [Act.put, List.setIfInBounds_toArray, List.set_cons_zero, List.set_cons_succ])
  refine wpAnyZ_take [18, 17] (i := 12) (v := ?v12) (by simp only [List.getElem?_toArray, List.getElem?_cons_succ, List.getElem?_cons_zero]; rfl) (by decide +kernel) (fun _ _ _ h => h) (by rfl) ?t12 ?s12 ?_
  case t12 => (intro w' h; clear h; go_simp; try rfl)
  case s12 => exact HS0.out
  (try simp only [Act.put, List.setIfInBounds_toArray, List.set_cons_zero, List.set_cons_succ])
  refine wpAnyZ_take [18, 17] (i := 13) (v := ?v13) (by simp only [List.getElem?_toArray, List.getElem?_cons_succ, List.getElem?_cons_zero]; rfl) (by decide +kernel) (fun _ _ _ h => h) (by rfl) ?t13 ?s13 ?_
  case t13 => (intro w' h; clear h; go_simp; try rfl)
  case s13 => exact HS0.out
  (try simp only [Act.put, List.setIfInBounds_toArray, List.set_cons_zero, List.set_cons_succ])
  refine wpAnyZ_take [18, 17] (i := 14) (v := ?v14) (by simp only [List.getElem?_toArray, List.getElem?_cons_succ, List.getElem?_cons_zero]; rfl) (by decide +kernel) (fun _ _ _ h => h) (by rfl) ?t14 ?s14 ?_
  case t14 => (intro w' h; have FK := (fun w' (h : w'.cell? ⟨wb, 0, none⟩ = some v2 ∧ w'.cell? ⟨b, o + 26, none⟩ = some (.int .u8 x.add) ∧ w'.cell? ⟨b, o + 27, none⟩ = some (.int .u8 x.drop)) => h) w' h; clear h; go_split_ands; go_simp; try rfl)
  case s14 => exact HS0.out
  (try simp only [Act.put, List.setIfInBounds_toArray, List.set_cons_zero, List.set_cons_succ])
  have HB := Lib.hid (show (w2.drew.alloc (.cells #[.int .u8 x.add, .int .u8 x.drop] 5)).cell? ⟨wb, 0, none⟩ = some v2 ∧ (w2.drew.alloc (.cells #[.int .u8 x.add, .int .u8 x.drop] 5)).cell? ⟨b, o + 26, none⟩ = some (.int .u8 x.add) ∧ (w2.drew.alloc (.cells #[.int .u8 x.add, .int .u8 x.drop] 5)).cell? ⟨b, o + 27, none⟩ = some (.int .u8 x.drop) from ⟨((World.cell?_alloc_past _ _ _ zw).trans x0), ((World.cell?_alloc_past _ _ _ y2).trans d26), ((World.cell?_alloc_past _ _ _ y2).trans d27)⟩)
  refine wpAnyZ_one (i := 15) (by decide +kernel) ?_
  refine wpOpK_value (v := .slice (some ⟨w2.heap.size, 0, none⟩) 2 2) (w' := w2.drew.alloc (.cells #[.int .u8 x.add, .int .u8 x.drop] 5)) (by simp only [List.getElem?_toArray, List.getElem?_cons_succ, List.getElem?_cons_zero]; rfl) (by rfl) ?m15 ⟨.inr HB.out, ?_⟩
  case m15 => (go_simp; try rfl)
  (try simp only [Act.put, List.setIfInBounds_toArray, List.set_cons_zero, List.set_cons_succ])
  refine wpAnyZ_one (i := 16) (by decide +kernel) ?_
  refine wpOpK_append (by simp only [List.getElem?_toArray, List.getElem?_cons_succ, List.getElem?_cons_zero]; rfl) rfl (.tmp 24) (.tmp 35) 36 rfl w0.heap.size 5 i0 _ 1 1 Try.underlying36 HI.out.1 HI.out.2.1 HI.out.2.2.1 HI.out.2.2.2 rfl (by decide) _ L2.length _ (by rfl) OWN.out ⟨w2.heap.size, 0, none⟩ 2 2 [.int .u8 x.add, .int .u8 x.drop] (by rfl) rfl (World.news_of_block (cs := #[.int .u8 x.add, .int .u8 x.drop]) (t := 5) (fr := (0, 0)) (heap_alloc_new _ _)) HON.out (by omega) ?h63 ?hby ?hbs ?_
  case h63 => (unfold maxLen; omega)
  case hby => omega
  case hbs => first | omega | (simp; omega)
  intro g cap W2 own gr hg hlt
  have HS3 := Lib.hid (HPU.out _ W2 own gr (hg.imp (fun h => h.symm) (fun h => by rw [h]; rfl)))
  obtain ⟨c2, f2, z2⟩ := HCC.out W2 gr
  have HQ := Lib.hid (show W2.cell? ⟨wb, 0, none⟩ = some v2 ∧ W2.cell? ⟨b, o + 26, none⟩ = some (.int .u8 x.add) ∧ W2.cell? ⟨b, o + 27, none⟩ = some (.int .u8 x.drop) from ⟨c2, (HS2.out.at_.apart (below_al (Below.drew (Below.refl _ _)) _) gr zb0).trans d26, (HS2.out.at_.apart (below_al (Below.drew (Below.refl _ _)) _) gr zb0).trans d27⟩)
  clear own gr hg hlt
  refine ⟨.inr HQ.out, ?_⟩
  (try simp only [Act.put, List.setIfInBounds_toArray, List.set_cons_zero, List.set_cons_succ])
  refine wpAnyZ_take [18] (i := 17) (v := ?v17) (by simp only [List.getElem?_toArray, List.getElem?_cons_succ, List.getElem?_cons_zero]; rfl) (by decide +kernel) (fun _ _ _ h => h) (by rfl) ?t17 ?s17 ?_
  case t17 => (intro w' h; clear h; go_simp; try rfl)
  case s17 => exact HQ.out
  (try simp only [Act.put, List.setIfInBounds_toArray, List.set_cons_zero, List.set_cons_succ])
  refine wpAnyZ_take [] (i := 18) (v := ?v18) (by simp only [List.getElem?_toArray, List.getElem?_cons_succ, List.getElem?_cons_zero]; rfl) (by decide +kernel) (fun _ _ _ h => h) (by rfl) ?t18 ?s18 ?_
  case t18 => (intro w' h; clear h; go_simp; try rfl)
  case s18 => exact HQ.out
  (try simp only [Act.put, List.setIfInBounds_toArray, List.set_cons_zero, List.set_cons_succ])
  refine wpAnyZ_one (i := 19) (by decide +kernel) ?_
  refine wpOpK_skip (w' := W2.setCell ⟨wb, 0, none⟩ (.slice (some ⟨g, 0, none⟩) (L2.length + 2) cap)) (by simp only [List.getElem?_toArray, List.getElem?_cons_succ, List.getElem?_cons_zero]; rfl) (by rfl) ?m19 ⟨.inl rfl, ?_⟩
  case m19 => (go_simp; try rfl)
  (try simp only [Act.put, List.setIfInBounds_toArray, List.set_cons_zero, List.set_cons_succ])
  refine wpAnyZ_done (by kernel_rfl) (NoPanic.normal ?_) _
  clear x0 f0 zw OWN HON HPU HCC
  go_wp2
  refine bodyPost_end (v := .tuple #[]) ?ra ?rb ?rc
  case ra => exact results_none rfl _ _ _
  case rb => rfl
  case rc => rw [E]; exact ⟨rfl, _, HS3.out⟩
end Go.Proofs.Ytcihihncgpddfaa
