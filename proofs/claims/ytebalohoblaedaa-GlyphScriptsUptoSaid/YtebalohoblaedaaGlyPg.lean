/- Layer 13: the whole of a pair of plans. -/
import Derived.Test.YtebalohoblaedaaGlyPz
namespace Go.Proofs.Ytebalohoblaedaa
open Go.RowKit
set_option linter.unusedVariables false
set_option linter.unusedSimpArgs false

theorem infoU8p_ : (Try.prog.info? 5).map (fun i => (i.zero, i.size, i.bytes)) = some (some (.int .u8 0), 1, 1) := by kernel_rfl
set_option maxRecDepth 100000 in
set_option maxHeartbeats 16000000 in
def whole_A (base : Nat) (w : World) (pb : Nat) (s : PairS) (HP : RowKit.Hid (PairAt base w pb s)) (hW : s.W ≤ 4096) (hH : s.H ≤ 4096) (hn : s.ts.length + 8 ≤ 1073741824) (ht : s.told.length ≤ 1073741824) (hbw : base ≤ w.heap.size) : {P : Prop // RowKit.Hid P → Calls Try.prog 28 #[.pointer (some ⟨pb, 0, none⟩)] w fun e w' => e = .returned (.bool true) ∧ Chg w w' (SP pb s)} := ⟨_, fun hP => by
  obtain ⟨i0, hi, hz0, hz1, hz2⟩ := info_parts infoSL_
  have HI := Lib.hid (And.intro hi (And.intro hz0 (And.intro hz1 hz2)))
  clear hi hz0 hz1 hz2
  obtain ⟨pt, ct, htv⟩ := row_slice HP.out.tor
  obtain ⟨pw, cw, hwv⟩ := row_slice HP.out.wor
  have HSS := Lib.hid (show ∀ w' : World, w'.heap[pb]? = w.heap[pb]? → (pb < w'.heap.size ∧ w'.cell? ⟨pb, 0, none⟩ = some (.pointer (some ⟨s.g, 0, none⟩)) ∧ w'.cell? ⟨pb, 1, none⟩ = some (.pointer (some ⟨s.rg, 0, none⟩)) ∧ w'.cell? ⟨pb, 2, none⟩ = some (.slice pt s.told.length ct) ∧ w'.cell? ⟨pb, 3, none⟩ = some (.slice pw s.told.length cw) ∧ w'.frozen? ⟨pb, 2, none⟩ = false) from fun w' h => by
    have h1 := h.trans HP.out.pr
    rw [htv, hwv] at h1
    refine ⟨lt_of_block h1, ?_, ?_, ?_, ?_, frozen_of_row _ _ _ _ _ h1⟩ <;> (rw [cell_of_row _ _ _ _ _ _ h1]; rfl))
  obtain ⟨M, hM⟩ : ∃ M, M = layL s.W s.H s.ts (List.replicate (s.W * s.H) zA) := ⟨_, rfl⟩
  have HME := Lib.hid (show ∀ y, y < s.H → ∀ x, x < s.W → M.getD (y * s.W + x) zA = mergeA ((s.ts.map nln).flatMap (con x y)) from fun y hy x hx => by rw [hM]; exact cell_eq _ _ _ x y hx hy)
  have HMM := Lib.hid hM
  clear hM
  go_enter Try.func28, Try.ntmps28
  obtain ⟨zp, c0, c1, c2, c3, f2⟩ := HSS.out w rfl
  go_wp2_with fail
  refine (rrows_any base s.rg s.W s.H s.lv (s.ts.map nln) M HME.out hW hH (nrm_all s.ts) (by rw [List.length_map]; omega) w HP.out.rp).mono ?_
  rintro e w1 ⟨v6, rfl, own6, hb1⟩
  have HO6 := Lib.hid own6
  have HB1 := Lib.hid hb1
  obtain ⟨p6, k6, rfl⟩ := row_slice own6
  have hs1 := hb1.size
  have HS1 := Lib.hid (show w1.heap[pb]? = w.heap[pb]? from hb1.block _ (lt_of_block HP.out.pr))
  clear own6 hb1 zp c0 c1 c2 c3 f2
  go_upto_region 2 with (fail)
  have HSD := Lib.hid (show w1.drew.heap[pb]? = w.heap[pb]? from HS1.out)
  refine wp_region_noPanic ?_
  refine wp_region_Z (fun w' => w'.heap[pb]? = w.heap[pb]?) 19 (by kernel_rfl) ?_
  change wpAnyZ _ _ _ _ _ _ 20 (Array.replicate 20 false) _ _
  refine wpAnyZ_take [18, 17] (i := 0) (v := ?v0) (by simp only [List.getElem?_toArray, List.getElem?_cons_succ, List.getElem?_cons_zero]; rfl) (by decide +kernel) (fun _ _ _ h => h) (by rfl) ?t0 ?s0 ?_
  case t0 => (intro w' h; clear h; go_simp; try rfl)
  case s0 => exact HSD.out
  (try simp only [Act.put, List.setIfInBounds_toArray, List.set_cons_zero, List.set_cons_succ])
  refine wpAnyZ_take [16, 4, 3, 2] (i := 1) (v := ?v1) (by simp only [List.getElem?_toArray, List.getElem?_cons_succ, List.getElem?_cons_zero]; rfl) (by decide +kernel) (fun _ _ _ h => h) (by rfl) ?t1 ?s1 ?_
  case t1 => (intro w' h; clear h; go_simp; try rfl)
  case s1 => exact HSD.out
  (try simp only [Act.put, List.setIfInBounds_toArray, List.set_cons_zero, List.set_cons_succ])
  refine wpAnyZ_take [16, 4, 3] (i := 2) (v := ?v2) (by simp only [List.getElem?_toArray, List.getElem?_cons_succ, List.getElem?_cons_zero]; rfl) (by decide +kernel) (fun _ _ _ h => h) (by rfl) ?t2 ?s2 ?_
  case t2 => (intro w' h; have FK := HSS.out w' h; clear h; go_split_ands; go_simp; try rfl)
  case s2 => exact HSD.out
  (try simp only [Act.put, List.setIfInBounds_toArray, List.set_cons_zero, List.set_cons_succ])
  refine wpAnyZ_take [16, 4] (i := 3) (v := ?v3) (by simp only [List.getElem?_toArray, List.getElem?_cons_succ, List.getElem?_cons_zero]; rfl) (by decide +kernel) (fun _ _ _ h => h) (by rfl) ?t3 ?s3 ?_
  case t3 => (intro w' h; clear h; go_simp; try rfl)
  case s3 => exact HSD.out
  (try simp only [Act.put, List.setIfInBounds_toArray, List.set_cons_zero, List.set_cons_succ])
  refine wpAnyZ_take [16] (i := 4) (v := ?v4) (by simp only [List.getElem?_toArray, List.getElem?_cons_succ, List.getElem?_cons_zero]; rfl) (by decide +kernel) (fun _ _ _ h => h) (by rfl) ?t4 ?s4 ?_
  case t4 => (intro w' h; have FK := HSS.out w' h; clear h; go_split_ands; go_simp; try rfl)
  case s4 => exact HSD.out
  (try simp only [Act.put, List.setIfInBounds_toArray, List.set_cons_zero, List.set_cons_succ])
  refine wpAnyZ_take [16, 15, 9, 8, 7, 6] (i := 5) (v := ?v5) (by simp only [List.getElem?_toArray, List.getElem?_cons_succ, List.getElem?_cons_zero]; rfl) (by decide +kernel) (fun _ _ _ h => h) (by rfl) ?t5 ?s5 ?_
  case t5 => (intro w' h; clear h; go_simp; try rfl)
  case s5 => exact HSD.out
  (try simp only [Act.put, List.setIfInBounds_toArray, List.set_cons_zero, List.set_cons_succ])
  refine wpAnyZ_take [16, 15, 9, 8, 7] (i := 6) (v := ?v6) (by simp only [List.getElem?_toArray, List.getElem?_cons_succ, List.getElem?_cons_zero]; rfl) (by decide +kernel) (fun _ _ _ h => h) (by rfl) ?t6 ?s6 ?_
  case t6 => (intro w' h; have FK := HSS.out w' h; clear h; go_split_ands; go_simp; try rfl)
  case s6 => exact HSD.out
  (try simp only [Act.put, List.setIfInBounds_toArray, List.set_cons_zero, List.set_cons_succ])
  refine wpAnyZ_take [16, 15, 9, 8] (i := 7) (v := ?v7) (by simp only [List.getElem?_toArray, List.getElem?_cons_succ, List.getElem?_cons_zero]; rfl) (by decide +kernel) (fun _ _ _ h => h) (by rfl) ?t7 ?s7 ?_
  case t7 => (intro w' h; clear h; go_simp; try rfl)
  case s7 => exact HSD.out
  (try simp only [Act.put, List.setIfInBounds_toArray, List.set_cons_zero, List.set_cons_succ])
  refine wpAnyZ_take [16, 15, 9] (i := 8) (v := ?v8) (by simp only [List.getElem?_toArray, List.getElem?_cons_succ, List.getElem?_cons_zero]; rfl) (by decide +kernel) (fun _ _ _ h => h) (by rfl) ?t8 ?s8 ?_
  case t8 => (intro w' h; have FK := HSS.out w' h; clear h; go_split_ands; go_simp; try rfl)
  case s8 => exact HSD.out
  (try simp only [Act.put, List.setIfInBounds_toArray, List.set_cons_zero, List.set_cons_succ])
  refine wpAnyZ_take [16, 15, 14, 13, 12, 11] (i := 10) (v := ?v10) (by simp only [List.getElem?_toArray, List.getElem?_cons_succ, List.getElem?_cons_zero]; rfl) (by decide +kernel) (fun _ _ _ h => h) (by rfl) ?t10 ?s10 ?_
  case t10 => (intro w' h; clear h; go_simp; try rfl)
  case s10 => exact HSD.out
  (try simp only [Act.put, List.setIfInBounds_toArray, List.set_cons_zero, List.set_cons_succ])
  refine wpAnyZ_take [16, 15, 14, 13, 12] (i := 11) (v := ?v11) (by simp only [List.getElem?_toArray, List.getElem?_cons_succ, List.getElem?_cons_zero]; rfl) (by decide +kernel) (fun _ _ _ h => h) (by rfl) ?t11 ?s11 ?_
  case t11 => (intro w' h; have FK := HSS.out w' h; clear h; go_split_ands; go_simp; try rfl)
  case s11 => exact HSD.out
  (try simp only [Act.put, List.setIfInBounds_toArray, List.set_cons_zero, List.set_cons_succ])
  refine wpAnyZ_take [16, 15, 14, 13] (i := 12) (v := ?v12) (by simp only [List.getElem?_toArray, List.getElem?_cons_succ, List.getElem?_cons_zero]; rfl) (by decide +kernel) (fun _ _ _ h => h) (by rfl) ?t12 ?s12 ?_
  case t12 => (intro w' h; clear h; go_simp; try rfl)
  case s12 => exact HSD.out
  (try simp only [Act.put, List.setIfInBounds_toArray, List.set_cons_zero, List.set_cons_succ])
  refine wpAnyZ_take [16, 15, 14] (i := 13) (v := ?v13) (by simp only [List.getElem?_toArray, List.getElem?_cons_succ, List.getElem?_cons_zero]; rfl) (by decide +kernel) (fun _ _ _ h => h) (by rfl) ?t13 ?s13 ?_
  case t13 => (intro w' h; have FK := HSS.out w' h; clear h; go_split_ands; go_simp; try rfl)
  case s13 => exact HSD.out
  (try simp only [Act.put, List.setIfInBounds_toArray, List.set_cons_zero, List.set_cons_succ])
  have HPd := Lib.hid ((HP.out.later HB1.out).later (w' := w1.drew) (Below.drew (Below.refl _ _)))
  refine wpAnyZ_one (i := 9) (by decide +kernel) ?_
  refine wpOpK_call (by simp only [List.getElem?_toArray, List.getElem?_cons_succ, List.getElem?_cons_zero]; rfl) (by rfl) (by go_simp; first | exact ⟨rfl, rfl⟩ | rfl) ?_
  refine (rows_any s.g s.gc s.W s.H M w1.drew (by rw [HMM.out]; exact HPd.out.pl)).mono ?_
  rintro e w2 ⟨v4, rfl, own4, hb2⟩
  have HO4 := Lib.hid (show w2.ownsRow w1.heap.size 9 1 v4 s.H (rowsN s.W M s.H) from own4)
  have HB2 := Lib.hid (show Below w1.heap.size w1 w2 from (Below.drew (Below.refl _ _)).trans hb2)
  have hs2 := HB2.out.size
  obtain ⟨p4, k4, rfl⟩ := row_slice own4
  clear own4 hb2
  have HS2 := Lib.hid (show w2.heap[pb]? = w.heap[pb]? from (HB2.out.block _ (by have := lt_of_block HP.out.pr; omega)).trans HS1.out)
  refine ⟨_, rfl, .inr HS2.out, ?_⟩
  (try simp only [Act.put, List.setIfInBounds_toArray, List.set_cons_zero, List.set_cons_succ])
  have HP2 := Lib.hid ((HP.out.later HB1.out).later HB2.out)
  refine wpAnyZ_one (i := 14) (by decide +kernel) ?_
  refine wpOpK_call (by simp only [List.getElem?_toArray, List.getElem?_cons_succ, List.getElem?_cons_zero]; rfl) (by rfl) (by go_simp; first | exact ⟨rfl, rfl⟩ | rfl) ?_
  refine (rows_any s.g s.gc s.W s.H M w2 (by rw [HMM.out]; exact HP2.out.pl)).mono ?_
  rintro e w3 ⟨v5, rfl, own5, hb3⟩
  have HO5 := Lib.hid own5
  have HB3 := Lib.hid hb3
  have hs3 := hb3.size
  obtain ⟨p5, k5, rfl⟩ := row_slice own5
  clear own5 hb3
  have HS3 := Lib.hid (show w3.heap[pb]? = w.heap[pb]? from (HB3.out.block _ (by have := lt_of_block HP.out.pr; omega)).trans HS2.out)
  refine ⟨_, rfl, .inr HS3.out, ?_⟩
  (try simp only [Act.put, List.setIfInBounds_toArray, List.set_cons_zero, List.set_cons_succ])
  have HP3 := Lib.hid (HP2.out.later HB3.out)
  have zp3 : pb < w3.heap.size := lt_of_block HP3.out.pr
  have HS4 := Lib.hid (show (w3.alloc (.cells #[.slice p4 s.H k4, .slice p5 s.H k5] 67)).heap[pb]? = w.heap[pb]? from (heap_alloc_old _ _ zp3).trans HS3.out)
  refine wpAnyZ_one (i := 15) (by decide +kernel) ?_
  refine wpOpK_value (v := .slice (some ⟨w3.heap.size, 0, none⟩) 2 2) (w' := w3.alloc (.cells #[.slice p4 s.H k4, .slice p5 s.H k5] 67)) (by simp only [List.getElem?_toArray, List.getElem?_cons_succ, List.getElem?_cons_zero]; rfl) (by rfl) ?m15 ⟨.inr HS4.out, ?_⟩
  case m15 => (go_simp; try rfl)
  (try simp only [Act.put, List.setIfInBounds_toArray, List.set_cons_zero, List.set_cons_succ])
  have HON := Lib.hid (show ∀ u ∈ [Value.slice p4 s.H k4, Value.slice p5 s.H k5], u.oneCell' = true from fun u hu => by simp at hu; rcases hu with rfl | rfl <;> rfl)
  have HTO := Lib.hid (show (w3.alloc (.cells #[.slice p4 s.H k4, .slice p5 s.H k5] 67)).ownsRow base 67 1 (.slice pt s.told.length ct) s.told.length (s.told.map (·.t)) from by have := HP3.out.tor; rw [htv] at this; exact this.alloc _)
  refine wpAnyZ_one (i := 16) (by decide +kernel) ?_
  refine wpOpK_append (by simp only [List.getElem?_toArray, List.getElem?_cons_succ, List.getElem?_cons_zero]; rfl) rfl (.tmp 21) (.tmp 32) 92 rfl base 67 i0 (.slice none 0 0) 1 24 Try.underlying92 HI.out.1 HI.out.2.1 HI.out.2.2.1 HI.out.2.2.2 rfl (by decide) _ s.told.length _ (by rfl) HTO.out ⟨w3.heap.size, 0, none⟩ 2 2 [.slice p4 s.H k4, .slice p5 s.H k5] (by rfl) rfl (World.news_of_block (cs := #[.slice p4 s.H k4, .slice p5 s.H k5]) (t := 67) (fr := (0, 0)) (heap_alloc_new _ _)) HON.out (by omega) ?h63 ?hby ?hbs ?_
  case h63 => (unfold maxLen; omega)
  case hby => omega
  case hbs => first | omega | (simp; omega)
  intro g cap W2 own gr hg hlt
  have HO8 := Lib.hid own
  have HG8 := Lib.hid gr
  have HL8 := Lib.hid hg
  have HS8 := Lib.hid (show W2.heap[pb]? = w.heap[pb]? from by
    rw [gr.block pb (by simp; omega) (fun e => by have := row_ne_blk HP3.out.tor HP3.out.pr (by decide); rw [htv] at this; exact this e.symm)]
    exact HS4.out)
  clear own gr hg hlt
  refine ⟨.inr HS8.out, ?_⟩
  (try simp only [Act.put, List.setIfInBounds_toArray, List.set_cons_zero, List.set_cons_succ])
  refine wpAnyZ_take [18] (i := 17) (v := ?v17) (by simp only [List.getElem?_toArray, List.getElem?_cons_succ, List.getElem?_cons_zero]; rfl) (by decide +kernel) (fun _ _ _ h => h) (by rfl) ?t17 ?s17 ?_
  case t17 => (intro w' h; have FK := HSS.out w' h; clear h; go_split_ands; go_simp; try rfl)
  case s17 => exact HS8.out
  (try simp only [Act.put, List.setIfInBounds_toArray, List.set_cons_zero, List.set_cons_succ])
  refine wpAnyZ_take [] (i := 18) (v := ?v18) (by simp only [List.getElem?_toArray, List.getElem?_cons_succ, List.getElem?_cons_zero]; rfl) (by decide +kernel) (fun _ _ _ h => h) (by rfl) ?t18 ?s18 ?_
  case t18 => (intro w' h; clear h; go_simp; try rfl)
  case s18 => exact HS8.out
  (try simp only [Act.put, List.setIfInBounds_toArray, List.set_cons_zero, List.set_cons_succ])
  obtain ⟨zp8, d0, d1, d2, d3, fz8⟩ := HSS.out W2 HS8.out
  refine wpAnyZ_one (i := 19) (by decide +kernel) ?_
  refine wpOpK_skip (w' := W2.setCell ⟨pb, 2, none⟩ (.slice (some ⟨g, 0, none⟩) (s.told.length + 2) cap)) (by simp only [List.getElem?_toArray, List.getElem?_cons_succ, List.getElem?_cons_zero]; rfl) (by rfl) ?m19 ⟨.inl rfl, ?_⟩
  case m19 => (go_simp; try rfl)
  (try simp only [Act.put, List.setIfInBounds_toArray, List.set_cons_zero, List.set_cons_succ])
  refine wpAnyZ_done (by kernel_rfl) (NoPanic.normal ?_) _
  have HX8 := Lib.hid (show W2.heap[pb]? = some (.cells #[.pointer (some ⟨s.g, 0, none⟩), .pointer (some ⟨s.rg, 0, none⟩), .slice pt s.told.length ct, .slice pw s.told.length cw] 94 (0, 0)) from by have := HS8.out.trans HP.out.pr; rwa [htv, hwv] at this)
  have HW9 := Lib.hid (show (W2.setCell ⟨pb, 2, none⟩ (.slice (some ⟨g, 0, none⟩) (s.told.length + 2) cap)).ownsRow base 67 1 (.slice pw s.told.length cw) s.told.length (s.told.map (·.k)) from by
    have h0 := HP3.out.wor
    rw [hwv] at h0
    have h1 := row_later h0 (below_al (Below.refl w3.heap.size w3) (.cells #[.slice p4 s.H k4, .slice p5 s.H k5] 67))
    have h2 := h1.kept HG8.out (by
      have h3 := HP3.out.tw
      rw [htv, hwv] at h3
      cases hq : (Value.slice pw s.told.length cw).ownBlock with
      | none => exact .inl rfl
      | some k => exact .inr fun e => h3.elim (fun h4 => by rw [h4] at e; cases e) (fun h4 => h4 (e.symm.trans hq.symm)))
    exact h2.kept (only_setCell (only_refl W2 (some pb)) (p := ⟨pb, 2, none⟩) (.inl rfl) _) (.inr (row_ne_blk h2 HX8.out (by decide))))
  have hz8 := HG8.out.size
  rw [World.size_alloc] at hz8
  obtain ⟨w9, hw9⟩ : ∃ z, z = W2.setCell ⟨pb, 2, none⟩ (.slice (some ⟨g, 0, none⟩) (s.told.length + 2) cap) := ⟨_, rfl⟩
  rw [← hw9]
  rw [← hw9] at HW9
  have x9 : w9.heap[pb]? = some (.cells #[.pointer (some ⟨s.g, 0, none⟩), .pointer (some ⟨s.rg, 0, none⟩), .slice (some ⟨g, 0, none⟩) (s.told.length + 2) cap, .slice pw s.told.length cw] 94 (0, 0)) := by rw [hw9]; exact set_blk HX8.out 2 _
  have y9 := lt_of_block x9
  have e3 : w9.cell? ⟨pb, 3, none⟩ = some (.slice pw s.told.length cw) := by rw [cell_of_row _ _ _ _ _ _ x9]; rfl
  have HX9 := Lib.hid x9
  have hz9 : w3.heap.size < w9.heap.size := by rw [hw9]; simp; omega
  have HQ9 := Lib.hid hw9
  clear x9 hw9 zp8 d0 d1 d2 d3 fz8 HSD HS4 HON HTO
  have hbw9 : base ≤ w9.heap.size := by omega
  go_wp2_with (at_builtin; go_must (refine append_keep rfl (.tmp 40) (.tmp 43) 92 rfl base 67 i0 _ 1 24 Try.underlying92 HI.out.1 HI.out.2.1 HI.out.2.2.1 HI.out.2.2.2 rfl (by decide) _ s.told.length _ rfl (HW9.out.alloc _) ⟨w9.heap.size, 0, none⟩ 2 2 [.slice p6 s.H k6, .slice p6 s.H k6] rfl rfl ?d1 ?d2 ?d3 ?d4 ?d5 ?_))
  (try case d1 => exact World.news_of_block (cs := #[.slice p6 s.H k6, .slice p6 s.H k6]) (t := 67) (fr := (0, 0)) (heap_alloc_new _ _))
  (try case d2 => first | rfl | (intro u hu; simp at hu; subst hu; rfl))
  case d3 => unfold maxLen; omega
  case d4 => omega
  case d5 => first | omega | (simp; omega)
  intro v7 w6 own6 gr6 pl6
  obtain ⟨g6, cc6, rfl⟩ : ∃ g c, v7 = .slice (some ⟨g, 0, none⟩) (s.told.length + 2) c := by
    rcases row_form own6 with ⟨_, h, _⟩ | ⟨g, c, h, _⟩
    · omega
    · exact ⟨g, c, h⟩
  have x6 : w6.heap[pb]? = some (.cells #[.pointer (some ⟨s.g, 0, none⟩), .pointer (some ⟨s.rg, 0, none⟩), .slice (some ⟨g, 0, none⟩) (s.told.length + 2) cap, .slice pw s.told.length cw] 94 (0, 0)) := by
    rw [gr6.block pb (by simp; omega) (fun e => by have := row_ne_blk HP3.out.wor HP3.out.pr (by decide); rw [hwv] at this; exact this e.symm)]
    exact (heap_alloc_old _ _ y9).trans HX9.out
  have y6 := lt_of_block x6
  have e6 : w6.cell? ⟨pb, 3, none⟩ = some (.slice pw s.told.length cw) := by rw [cell_of_row _ _ _ _ _ _ x6]; rfl
  have fz6 : w6.frozen? ⟨pb, 3, none⟩ = false := frozen_of_row _ _ _ _ _ x6
  have HO10 := Lib.hid own6
  have HG10 := Lib.hid gr6
  have HL10 := Lib.hid pl6
  clear own6 gr6 pl6 x6 e3 y9
  go_upto_region 4 with (fail)
  obtain ⟨w7, hw7⟩ : ∃ z, z = w6.setCell ⟨pb, 3, none⟩ (.slice (some ⟨g6, 0, none⟩) (s.told.length + 2) cc6) := ⟨_, rfl⟩
  rw [← hw7]
  have hlen : (rowsN s.W M s.H).length = s.H := by simp [rowsN]
  have A4 := row_later (row_later HO4.out HB3.out) (Below.refl _ _)
  have A5 := HO5.out
  have A6 := row_later (row_later HO6.out HB2.out) HB3.out
  obtain ⟨es, hes⟩ : ∃ es : List Tld, es = [⟨.slice p4 s.H k4, .slice p6 s.H k6, rowsN s.W M s.H⟩, ⟨.slice p5 s.H k5, .slice p6 s.H k6, rowsN s.W M s.H⟩] := ⟨_, rfl⟩
  have TELL := PairAt.tells (o1 := .cells #[.slice p4 s.H k4, .slice p5 s.H k5] 67) (o2 := .cells #[.slice p6 s.H k6, .slice p6 s.H k6] 67) (w3 := w3) (w4 := W2) (w6 := w6) (tv' := .slice (some ⟨g, 0, none⟩) (s.told.length + 2) cap) (wv' := .slice (some ⟨g6, 0, none⟩) (s.told.length + 2) cc6) es HP3.out
    (by rw [hes]; intro e he; simp only [List.mem_cons, List.not_mem_nil, or_false] at he; rcases he with rfl | rfl <;> (simp only; rw [hlen]; first | exact row_baseG A4 (by omega) | exact row_baseG A5 (by omega)))
    (by rw [hes]; intro e he; simp only [List.mem_cons, List.not_mem_nil, or_false] at he; rcases he with rfl | rfl <;> (simp only; rw [hlen]; exact row_baseG A6 hbw))
    (by rw [hes]; intro e he k hk hsp; have h2 := (HP.out.lt k hsp).1; simp only [List.mem_cons, List.not_mem_nil, or_false] at he; rcases he with rfl | rfl <;> (first | (have := (row_lt A4 k hk).2; omega) | (have := (row_lt A5 k hk).2; omega)))
    (by rw [hes]; intro e he k hk hsp; have h2 := (HP.out.lt k hsp).1; simp only [List.mem_cons, List.not_mem_nil, or_false] at he; rcases he with rfl | rfl <;> (have := (row_lt A6 k hk).2; omega))
    (by rw [hes]; refine List.pairwise_pair.2 ?_; refine (Classical.em _).imp id fun hne e => ?_; cases hq : (Value.slice p4 s.H k4).ownBlock with | none => exact hne hq | some k => (have h1 := (row_lt HO4.out k hq).1; have h2 := (row_lt A5 k (e.symm.trans hq)).2; omega))
    (by
      have h6 : ∀ k, (Value.slice p6 s.H k6).ownBlock = some k → k < w1.heap.size := fun k hk => (row_lt HO6.out k hk).1
      rw [hes]; intro a ha b hb; simp only [List.mem_cons, List.not_mem_nil, or_false] at ha hb
      have eb : b.k = .slice p6 s.H k6 := by rcases hb with rfl | rfl <;> rfl
      rw [eb]; refine (Classical.em _).imp id fun hne e => ?_
      rcases ha with rfl | rfl
      · cases hq : (Value.slice p4 s.H k4).ownBlock with | none => exact hne hq | some k => (have h1 := h6 k (e.symm.trans hq); have h2 := (row_lt A4 k hq).2; have : w1.drew.heap.size = w1.heap.size := rfl; omega)
      · cases hq : (Value.slice p5 s.H k5).ownBlock with | none => exact hne hq | some k => (have h1 := h6 k (e.symm.trans hq); have h2 := (row_lt A5 k hq).2; omega))
    (by rw [hes]; intro e he; simp only [List.mem_cons, List.not_mem_nil, or_false] at he; rcases he with rfl | rfl <;> exact ⟨txt_rows _ _ _, by simp only; omega⟩)
    (by rw [hes]; exact HO8.out) (by rw [htv]; exact HG8.out) (by rw [htv]; exact HL8.out.imp (fun h => h.symm) fun h => ⟨_, rfl, by show w3.heap.size ≤ g; have h3 := h; rw [World.size_alloc] at h3; omega⟩)
    (by rw [hes]; exact HO10.out) (by rw [hwv, ← HQ9.out]; exact HG10.out) (by rw [hwv]; exact HL10.out.imp id fun h => ⟨_, h.1, by have := congrArg (fun z => z.heap.size) HQ9.out; simp at this ⊢; omega⟩)
  obtain ⟨T1, T2⟩ := TELL
  rw [← hw7] at T1 T2
  have HC7 := Lib.hid (show Chg w w7 (SP pb s) from by
    have c0 := Chg.of_below (below_via HB3.out (below_via HB2.out HB1.out)) (SP pb s)
    exact c0.trans T2 (fun k hk => .inl (by
      rcases hk with e | e | e
      · exact .inl e
      · exact .inr (.inr (.inr (.inr (.inr (.inl e)))))
      · exact .inr (.inr (.inr (.inr (.inr (.inr (.inl e)))))))))
  obtain ⟨s', hs'⟩ : ∃ s' : PairS, s' = { s with tv := .slice (some ⟨g, 0, none⟩) (s.told.length + 2) cap, wv := .slice (some ⟨g6, 0, none⟩) (s.told.length + 2) cc6, told := s.told ++ es } := ⟨_, rfl⟩
  rw [← hs'] at T1
  have HST := Lib.hid (show ∀ k, ST s' k → SP pb s k ∨ w.heap.size ≤ k from by
    rw [hs']
    rintro k ⟨e, he, hk⟩
    rcases List.mem_append.1 he with he | he
    · exact .inl (.inr (.inr (.inr (.inr (.inr (.inr (.inr ⟨e, he, .inl hk⟩)))))))
    · rw [hes] at he
      simp only [List.mem_cons, List.not_mem_nil, or_false] at he
      rcases he with rfl | rfl
      · exact .inr (by have := (row_lt A4 k hk).2; omega)
      · exact .inr (by have := (row_lt A5 k hk).2; omega))
  have HWT := Lib.hid (show ∃ e ∈ s'.told, e.k = .slice p6 s'.H k6 ∧ e.x = rowsN s'.W M s'.H from by rw [hs']; exact ⟨⟨.slice p4 s.H k4, .slice p6 s.H k6, rowsN s.W M s.H⟩, List.mem_append.2 (.inr (by rw [hes]; simp)), rfl, rfl⟩)
  have HMM2 := Lib.hid (show M = layL s'.W s'.H s'.ts (List.replicate (s'.W * s'.H) zA) from by rw [hs']; exact HMM.out)
  have htv2 : s'.tv = .slice (some ⟨g, 0, none⟩) (s.told.length + 2) cap := by rw [hs']
  have hwv2 : s'.wv = .slice (some ⟨g6, 0, none⟩) (s.told.length + 2) cc6 := by rw [hs']
  have hN2 : s'.told.length = s.told.length + 2 := by rw [hs', hes]; simp
  have hH2 : s'.H = s.H := by rw [hs']
  have HP7 := Lib.hid T1
  obtain ⟨N, hN⟩ : ∃ N, N = s.told.length + 2 := ⟨_, rfl⟩
  have hb7 : base ≤ w7.heap.size := Nat.le_trans hbw HC7.out.size
  rw [← hN] at htv2 hwv2 hN2
  rw [← hH2]
  clear T1 T2 hs' hw7 A4 A5 A6 hes hlen HI HSS HME HMM HB1 HO6 hs1 HS1 HO4 HB2 hs2 HS2 HO5 HB3 hs3 HS3 HP2 HP3 zp3 HX8 HW9 hz8 HX9 hz9 HQ9 hbw9 y6 e6 fz6 HO8 HG8 HL8 HS8 HO10 HG10 HL10 HPd htv hwv
  (repeat (rename_i hh; revert hh))
  revert i0 pt ct pw cw w1 w2 p4 k4 w3 p5 k5 W2 w9 w6 M p6 k6 g cap g6 cc6 w7 HC7 s' HST HWT HMM2 htv2 hwv2 hN2 hH2 HP7 N hN hb7
  exact hP.out⟩
end Go.Proofs.Ytebalohoblaedaa
