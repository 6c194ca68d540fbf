/- TreeFind: the walk. -/
import Derived.Test.YtcihihncgpddfaaLwA
import Derived.Test.YtcihihncgpddfaaAnyH
import Derived.Test.YtcihihncgpddfaaOdD
namespace Go.Proofs.Ytcihihncgpddfaa
open Go.RowKit Go.Deep
set_option linter.unusedVariables false
set_option linter.unusedSimpArgs false

set_option maxRecDepth 100000 in
set_option maxHeartbeats 8000000 in
theorem TreeFind_walk (pt : Option Addr) (ct : Nat) (T : List Nd) (id : ByteArray) (w : World) (hT : TreeAt w (.slice pt T.length ct) T) (hD : ∀ x ∈ T, NdDeep x) (hid : id.size ≤ 9223372036854775807) : Calls Try.prog 10 #[.agg #[.slice pt T.length ct], .string id] w fun e w' => e = .returned (.bool true) ∧ Below w.heap.size w w' := by
  have HOK := Lib.hid hT.ok
  obtain ⟨w1, hw1⟩ : ∃ x, x = w.alloc (.cells #[.slice pt T.length ct] 24) := ⟨_, rfl⟩
  have B1 : Below w.heap.size w w1 := by rw [hw1]; exact below_al (Below.refl _ _) _
  have c1 : w1.cell? ⟨w.heap.size, 0, none⟩ = some (.slice pt T.length ct) := by rw [hw1]; simp [go_sem]
  have z1 : w.heap.size < w1.heap.size := by rw [hw1]; simp <;> omega
  have HT1 := Lib.hid (hT.later B1)
  have HB1 := Lib.hid B1
  obtain ⟨tb, htb⟩ : ∃ x, x = w.heap.size := ⟨_, rfl⟩
  have HC1 := Lib.hid c1
  have HCC := Lib.hid (fun w' (h : Below w1.heap.size w1 w') => show w'.cell? ⟨tb, 0, none⟩ = some (.slice pt T.length ct) by rw [htb, (bcell h).1 _ _ z1]; exact HC1.out)
  have HZZ := Lib.hid (fun w' (h : Below w1.heap.size w1 w') => show tb < w'.heap.size by have := h.size; omega)
  have HNB := Lib.hid (beyond_any pt ct T w1 HT1.out hD)
  rw [← htb] at c1 z1
  clear B1 hT hD
  go_enter Try.func10, Try.ntmps10
  go_upto_region 1 with (fail)
  rw [← hw1, ← htb]
  clear hw1 htb
  go_wp2_with fail
  refine HNB.out.mono ?_
  clear HNB
  rintro e w2 ⟨rfl, hb2⟩
  have c2 := HCC.out w2 hb2
  have z2 := HZZ.out w2 hb2
  have HB2 := Lib.hid hb2
  clear c1 z1 hb2
  by_cases hbig : 134217728 < sumW T
  · rw [decide_eq_true hbig]
    go_wp2
    go_ret
    exact ⟨rfl, below_via HB2.out HB1.out⟩
  · rw [decide_eq_false hbig]
    have HNK := Lib.hid (not_beyond hbig)
    clear hbig
    go_wp2_with fail
    refine (lent_any pt ct T w2 (HT1.out.later HB2.out) HNK.out.1 HNK.out.2).mono ?_
    rintro e wl ⟨tv, full, vk, vc, rfl, LA, hbl⟩
    obtain ⟨g, cg, qk, dk, qc, dc, rfl, rfl, rfl, rfl⟩ := LA.forms
    obtain ⟨w4, hw4⟩ : ∃ x, x = wl.alloc (.cells #[.slice (some ⟨g, 0, none⟩) T.length cg, .slice (some ⟨g, 0, none⟩) (T.length + 2) cg, .slice qk T.length dk, .slice qc T.length dc] 29) := ⟨_, rfl⟩
    have Bl4 : Below wl.heap.size wl w4 := by rw [hw4]; exact below_al (Below.refl _ _) _
    have HB4 := Lib.hid (below_via Bl4 (below_via hbl HB2.out))
    have HL4 := Lib.hid (LA.later Bl4)
    obtain ⟨xb, hxb⟩ : ∃ x, x = wl.heap.size := ⟨_, rfl⟩
    have HXK := Lib.hid (show w4.heap[xb]? = some (.cells #[.slice (some ⟨g, 0, none⟩) T.length cg, .slice (some ⟨g, 0, none⟩) (T.length + 2) cg, .slice qk T.length dk, .slice qc T.length dc] 29 (0, 0)) by rw [hw4, hxb]; exact heap_alloc_new _ _)
    have HXC := Lib.hid (fun w' (h : Below w4.heap.size w4 w') => show w'.cell? ⟨xb, 0, none⟩ = some (.slice (some ⟨g, 0, none⟩) T.length cg) ∧ w'.cell? ⟨xb, 1, none⟩ = some (.slice (some ⟨g, 0, none⟩) (T.length + 2) cg) ∧ w'.cell? ⟨xb, 2, none⟩ = some (.slice qk T.length dk) ∧ w'.cell? ⟨xb, 3, none⟩ = some (.slice qc T.length dc) ∧ xb < w'.heap.size from by
      have hx := (h.block _ (lt_of_block HXK.out)).trans HXK.out
      exact ⟨blk_cell (cs := [.slice (some ⟨g, 0, none⟩) T.length cg, .slice (some ⟨g, 0, none⟩) (T.length + 2) cg, .slice qk T.length dk, .slice qc T.length dc]) hx rfl, blk_cell (cs := [.slice (some ⟨g, 0, none⟩) T.length cg, .slice (some ⟨g, 0, none⟩) (T.length + 2) cg, .slice qk T.length dk, .slice qc T.length dc]) hx rfl, blk_cell (cs := [.slice (some ⟨g, 0, none⟩) T.length cg, .slice (some ⟨g, 0, none⟩) (T.length + 2) cg, .slice qk T.length dk, .slice qc T.length dc]) hx rfl, blk_cell (cs := [.slice (some ⟨g, 0, none⟩) T.length cg, .slice (some ⟨g, 0, none⟩) (T.length + 2) cg, .slice qk T.length dk, .slice qc T.length dc]) hx rfl, lt_of_block hx⟩)
    obtain ⟨x4, -, -, -, y4⟩ := HXC.out w4 (Below.refl _ _)
    clear c2 z2 Bl4 hbl LA
    go_upto_region 4 with (fail)
    rw [← hw4, ← hxb]
    clear hw4 hxb
    have HLT := Lib.hid (HL4.out.at_ HOK.out)
    have HS4 := Lib.hid (Below.drew (Below.refl w4.heap.size w4))
    have HF := Lib.hid (fun w' (h : Below w4.heap.size w4 w') => show (w'.cell? ⟨tb, 0, none⟩ = some (.slice pt T.length ct) ∧ w'.cell? ⟨xb, 0, none⟩ = some (.slice (some ⟨g, 0, none⟩) T.length cg)) ∧ tb < w'.heap.size ∧ xb < w'.heap.size from ⟨⟨HCC.out w' (below_via h HB4.out), (HXC.out w' h).1⟩, HZZ.out w' (below_via h HB4.out), (HXC.out w' h).2.2.2.2⟩)
    clear x4 y4
    have HF4 := Lib.hid (fun w' (h : Below w4.heap.size w4 w') => (HF.out w' h).1)
    obtain ⟨r, hr⟩ : ∃ r, r = findR T id := ⟨_, rfl⟩
    have F1 := Lib.hid (fun w' (h : Below w4.heap.size w4 w') => show Calls Try.prog 29 #[.agg #[.slice (some ⟨g, 0, none⟩) T.length cg], .string id] w' (fun e w'' => e = .returned (.int .i64 r) ∧ Below w'.heap.size w' w'') from by rw [hr]; exact tree_Find_any _ _ T id w' (HLT.out.later h) hid)
    have F2 := Lib.hid (fun w' (h : Below w4.heap.size w4 w') => show Calls Try.prog 30 #[.agg #[.slice pt T.length ct], .string id] w' (fun e w'' => e = .returned (.int .i64 r) ∧ Below w'.heap.size w' w'') from by rw [hr]; exact ref_Find_any _ _ T id w' (HT1.out.later (below_via h HB4.out)) hid)
    have b1 : (r == r) = true := by rw [beq_iff_eq]
    clear hr
    refine wp_region_noPanic ?_
    refine wp_region_held (S := fun w' => Below w4.heap.size w4 w') (by kernel_rfl) ?_
    change wpAnyH _ _ _ _ _ 8 (Array.replicate 8 false) _ _
    refine wpAnyH_take (i := 0) (v := ?v0) (by simp only [List.getElem?_toArray, List.getElem?_cons_succ, List.getElem?_cons_zero]; rfl) (by kernel_rfl) (by kernel_rfl) (by kernel_rfl) (fun _ _ _ h => h) (.inl ⟨by rfl, ?t0⟩) ?s0 ?_
    case t0 => (intro w' h; clear h; go_simp; try rfl)
    case s0 => exact HS4.out
    (try simp only [Act.put, List.setIfInBounds_toArray, List.set_cons_zero, List.set_cons_succ])
    refine wpAnyH_take (i := 1) (v := ?v1) (by simp only [List.getElem?_toArray, List.getElem?_cons_succ, List.getElem?_cons_zero]; rfl) (by kernel_rfl) (by kernel_rfl) (by kernel_rfl) (fun _ _ _ h => h) (.inl ⟨by rfl, ?t1⟩) ?s1 ?_
    case t1 => (intro w' h; have FK := HF.out w' h; clear h; go_split_ands; go_simp; try rfl)
    case s1 => exact HS4.out
    (try simp only [Act.put, List.setIfInBounds_toArray, List.set_cons_zero, List.set_cons_succ])
    refine wpAnyH_take (i := 2) (v := ?v2) (by simp only [List.getElem?_toArray, List.getElem?_cons_succ, List.getElem?_cons_zero]; rfl) (by kernel_rfl) (by kernel_rfl) (by kernel_rfl) (fun _ _ _ h => h) (.inl ⟨by rfl, ?t2⟩) ?s2 ?_
    case t2 => (intro w' h; clear h; go_simp; try rfl)
    case s2 => exact HS4.out
    (try simp only [Act.put, List.setIfInBounds_toArray, List.set_cons_zero, List.set_cons_succ])
    refine wpAnyH_take (i := 4) (v := ?v4) (by simp only [List.getElem?_toArray, List.getElem?_cons_succ, List.getElem?_cons_zero]; rfl) (by kernel_rfl) (by kernel_rfl) (by kernel_rfl) (fun _ _ _ h => h) (.inl ⟨by rfl, ?t4⟩) ?s4 ?_
    case t4 => (intro w' h; have FK := HF.out w' h; clear h; go_split_ands; go_simp; try rfl)
    case s4 => exact HS4.out
    (try simp only [Act.put, List.setIfInBounds_toArray, List.set_cons_zero, List.set_cons_succ])
    refine wpAnyH_take (i := 5) (v := ?v5) (by simp only [List.getElem?_toArray, List.getElem?_cons_succ, List.getElem?_cons_zero]; rfl) (by kernel_rfl) (by kernel_rfl) (by kernel_rfl) (fun _ _ _ h => h) (.inl ⟨by rfl, ?t5⟩) ?s5 ?_
    case t5 => (intro w' h; clear h; go_simp; try rfl)
    case s5 => exact HS4.out
    (try simp only [Act.put, List.setIfInBounds_toArray, List.set_cons_zero, List.set_cons_succ])
    refine wpAnyH_one (i := 3) (by kernel_rfl) ?_
    refine wpOp_call (by simp only [List.getElem?_toArray, List.getElem?_cons_succ, List.getElem?_cons_zero]; rfl) (by rfl) (by go_simp; first | exact ⟨rfl, rfl⟩ | rfl) ?_
    refine (F1.out _ HS4.out).mono ?_
    rintro e w5 ⟨rfl, hb⟩
    have H5 := Lib.hid (below_via hb HS4.out)
    clear hb
    refine ⟨_, rfl, H5.out, ?_⟩
    (try simp only [Act.put, List.setIfInBounds_toArray, List.set_cons_zero, List.set_cons_succ])
    refine wpAnyH_one (i := 6) (by kernel_rfl) ?_
    refine wpOp_call (by simp only [List.getElem?_toArray, List.getElem?_cons_succ, List.getElem?_cons_zero]; rfl) (by rfl) (by go_simp; first | exact ⟨rfl, rfl⟩ | rfl) ?_
    refine (F2.out _ H5.out).mono ?_
    rintro e w6 ⟨rfl, hb⟩
    have H6 := Lib.hid (below_via hb H5.out)
    clear hb
    refine ⟨_, rfl, H6.out, ?_⟩
    (try simp only [Act.put, List.setIfInBounds_toArray, List.set_cons_zero, List.set_cons_succ])
    refine wpAnyH_take (i := 7) (v := ?v7) (by simp only [List.getElem?_toArray, List.getElem?_cons_succ, List.getElem?_cons_zero]; rfl) (by kernel_rfl) (by kernel_rfl) (by kernel_rfl) (fun _ _ _ h => h) (.inl ⟨by rfl, ?t7⟩) ?s7 ?_
    case t7 => (intro w' h; clear h; go_simp; try rfl)
    case s7 => exact H6.out
    (try simp only [Act.put, List.setIfInBounds_toArray, List.set_cons_zero, List.set_cons_succ])
    refine wpAnyH_done (by kernel_rfl) (NoPanic.normal ?_) _
    have HM5 := Lib.hid H6.out
    clear HS4 H5 H6 F1 F2 HF4 b1
    obtain ⟨⟨c5, x5⟩, z5, y5⟩ := HF.out w6 HM5.out
    go_upto_region 6 with (fail)
    go_wp2
    go_loopw [6] (fun iv wr => ∃ k : Nat, k ≤ T.length ∧ iv = .int .i64 k ∧ RowKit.Hid (Below w4.heap.size w4 wr)) (fun iv _ => T.length - (intOf iv).toNat)
    case atStart => exact ⟨0, Nat.zero_le _, rfl, HM5⟩
    case round =>
      clear HM5 c5 x5 z5 y5
      obtain ⟨k, hk, rfl, BW⟩ := hrel
      obtain ⟨⟨c5, x5⟩, z5, y5⟩ := HF.out wr BW.out
      have hlen := HT1.out.len
      rcases (show (k < T.length ∧ k < 40) ∨ ¬ (k < T.length ∧ k < 40) by omega) with ⟨hlt, h40⟩ | hend
      · have hki : (k : Int) < (T.length : Int) := by omega
        have h40i : (k : Int) < 40 := by omega
        obtain ⟨_, _, p', c', e, _, _, hnd⟩ := HT1.out
        injection e with e1 _ e2
        subst e1 e2
        obtain ⟨b, off, rfl, hb, hnd⟩ := hnd (by omega)
        have BWW := Lib.hid (below_via BW.out HB4.out)
        obtain ⟨kv, cv, hkv, hcv, hc⟩ := (hnd k hlt).later BWW.out (Nat.le_refl _) hb
        have hmem : T.getD k zNd ∈ T := by rw [List.getD_eq_getElem?_getD, List.getElem?_eq_getElem hlt]; exact List.getElem_mem hlt
        have hxid := (HOK.out _ hmem).id
        have a1 : wr.cell? ⟨b, off + k * 34 + 1, none⟩ = some (.string (T.getD k zNd).id) := hc 1 (by omega)
        generalize (T.getD k zNd).id = jd at hxid a1
        have A1 := Lib.hid a1
        have hbw : b < wr.heap.size := by have := BWW.out.size; omega
        obtain ⟨r, hr⟩ : ∃ r, r = findR T jd := ⟨_, rfl⟩
        have HG := Lib.hid (fun w' (h : Below wr.heap.size wr w') => show (w'.cell? ⟨tb, 0, none⟩ = some (.slice (some ⟨b, off, none⟩) T.length ct) ∧ w'.cell? ⟨xb, 0, none⟩ = some (.slice (some ⟨g, 0, none⟩) T.length cg) ∧ w'.cell? ⟨b, off + k * 34 + 1, none⟩ = some (.string jd)) ∧ (tb < w'.heap.size ∧ xb < w'.heap.size ∧ b < w'.heap.size) from by
          have h1 := HF.out w' (below_via h BW.out)
          exact ⟨⟨h1.1.1, h1.1.2, by rw [(bcell h).1 _ _ hbw]; exact A1.out⟩, h1.2.1, h1.2.2, by have := h.size; omega⟩)
        have F1 := Lib.hid (fun w' (h : Below wr.heap.size wr w') => show Calls Try.prog 29 #[.agg #[.slice (some ⟨g, 0, none⟩) T.length cg], .string jd] w' (fun e w'' => e = .returned (.int .i64 r) ∧ Below w'.heap.size w' w'') from by rw [hr]; exact tree_Find_any _ _ T jd w' (HLT.out.later (below_via h BW.out)) hxid)
        have F2 := Lib.hid (fun w' (h : Below wr.heap.size wr w') => show Calls Try.prog 30 #[.agg #[.slice (some ⟨b, off, none⟩) T.length ct], .string jd] w' (fun e w'' => e = .returned (.int .i64 r) ∧ Below w'.heap.size w' w'') from by rw [hr]; exact ref_Find_any _ _ T jd w' (HT1.out.later (below_via h BWW.out)) hxid)
        have b1 : (r == r) = true := by rw [beq_iff_eq]
        clear hr hc hkv hcv hnd hmem a1
        go_upto_region 9 with (fail)
        clear c5 x5 z5 y5
        have HS9 := Lib.hid (Below.drew (Below.refl wr.heap.size wr))
        refine wp_region_noPanic ?_
        refine wp_region_held (S := fun w' => Below wr.heap.size wr w') (by kernel_rfl) ?_
        change wpAnyH _ _ _ _ _ 18 (Array.replicate 18 false) _ _
        refine wpAnyH_take (i := 0) (v := ?vq0) (by simp only [List.getElem?_toArray, List.getElem?_cons_succ, List.getElem?_cons_zero]; rfl) (by kernel_rfl) (by kernel_rfl) (by kernel_rfl) (fun _ _ _ h => h) (.inl ⟨by rfl, ?tq0⟩) ?sq0 ?_
        case tq0 => (intro w' h; clear h; go_simp; try rfl)
        case sq0 => exact HS9.out
        (try simp only [Act.put, List.setIfInBounds_toArray, List.set_cons_zero, List.set_cons_succ])
        refine wpAnyH_take (i := 1) (v := ?vq1) (by simp only [List.getElem?_toArray, List.getElem?_cons_succ, List.getElem?_cons_zero]; rfl) (by kernel_rfl) (by kernel_rfl) (by kernel_rfl) (fun _ _ _ h => h) (.inl ⟨by rfl, ?tq1⟩) ?sq1 ?_
        case tq1 => (intro w' h; have FK := HG.out w' h; clear h; go_split_ands; go_simp; try rfl)
        case sq1 => exact HS9.out
        (try simp only [Act.put, List.setIfInBounds_toArray, List.set_cons_zero, List.set_cons_succ])
        refine wpAnyH_take (i := 2) (v := ?vq2) (by simp only [List.getElem?_toArray, List.getElem?_cons_succ, List.getElem?_cons_zero]; rfl) (by kernel_rfl) (by kernel_rfl) (by kernel_rfl) (fun _ _ _ h => h) (.inl ⟨by rfl, ?tq2⟩) ?sq2 ?_
        case tq2 => (intro w' h; clear h; go_simp; try rfl)
        case sq2 => exact HS9.out
        (try simp only [Act.put, List.setIfInBounds_toArray, List.set_cons_zero, List.set_cons_succ])
        refine wpAnyH_take (i := 3) (v := ?vq3) (by simp only [List.getElem?_toArray, List.getElem?_cons_succ, List.getElem?_cons_zero]; rfl) (by kernel_rfl) (by kernel_rfl) (by kernel_rfl) (fun _ _ _ h => h) (.inl ⟨by rfl, ?tq3⟩) ?sq3 ?_
        case tq3 => (intro w' h; have FK := HG.out w' h; clear h; go_split_ands; go_simp; try rfl)
        case sq3 => exact HS9.out
        (try simp only [Act.put, List.setIfInBounds_toArray, List.set_cons_zero, List.set_cons_succ])
        refine wpAnyH_take (i := 4) (v := ?vq4) (by simp only [List.getElem?_toArray, List.getElem?_cons_succ, List.getElem?_cons_zero]; rfl) (by kernel_rfl) (by kernel_rfl) (by kernel_rfl) (fun _ _ _ h => h) (.inl ⟨by rfl, ?tq4⟩) ?sq4 ?_
        case tq4 => (intro w' h; clear h; go_simp; try rfl)
        case sq4 => exact HS9.out
        (try simp only [Act.put, List.setIfInBounds_toArray, List.set_cons_zero, List.set_cons_succ])
        refine wpAnyH_take (i := 5) (v := ?vq5) (by simp only [List.getElem?_toArray, List.getElem?_cons_succ, List.getElem?_cons_zero]; rfl) (by kernel_rfl) (by kernel_rfl) (by kernel_rfl) (fun _ _ _ h => h) (.inl ⟨by rfl, ?tq5⟩) ?sq5 ?_
        case tq5 => (intro w' h; clear h; go_simp; try rfl)
        case sq5 => exact HS9.out
        (try simp only [Act.put, List.setIfInBounds_toArray, List.set_cons_zero, List.set_cons_succ])
        refine wpAnyH_take (i := 6) (v := ?vq6) (by simp only [List.getElem?_toArray, List.getElem?_cons_succ, List.getElem?_cons_zero]; rfl) (by kernel_rfl) (by kernel_rfl) (by kernel_rfl) (fun _ _ _ h => h) (.inl ⟨by rfl, ?tq6⟩) ?sq6 ?_
        case tq6 => (intro w' h; clear h; go_simp; try rfl)
        case sq6 => exact HS9.out
        (try simp only [Act.put, List.setIfInBounds_toArray, List.set_cons_zero, List.set_cons_succ])
        refine wpAnyH_take (i := 7) (v := ?vq7) (by simp only [List.getElem?_toArray, List.getElem?_cons_succ, List.getElem?_cons_zero]; rfl) (by kernel_rfl) (by kernel_rfl) (by kernel_rfl) (fun _ _ _ h => h) (.inl ⟨by rfl, ?tq7⟩) ?sq7 ?_
        case tq7 => (intro w' h; have FK := HG.out w' h; clear h; go_split_ands; go_simp; try rfl)
        case sq7 => exact HS9.out
        (try simp only [Act.put, List.setIfInBounds_toArray, List.set_cons_zero, List.set_cons_succ])
        refine wpAnyH_take (i := 9) (v := ?vq9) (by simp only [List.getElem?_toArray, List.getElem?_cons_succ, List.getElem?_cons_zero]; rfl) (by kernel_rfl) (by kernel_rfl) (by kernel_rfl) (fun _ _ _ h => h) (.inl ⟨by rfl, ?tq9⟩) ?sq9 ?_
        case tq9 => (intro w' h; have FK := HG.out w' h; clear h; go_split_ands; go_simp; try rfl)
        case sq9 => exact HS9.out
        (try simp only [Act.put, List.setIfInBounds_toArray, List.set_cons_zero, List.set_cons_succ])
        refine wpAnyH_take (i := 10) (v := ?vq10) (by simp only [List.getElem?_toArray, List.getElem?_cons_succ, List.getElem?_cons_zero]; rfl) (by kernel_rfl) (by kernel_rfl) (by kernel_rfl) (fun _ _ _ h => h) (.inl ⟨by rfl, ?tq10⟩) ?sq10 ?_
        case tq10 => (intro w' h; clear h; go_simp; try rfl)
        case sq10 => exact HS9.out
        (try simp only [Act.put, List.setIfInBounds_toArray, List.set_cons_zero, List.set_cons_succ])
        refine wpAnyH_take (i := 11) (v := ?vq11) (by simp only [List.getElem?_toArray, List.getElem?_cons_succ, List.getElem?_cons_zero]; rfl) (by kernel_rfl) (by kernel_rfl) (by kernel_rfl) (fun _ _ _ h => h) (.inl ⟨by rfl, ?tq11⟩) ?sq11 ?_
        case tq11 => (intro w' h; have FK := HG.out w' h; clear h; go_split_ands; go_simp; try rfl)
        case sq11 => exact HS9.out
        (try simp only [Act.put, List.setIfInBounds_toArray, List.set_cons_zero, List.set_cons_succ])
        refine wpAnyH_take (i := 12) (v := ?vq12) (by simp only [List.getElem?_toArray, List.getElem?_cons_succ, List.getElem?_cons_zero]; rfl) (by kernel_rfl) (by kernel_rfl) (by kernel_rfl) (fun _ _ _ h => h) (.inl ⟨by rfl, ?tq12⟩) ?sq12 ?_
        case tq12 => (intro w' h; clear h; go_simp; try rfl)
        case sq12 => exact HS9.out
        (try simp only [Act.put, List.setIfInBounds_toArray, List.set_cons_zero, List.set_cons_succ])
        refine wpAnyH_take (i := 13) (v := ?vq13) (by simp only [List.getElem?_toArray, List.getElem?_cons_succ, List.getElem?_cons_zero]; rfl) (by kernel_rfl) (by kernel_rfl) (by kernel_rfl) (fun _ _ _ h => h) (.inl ⟨by rfl, ?tq13⟩) ?sq13 ?_
        case tq13 => (intro w' h; clear h; go_simp; try rfl)
        case sq13 => exact HS9.out
        (try simp only [Act.put, List.setIfInBounds_toArray, List.set_cons_zero, List.set_cons_succ])
        refine wpAnyH_take (i := 14) (v := ?vq14) (by simp only [List.getElem?_toArray, List.getElem?_cons_succ, List.getElem?_cons_zero]; rfl) (by kernel_rfl) (by kernel_rfl) (by kernel_rfl) (fun _ _ _ h => h) (.inl ⟨by rfl, ?tq14⟩) ?sq14 ?_
        case tq14 => (intro w' h; clear h; go_simp; try rfl)
        case sq14 => exact HS9.out
        (try simp only [Act.put, List.setIfInBounds_toArray, List.set_cons_zero, List.set_cons_succ])
        refine wpAnyH_take (i := 15) (v := ?vq15) (by simp only [List.getElem?_toArray, List.getElem?_cons_succ, List.getElem?_cons_zero]; rfl) (by kernel_rfl) (by kernel_rfl) (by kernel_rfl) (fun _ _ _ h => h) (.inl ⟨by rfl, ?tq15⟩) ?sq15 ?_
        case tq15 => (intro w' h; have FK := HG.out w' h; clear h; go_split_ands; go_simp; try rfl)
        case sq15 => exact HS9.out
        (try simp only [Act.put, List.setIfInBounds_toArray, List.set_cons_zero, List.set_cons_succ])
        refine wpAnyH_one (i := 8) (by kernel_rfl) ?_
        refine wpOp_call (by simp only [List.getElem?_toArray, List.getElem?_cons_succ, List.getElem?_cons_zero]; rfl) (by rfl) (by go_simp; first | exact ⟨rfl, rfl⟩ | rfl) ?_
        refine (F1.out _ HS9.out).mono ?_
        rintro e w7 ⟨rfl, hb⟩
        have H7 := Lib.hid (below_via hb HS9.out)
        clear hb
        refine ⟨_, rfl, H7.out, ?_⟩
        (try simp only [Act.put, List.setIfInBounds_toArray, List.set_cons_zero, List.set_cons_succ])
        refine wpAnyH_one (i := 16) (by kernel_rfl) ?_
        refine wpOp_call (by simp only [List.getElem?_toArray, List.getElem?_cons_succ, List.getElem?_cons_zero]; rfl) (by rfl) (by go_simp; first | exact ⟨rfl, rfl⟩ | rfl) ?_
        refine (F2.out _ H7.out).mono ?_
        rintro e w8 ⟨rfl, hb⟩
        have H8 := Lib.hid (below_via hb H7.out)
        clear hb
        refine ⟨_, rfl, H8.out, ?_⟩
        (try simp only [Act.put, List.setIfInBounds_toArray, List.set_cons_zero, List.set_cons_succ])
        refine wpAnyH_take (i := 17) (v := ?vq17) (by simp only [List.getElem?_toArray, List.getElem?_cons_succ, List.getElem?_cons_zero]; rfl) (by kernel_rfl) (by kernel_rfl) (by kernel_rfl) (fun _ _ _ h => h) (.inl ⟨by rfl, ?tq17⟩) ?sq17 ?_
        case tq17 => (intro w' h; clear h; go_simp; try rfl)
        case sq17 => exact H8.out
        (try simp only [Act.put, List.setIfInBounds_toArray, List.set_cons_zero, List.set_cons_succ])
        refine wpAnyH_done (by kernel_rfl) (NoPanic.normal ?_) _
        have HBF := Lib.hid (below_via H8.out BW.out)
        clear HS9 H7 H8 F1 F2 HG b1
        go_wp2
        go_roundw
        case rel => exact ⟨k + 1, by omega, by go_num, HBF⟩
        case measure => simp [intOf]; omega
      · have HBr := Lib.hid (below_via BW.out HB4.out)
        obtain ⟨x60, x61, x62, x63, y6⟩ := HXC.out wr BW.out
        rcases (show T.length ≤ k ∨ (k < T.length ∧ 40 ≤ k) by omega) with h1 | ⟨h1, h2⟩
        · obtain rfl : k = T.length := by omega
          clear hend hk h1
          go_wp2_with fail
          refine (stays_any _ _ _ _ pt ct T _ wr (HL4.out.later BW.out) (HT1.out.later HBr.out)).mono ?_
          rintro e ws ⟨rfl, hbs⟩
          have HBs := Lib.hid (below_via hbs HBr.out)
          clear hbs
          go_wp2_with fail
          refine (wakes_any _).mono ?_
          rintro e wf ⟨rfl, hbf⟩
          have BF := Lib.hid (below_via (below_via hbf HBs.out) HB1.out)
          clear hbf
          go_wp2
          go_ret
          exact ⟨rfl, BF.out⟩
        · have hki : (k : Int) < (T.length : Int) := by omega
          have h40i : ¬ (k : Int) < 40 := by omega
          clear hend hk h1 h2
          go_wp2_with fail
          refine (stays_any _ _ _ _ pt ct T _ wr (HL4.out.later BW.out) (HT1.out.later HBr.out)).mono ?_
          rintro e ws ⟨rfl, hbs⟩
          have HBs := Lib.hid (below_via hbs HBr.out)
          clear hbs
          go_wp2_with fail
          refine (wakes_any _).mono ?_
          rintro e wf ⟨rfl, hbf⟩
          have BF := Lib.hid (below_via (below_via hbf HBs.out) HB1.out)
          clear hbf
          go_wp2
          go_ret
          exact ⟨rfl, BF.out⟩
end Go.Proofs.Ytcihihncgpddfaa
