/- Layer 07, the reference: Do. -/
import Derived.Test.YtekcheccelllcaaRfZ
import Derived.Test.YtekcheccelllcaaRctR
import Derived.BigQuiet
namespace Go.Proofs.Ytekcheccelllcaa
open Go.RowKit
set_option linter.unusedVariables false
set_option linter.unusedSimpArgs false

theorem infoRect8 : (Try.prog.info? 23).map (fun i => (i.zero, i.size, i.bytes)) = some (some (.agg #[.int .i64 0, .int .i64 0, .int .i64 0, .int .i64 0]), 4, 32) := by kernel_rfl
/-- what Do leaves -/
def DoR (base : Nat) (w : World) (h : Nat) (v : Value) (bs : List Bd) (d : Nat) (b : Bx) (e : Ending) (w' : World) : Prop :=
  e = .returned (.int .i64 (if 1024 < cntB (chgB (opD d) bs b) then 4 else 0)) ∧ ∃ v', RfAt base w' h v' (rctsB (if 1024 < cntB (chgB (opD d) bs b) then bs else chgB (opD d) bs b)) ∧ Chg w w' (fun k => k = h) ∧ ∀ k, SR h v' k → SR h v k ∨ w.heap.size ≤ k
theorem memY {L : List R4} {i : Nat} (hi : i < L.length) {Y : List Int} {y0 y1 : Int} (h : ∀ x, x ∈ Y ↔ x = y0 ∨ x = y1 ∨ ∃ j, j < i ∧ (x = (L.getD j zR).y ∨ x = (L.getD j zR).y + (L.getD j zR).h)) : ∀ x, x ∈ Y ++ [(L.getD i zR).y, (L.getD i zR).y + (L.getD i zR).h] ↔ x = y0 ∨ x = y1 ∨ ∃ j, j < i + 1 ∧ (x = (L.getD j zR).y ∨ x = (L.getD j zR).y + (L.getD j zR).h) := by
  intro x
  rw [List.mem_append, h]
  constructor
  · rintro ((e | e | ⟨j, hj, e⟩) | e)
    · exact .inl e
    · exact .inr (.inl e)
    · exact .inr (.inr ⟨j, by omega, e⟩)
    · simp at e; exact .inr (.inr ⟨i, by omega, e⟩)
  · rintro (e | e | ⟨j, hj, e⟩)
    · exact .inl (.inl e)
    · exact .inl (.inr (.inl e))
    · by_cases hji : j = i
      · subst hji; right; simp; exact e
      · exact .inl (.inr (.inr ⟨j, by omega, e⟩))
theorem memY2 {L : List R4} {i : Nat} (hi : 0 < i) (e1 : (L.getD i zR).y = (L.getD (i - 1) zR).y) (e2 : (L.getD i zR).h = (L.getD (i - 1) zR).h) {Y : List Int} {y0 y1 : Int} (h : ∀ x, x ∈ Y ↔ x = y0 ∨ x = y1 ∨ ∃ j, j < i ∧ (x = (L.getD j zR).y ∨ x = (L.getD j zR).y + (L.getD j zR).h)) : ∀ x, x ∈ Y ↔ x = y0 ∨ x = y1 ∨ ∃ j, j < i + 1 ∧ (x = (L.getD j zR).y ∨ x = (L.getD j zR).y + (L.getD j zR).h) := by
  intro x
  rw [h]
  refine or_congr Iff.rfl (or_congr Iff.rfl ⟨fun ⟨j, hj, e⟩ => ⟨j, by omega, e⟩, fun ⟨j, hj, e⟩ => ?_⟩)
  by_cases hji : j = i
  · subst hji; rw [e1, e2] at e; exact ⟨j - 1, by omega, e⟩
  · exact ⟨j, by omega, e⟩
set_option maxRecDepth 100000 in
set_option maxHeartbeats 32000000 in
def do_A (base : Nat) (w : World) (h : Nat) (pv : Option Addr) (n cv : Nat) (bs : List Bd) (d : Nat) (r : R4) (L : List R4) (HLL : RowKit.Hid (L = rctsB bs)) (HN : RowKit.Hid (n = L.length)) (HH : RowKit.Hid (RfAt base w h (.slice pv n cv) L)) (HOK : RowKit.Hid (RegOk bs)) (hd : d = 1 ∨ d = 2 ∨ d = 3) (HR : RowKit.Hid (isR r)) : {P : Prop // RowKit.Hid P → Calls Try.prog 59 #[.pointer (some ⟨h, 0, none⟩), .int .i64 d, .agg #[.int .i64 r.x, .int .i64 r.y, .int .i64 r.w, .int .i64 r.h]] w fun e w' => DoR base w h (.slice pv n cv) bs d (bxR r) e w'} := ⟨_, fun hP => by
  have hnl : n ≤ 1024 := by rw [HN.out, HLL.out, rctsB_len]; exact HOK.out.few
  have HPL := Lib.hid (show ∀ q ∈ L, PlaneR q from by rw [HLL.out]; exact rctsB_own HOK.out.can HOK.out.pl)
  obtain ⟨i0, hi0, hz0, hz1, hz2⟩ := info_parts infoInt7
  have HI0 := Lib.hid (And.intro hi0 (And.intro hz0 (And.intro hz1 hz2)))
  clear hi0 hz0 hz1 hz2
  obtain ⟨j0, hi0, hz0, hz1, hz2⟩ := info_parts infoRect8
  have HJ0 := Lib.hid (And.intro hi0 (And.intro hz0 (And.intro hz1 hz2)))
  clear hi0 hz0 hz1 hz2
  obtain ⟨hx, hy, hw, hh⟩ := HR.out
  have CE := Lib.hid (fun W => ref_Ends_any r.x r.y r.w r.h W hx hy hw hh)
  clear hx hy hw hh
  go_enter Try.func59, Try.ntmps59
  go_wp2_with fail
  refine (CE.out _).mono ?_
  rintro e w2 ⟨rfl, hb2⟩
  have HB2 := Lib.hid (below_via hb2 (below_al (Below.refl w.heap.size w) _))
  clear hb2 CE
  rw [ok_same]
  go_upto_if 33 with (fail)
  obtain ⟨b, hb⟩ : ∃ b, b = bxR r := ⟨_, rfl⟩
  have HBB := Lib.hid hb
  go_cut [7, 8, 9, 10, 11, 33] (fun s1 s2 s3 s4 s5 s6 wx => s1 = .int .i64 b.x0 ∧ s2 = .int .i64 b.y0 ∧ s3 = .int .i64 b.x1 ∧ s4 = .int .i64 b.y1 ∧ wx = w2)
  case first =>
    obtain ⟨ob, hob⟩ : ∃ q, q = okB r.x r.y r.w r.h := ⟨_, rfl⟩
    rw [← hob]
    cases ob
    · have e : b = ⟨false, 0, 0, 0, 0⟩ := by rw [hb]; unfold bxR okR4; rw [← hob]; rfl
      go_wp2
      all_goals go_meet
      all_goals exact ⟨by rw [e], by rw [e], by rw [e], by rw [e], rfl⟩
    · have e : b = ⟨true, rlo r.x, rlo r.y, rhi r.x r.w, rhi r.y r.h⟩ := by rw [hb]; unfold bxR okR4; rw [← hob]; rfl
      have h2 := okB_spec.1 hob.symm
      have sx := side_same _ _ h2.1
      have sy := side_same _ _ h2.2
      go_wp2
      all_goals go_meet
      all_goals exact ⟨by rw [e, sx.1], by rw [e, sy.1], by rw [e, sx.2], by rw [e, sy.2], rfl⟩
  case rest =>
    obtain ⟨rfl, rfl, rfl, rfl, rfl⟩ := hcut
    clear hb
    obtain ⟨y0, hy0⟩ : ∃ q, q = b.y0 := ⟨_, rfl⟩
    obtain ⟨y1, hy1⟩ : ∃ q, q = b.y1 := ⟨_, rfl⟩
    obtain ⟨x0, hx0⟩ : ∃ q, q = b.x0 := ⟨_, rfl⟩
    obtain ⟨x1, hx1⟩ : ∃ q, q = b.x1 := ⟨_, rfl⟩
    rw [← hy0, ← hy1, ← hx0, ← hx1]
    have HY0 := Lib.hid (And.intro hy0 hy1)
    have HX0 := Lib.hid (And.intro hx0 hx1)
    clear hy0 hy1 hx0 hx1
    go_upto_region 7 with (fail)
    obtain ⟨w3, hw3⟩ : ∃ q : World, q = wc.alloc (.cells #[.int .i64 y0, .int .i64 y1] 3) := ⟨_, rfl⟩
    have hzw := HB2.out.size
    have HO3 := Lib.hid (show w3.ownsRow w.heap.size 3 1 (.slice (some ⟨wc.heap.size, 0, none⟩) 2 2) 2 (vI [y0, y1]) from by rw [hw3]; exact World.ownsRow_lit wc #[.int .i64 y0, .int .i64 y1] 2 hzw (by unfold maxLen; omega) rfl)
    have HB3 := Lib.hid (show Below w.heap.size w w3 from by rw [hw3]; exact below_al HB2.out _)
    rw [← hw3]
    obtain ⟨k3, hk3⟩ : ∃ q, q = wc.heap.size := ⟨_, rfl⟩
    rw [← hk3] at HO3 ⊢
    clear hw3 hk3 hzw HB2
    have HH3 := Lib.hid (HH.out.later HB3.out)
    obtain ⟨zh, ch⟩ := HH3.out.cells w3 rfl
    go_wp2
    clear zh ch
    go_loopw [12, 13, 14] (fun yv lv iv wr => ∃ (i : Nat) (Y : List Int) (la : Int), iv = .int .i64 i ∧ i ≤ n ∧ lv = .int .i64 la ∧ Y.length ≤ 2 + 2 * i ∧ RowKit.Hid (0 < i → la = (L.getD (i - 1) zR).y) ∧ RowKit.Hid (∀ x, x ∈ Y ↔ x = y0 ∨ x = y1 ∨ ∃ j, j < i ∧ (x = (L.getD j zR).y ∨ x = (L.getD j zR).y + (L.getD j zR).h)) ∧ RowKit.Hid (wr.ownsRow w.heap.size 3 1 yv Y.length (vI Y)) ∧ RowKit.Hid (Below w.heap.size w wr)) (fun _ _ iv _ => n - (intOf iv).toNat)
    case atStart => exact ⟨0, [y0, y1], y0, rfl, Nat.zero_le _, rfl, by simp, Lib.hid (fun h => absurd h (Nat.lt_irrefl _)), Lib.hid (fun x => by simp), HO3, HB3⟩
    case round =>
      (try clear HO3 HB3 HH3)
      obtain ⟨i, Y, la, rfl, hi, rfl, hyl, HLA, HY, HO, HW⟩ := hrel
      have HHL := Lib.hid (HH.out.later HW.out)
      obtain ⟨kz, k0⟩ := HHL.out.cells wr rfl
      by_cases hlt : i < n
      · have hii : (i : Int) < (n : Int) := by omega
        have hlt2 : i < L.length := by rw [← HN.out]; exact hlt
        obtain ⟨gl, hgl, zl, nl, _, hrc⟩ := HHL.out.rects i hlt2
        obtain ⟨c0, c1, c2, c3⟩ := hrc wr rfl
        have HRC := Lib.hid hrc
        have hpl : PlaneR (L.getD i zR) := HPL.out _ (by rw [List.getD_eq_getElem?_getD, List.getElem?_eq_getElem hlt2]; exact List.getElem_mem _)
        have HMY := Lib.hid (memY hlt2 HY.out)
        have HSK := Lib.hid (show (L.getD i zR).y = la → ¬ i = 0 → ∀ x, x ∈ Y ↔ x = y0 ∨ x = y1 ∨ ∃ j, j < i + 1 ∧ (x = (L.getD j zR).y ∨ x = (L.getD j zR).y + (L.getD j zR).h) from fun e hi0 => by
          have e1 : (L.getD i zR).y = (L.getD (i - 1) zR).y := by rw [e]; exact HLA.out (by omega)
          refine memY2 (by omega) e1 ?_ HY.out
          have hm1 : L.getD i zR ∈ rctsB bs := by rw [← HLL.out, List.getD_eq_getElem?_getD, List.getElem?_eq_getElem hlt2]; exact List.getElem_mem _
          have hm2 : L.getD (i - 1) zR ∈ rctsB bs := by rw [← HLL.out, List.getD_eq_getElem?_getD, List.getElem?_eq_getElem (show i - 1 < L.length by omega)]; exact List.getElem_mem _
          exact same_h HOK.out.can hm1 hm2 e1)
        have b2 := hpl.y
        have b4 := hpl.h
        have b6 := hpl.yh
        have HLA2 := Lib.hid (show 0 < i + 1 → (L.getD i zR).y = (L.getD (i + 1 - 1) zR).y from fun _ => by rw [Nat.add_sub_cancel])
        obtain ⟨q, hq⟩ : ∃ q, q = L.getD i zR := ⟨_, rfl⟩
        rw [← hq] at c0 c1 c2 c3 HRC HMY HSK b2 b4 b6 HLA2
        have hw2 : IntKind.i64.wrap (q.y + q.h) = q.y + q.h := sizes_small _ (by omega)
        have hw4 : wrap64 (q.y + q.h) = q.y + q.h := by unfold wrap64; omega
        clear hrc hpl b2 b4 b6 hq HY HLA
        subst hgl
        go_upto_region 11 with (fail)
        go_cut [60] (fun s wx => s = .bool (decide (¬ q.y = la ∨ i = 0)) ∧ wx = wr)
        case first =>
          by_cases e1 : q.y = la
          · have eb : (q.y == la) = true := by simpa using e1
            by_cases e2 : i = 0
            · subst e2
              go_wp2
              all_goals go_meet
              all_goals exact ⟨by simp, rfl⟩
            · have ei : ((i : Int) == 0) = false := by simp; omega
              have ei2 : ¬ (i : Int) = 0 := by omega
              go_wp2
              all_goals go_meet
              all_goals exact ⟨by simp [e1, e2], rfl⟩
          · have eb : (q.y == la) = false := by simpa using e1
            go_wp2
            all_goals go_meet
            all_goals exact ⟨by simp [e1], rfl⟩
        case rest =>
          obtain ⟨rfl, rfl⟩ := hcut
          by_cases hap : ¬ q.y = la ∨ i = 0
          · rw [decide_eq_true hap]
            obtain ⟨m, hm⟩ : ∃ m, m = Y.length := ⟨_, rfl⟩
            have hml : m ≤ 2 + 2 * i := by omega
            have HML := Lib.hid hm
            rw [← hm] at HO
            have HOW := HO
            obtain ⟨po, co, rfl⟩ := row_slice HOW.out
            have hzw := HW.out.size
            have zh : h < wc.heap.size := lt_of_block HHL.out.pr
            have zg : gl < wc.heap.size := zl
            have HNL := Lib.hid (show (Value.slice po m co).ownBlock ≠ some gl from fun e => by
              rcases row_ne HOW.out HHL.out.own (by decide) with h1 | h1
              · rw [h1] at e; cases e
              · exact h1 (e.trans rfl))
            have HS := Lib.hid (show ∀ w' : World, (w'.heap[h]? = wc.heap[h]? ∧ w'.heap[gl]? = wc.heap[gl]?) → (h < w'.heap.size ∧ w'.cell? ⟨h, 0, none⟩ = some (.slice (some ⟨gl, 0, none⟩) n cv) ∧ w'.cell? ⟨gl, i * 4 + 1, none⟩ = some (.int .i64 q.y) ∧ w'.cell? ⟨gl, i * 4 + 3, none⟩ = some (.int .i64 q.h)) from fun w' hk => by
              obtain ⟨e1, e2⟩ := HHL.out.cells w' hk.1
              obtain ⟨f0, f1, f2, f3⟩ := HRC.out w' hk.2
              exact ⟨e1, e2, f1, f3⟩)
            clear hm c0 c1 c2 c3 kz k0 hap HSK
            go_upto_region 12 with (fail)
            have HSD := Lib.hid (show (wc.drew).heap[h]? = wc.heap[h]? ∧ (wc.drew).heap[gl]? = wc.heap[gl]? from ⟨rfl, rfl⟩)
            refine wp_region_noPanic ?_
            refine wp_region_Z (fun w' => w'.heap[h]? = wc.heap[h]? ∧ w'.heap[gl]? = wc.heap[gl]?) 28 (by kernel_rfl) ?_
            change wpAnyZ _ _ _ _ _ _ 29 (Array.replicate 29 false) _ _
            refine wpAnyZ_take [27] (i := 0) (v := ?va0) (by simp only [List.getElem?_toArray, List.getElem?_cons_succ, List.getElem?_cons_zero]; rfl) (by decide +kernel) (fun _ _ _ h => h) (by rfl) ?ta0 ?sa0 ?_
            case ta0 => (intro w' h; clear h; go_simp; try rfl)
            case sa0 => exact HSD.out
            (try simp only [Act.put, List.setIfInBounds_toArray, List.set_cons_zero, List.set_cons_succ])
            refine wpAnyZ_take [27, 26, 8, 7, 6, 4, 3, 2] (i := 1) (v := ?va1) (by simp only [List.getElem?_toArray, List.getElem?_cons_succ, List.getElem?_cons_zero]; rfl) (by decide +kernel) (fun _ _ _ h => h) (by rfl) ?ta1 ?sa1 ?_
            case ta1 => (intro w' h; clear h; go_simp; try rfl)
            case sa1 => exact HSD.out
            (try simp only [Act.put, List.setIfInBounds_toArray, List.set_cons_zero, List.set_cons_succ])
            refine wpAnyZ_take [27, 26, 8, 7, 6, 4, 3] (i := 2) (v := ?va2) (by simp only [List.getElem?_toArray, List.getElem?_cons_succ, List.getElem?_cons_zero]; rfl) (by decide +kernel) (fun _ _ _ h => h) (by rfl) ?ta2 ?sa2 ?_
            case ta2 => (intro w' h; clear h; go_simp; try rfl)
            case sa2 => exact HSD.out
            (try simp only [Act.put, List.setIfInBounds_toArray, List.set_cons_zero, List.set_cons_succ])
            refine wpAnyZ_take [27, 26, 8, 7, 6, 4] (i := 3) (v := ?va3) (by simp only [List.getElem?_toArray, List.getElem?_cons_succ, List.getElem?_cons_zero]; rfl) (by decide +kernel) (fun _ _ _ h => h) (by rfl) ?ta3 ?sa3 ?_
            case ta3 => (intro w' h; clear h; go_simp; try rfl)
            case sa3 => exact HSD.out
            (try simp only [Act.put, List.setIfInBounds_toArray, List.set_cons_zero, List.set_cons_succ])
            refine wpAnyZ_take [27, 26, 8, 7, 6] (i := 4) (v := ?va4) (by simp only [List.getElem?_toArray, List.getElem?_cons_succ, List.getElem?_cons_zero]; rfl) (by decide +kernel) (fun _ _ _ h => h) (by rfl) ?ta4 ?sa4 ?_
            case ta4 => (intro w' h; have FK := HS.out w' h; clear h; go_split_ands; go_simp; try rfl)
            case sa4 => exact HSD.out
            (try simp only [Act.put, List.setIfInBounds_toArray, List.set_cons_zero, List.set_cons_succ])
            refine wpAnyZ_take [27, 26, 8, 7, 6] (i := 5) (v := ?va5) (by simp only [List.getElem?_toArray, List.getElem?_cons_succ, List.getElem?_cons_zero]; rfl) (by decide +kernel) (fun _ _ _ h => h) (by rfl) ?ta5 ?sa5 ?_
            case ta5 => (intro w' h; clear h; go_simp; try rfl)
            case sa5 => exact HSD.out
            (try simp only [Act.put, List.setIfInBounds_toArray, List.set_cons_zero, List.set_cons_succ])
            refine wpAnyZ_take [27, 26, 8, 7] (i := 6) (v := ?va6) (by simp only [List.getElem?_toArray, List.getElem?_cons_succ, List.getElem?_cons_zero]; rfl) (by decide +kernel) (fun _ _ _ h => h) (by rfl) ?ta6 ?sa6 ?_
            case ta6 => (intro w' h; clear h; go_simp; try rfl)
            case sa6 => exact HSD.out
            (try simp only [Act.put, List.setIfInBounds_toArray, List.set_cons_zero, List.set_cons_succ])
            refine wpAnyZ_take [27, 26, 8] (i := 7) (v := ?va7) (by simp only [List.getElem?_toArray, List.getElem?_cons_succ, List.getElem?_cons_zero]; rfl) (by decide +kernel) (fun _ _ _ h => h) (by rfl) ?ta7 ?sa7 ?_
            case ta7 => (intro w' h; clear h; go_simp; try rfl)
            case sa7 => exact HSD.out
            (try simp only [Act.put, List.setIfInBounds_toArray, List.set_cons_zero, List.set_cons_succ])
            refine wpAnyZ_take [27, 26] (i := 8) (v := ?va8) (by simp only [List.getElem?_toArray, List.getElem?_cons_succ, List.getElem?_cons_zero]; rfl) (by decide +kernel) (fun _ _ _ h => h) (by rfl) ?ta8 ?sa8 ?_
            case ta8 => (intro w' h; have FK := HS.out w' h; clear h; go_split_ands; go_simp; try rfl)
            case sa8 => exact HSD.out
            (try simp only [Act.put, List.setIfInBounds_toArray, List.set_cons_zero, List.set_cons_succ])
            refine wpAnyZ_take [27, 26, 25, 16, 15, 14, 12, 11, 10] (i := 9) (v := ?va9) (by simp only [List.getElem?_toArray, List.getElem?_cons_succ, List.getElem?_cons_zero]; rfl) (by decide +kernel) (fun _ _ _ h => h) (by rfl) ?ta9 ?sa9 ?_
            case ta9 => (intro w' h; clear h; go_simp; try rfl)
            case sa9 => exact HSD.out
            (try simp only [Act.put, List.setIfInBounds_toArray, List.set_cons_zero, List.set_cons_succ])
            refine wpAnyZ_take [27, 26, 25, 16, 15, 14, 12, 11] (i := 10) (v := ?va10) (by simp only [List.getElem?_toArray, List.getElem?_cons_succ, List.getElem?_cons_zero]; rfl) (by decide +kernel) (fun _ _ _ h => h) (by rfl) ?ta10 ?sa10 ?_
            case ta10 => (intro w' h; clear h; go_simp; try rfl)
            case sa10 => exact HSD.out
            (try simp only [Act.put, List.setIfInBounds_toArray, List.set_cons_zero, List.set_cons_succ])
            refine wpAnyZ_take [27, 26, 25, 16, 15, 14, 12] (i := 11) (v := ?va11) (by simp only [List.getElem?_toArray, List.getElem?_cons_succ, List.getElem?_cons_zero]; rfl) (by decide +kernel) (fun _ _ _ h => h) (by rfl) ?ta11 ?sa11 ?_
            case ta11 => (intro w' h; clear h; go_simp; try rfl)
            case sa11 => exact HSD.out
            (try simp only [Act.put, List.setIfInBounds_toArray, List.set_cons_zero, List.set_cons_succ])
            refine wpAnyZ_take [27, 26, 25, 16, 15, 14] (i := 12) (v := ?va12) (by simp only [List.getElem?_toArray, List.getElem?_cons_succ, List.getElem?_cons_zero]; rfl) (by decide +kernel) (fun _ _ _ h => h) (by rfl) ?ta12 ?sa12 ?_
            case ta12 => (intro w' h; have FK := HS.out w' h; clear h; go_split_ands; go_simp; try rfl)
            case sa12 => exact HSD.out
            (try simp only [Act.put, List.setIfInBounds_toArray, List.set_cons_zero, List.set_cons_succ])
            refine wpAnyZ_take [27, 26, 25, 16, 15, 14] (i := 13) (v := ?va13) (by simp only [List.getElem?_toArray, List.getElem?_cons_succ, List.getElem?_cons_zero]; rfl) (by decide +kernel) (fun _ _ _ h => h) (by rfl) ?ta13 ?sa13 ?_
            case ta13 => (intro w' h; clear h; go_simp; try rfl)
            case sa13 => exact HSD.out
            (try simp only [Act.put, List.setIfInBounds_toArray, List.set_cons_zero, List.set_cons_succ])
            refine wpAnyZ_take [27, 26, 25, 16, 15] (i := 14) (v := ?va14) (by simp only [List.getElem?_toArray, List.getElem?_cons_succ, List.getElem?_cons_zero]; rfl) (by decide +kernel) (fun _ _ _ h => h) (by rfl) ?ta14 ?sa14 ?_
            case ta14 => (intro w' h; clear h; go_simp; try rfl)
            case sa14 => exact HSD.out
            (try simp only [Act.put, List.setIfInBounds_toArray, List.set_cons_zero, List.set_cons_succ])
            refine wpAnyZ_take [27, 26, 25, 16] (i := 15) (v := ?va15) (by simp only [List.getElem?_toArray, List.getElem?_cons_succ, List.getElem?_cons_zero]; rfl) (by decide +kernel) (fun _ _ _ h => h) (by rfl) ?ta15 ?sa15 ?_
            case ta15 => (intro w' h; clear h; go_simp; try rfl)
            case sa15 => exact HSD.out
            (try simp only [Act.put, List.setIfInBounds_toArray, List.set_cons_zero, List.set_cons_succ])
            refine wpAnyZ_take [27, 26, 25] (i := 16) (v := ?va16) (by simp only [List.getElem?_toArray, List.getElem?_cons_succ, List.getElem?_cons_zero]; rfl) (by decide +kernel) (fun _ _ _ h => h) (by rfl) ?ta16 ?sa16 ?_
            case ta16 => (intro w' h; have FK := HS.out w' h; clear h; go_split_ands; go_simp; try rfl)
            case sa16 => exact HSD.out
            (try simp only [Act.put, List.setIfInBounds_toArray, List.set_cons_zero, List.set_cons_succ])
            refine wpAnyZ_take [27, 26, 25, 24, 23, 22, 20, 19, 18] (i := 17) (v := ?va17) (by simp only [List.getElem?_toArray, List.getElem?_cons_succ, List.getElem?_cons_zero]; rfl) (by decide +kernel) (fun _ _ _ h => h) (by rfl) ?ta17 ?sa17 ?_
            case ta17 => (intro w' h; clear h; go_simp; try rfl)
            case sa17 => exact HSD.out
            (try simp only [Act.put, List.setIfInBounds_toArray, List.set_cons_zero, List.set_cons_succ])
            refine wpAnyZ_take [27, 26, 25, 24, 23, 22, 20, 19] (i := 18) (v := ?va18) (by simp only [List.getElem?_toArray, List.getElem?_cons_succ, List.getElem?_cons_zero]; rfl) (by decide +kernel) (fun _ _ _ h => h) (by rfl) ?ta18 ?sa18 ?_
            case ta18 => (intro w' h; clear h; go_simp; try rfl)
            case sa18 => exact HSD.out
            (try simp only [Act.put, List.setIfInBounds_toArray, List.set_cons_zero, List.set_cons_succ])
            refine wpAnyZ_take [27, 26, 25, 24, 23, 22, 20] (i := 19) (v := ?va19) (by simp only [List.getElem?_toArray, List.getElem?_cons_succ, List.getElem?_cons_zero]; rfl) (by decide +kernel) (fun _ _ _ h => h) (by rfl) ?ta19 ?sa19 ?_
            case ta19 => (intro w' h; clear h; go_simp; try rfl)
            case sa19 => exact HSD.out
            (try simp only [Act.put, List.setIfInBounds_toArray, List.set_cons_zero, List.set_cons_succ])
            refine wpAnyZ_take [27, 26, 25, 24, 23, 22] (i := 20) (v := ?va20) (by simp only [List.getElem?_toArray, List.getElem?_cons_succ, List.getElem?_cons_zero]; rfl) (by decide +kernel) (fun _ _ _ h => h) (by rfl) ?ta20 ?sa20 ?_
            case ta20 => (intro w' h; have FK := HS.out w' h; clear h; go_split_ands; go_simp; try rfl)
            case sa20 => exact HSD.out
            (try simp only [Act.put, List.setIfInBounds_toArray, List.set_cons_zero, List.set_cons_succ])
            refine wpAnyZ_take [27, 26, 25, 24, 23, 22] (i := 21) (v := ?va21) (by simp only [List.getElem?_toArray, List.getElem?_cons_succ, List.getElem?_cons_zero]; rfl) (by decide +kernel) (fun _ _ _ h => h) (by rfl) ?ta21 ?sa21 ?_
            case ta21 => (intro w' h; clear h; go_simp; try rfl)
            case sa21 => exact HSD.out
            (try simp only [Act.put, List.setIfInBounds_toArray, List.set_cons_zero, List.set_cons_succ])
            refine wpAnyZ_take [27, 26, 25, 24, 23] (i := 22) (v := ?va22) (by simp only [List.getElem?_toArray, List.getElem?_cons_succ, List.getElem?_cons_zero]; rfl) (by decide +kernel) (fun _ _ _ h => h) (by rfl) ?ta22 ?sa22 ?_
            case ta22 => (intro w' h; clear h; go_simp; try rfl)
            case sa22 => exact HSD.out
            (try simp only [Act.put, List.setIfInBounds_toArray, List.set_cons_zero, List.set_cons_succ])
            refine wpAnyZ_take [27, 26, 25, 24] (i := 23) (v := ?va23) (by simp only [List.getElem?_toArray, List.getElem?_cons_succ, List.getElem?_cons_zero]; rfl) (by decide +kernel) (fun _ _ _ h => h) (by rfl) ?ta23 ?sa23 ?_
            case ta23 => (intro w' h; clear h; go_simp; try rfl)
            case sa23 => exact HSD.out
            (try simp only [Act.put, List.setIfInBounds_toArray, List.set_cons_zero, List.set_cons_succ])
            refine wpAnyZ_take [27, 26, 25] (i := 24) (v := ?va24) (by simp only [List.getElem?_toArray, List.getElem?_cons_succ, List.getElem?_cons_zero]; rfl) (by decide +kernel) (fun _ _ _ h => h) (by rfl) ?ta24 ?sa24 ?_
            case ta24 => (intro w' h; have FK := HS.out w' h; clear h; go_split_ands; go_simp; try rfl)
            case sa24 => exact HSD.out
            (try simp only [Act.put, List.setIfInBounds_toArray, List.set_cons_zero, List.set_cons_succ])
            refine wpAnyZ_take [27, 26] (i := 25) (v := ?va25) (by simp only [List.getElem?_toArray, List.getElem?_cons_succ, List.getElem?_cons_zero]; rfl) (by decide +kernel) (fun _ _ _ h => h) (by rfl) ?ta25 ?sa25 ?_
            case ta25 => (intro w' h; clear h; go_simp; try rfl)
            case sa25 => exact HSD.out
            (try simp only [Act.put, List.setIfInBounds_toArray, List.set_cons_zero, List.set_cons_succ])
            obtain ⟨w8, hw8⟩ : ∃ t, t = wc.drew.alloc (.cells #[.int .i64 q.y, .int .i64 (q.y + q.h)] 3) := ⟨_, rfl⟩
            have HB8 := Lib.hid (show Below wc.heap.size wc w8 from by rw [hw8]; exact below_al (Below.drew (Below.refl _ _)) _)
            have HS8 := Lib.hid (show w8.heap[h]? = wc.heap[h]? ∧ w8.heap[gl]? = wc.heap[gl]? from ⟨HB8.out.block h (zh), HB8.out.block gl (zg)⟩)
            have HN8 := Lib.hid (show w8.heap[wc.heap.size]? = some (.cells #[.int .i64 q.y, .int .i64 (q.y + q.h)] 3 (0, 0)) from by rw [hw8]; exact heap_alloc_new _ _)
            have hz8 : w8.heap.size = wc.heap.size + 1 := by rw [hw8]; simp
            have HW8 := Lib.hid hw8
            clear hw8
            have HOX := Lib.hid (row_later HOW.out HB8.out)
            have HON := Lib.hid (show ∀ u ∈ [Value.int .i64 q.y, Value.int .i64 (q.y + q.h)], u.oneCell' = true from fun u hu => by simp at hu; rcases hu with rfl | rfl <;> rfl)
            refine wpAnyZ_one (i := 26) (by decide +kernel) ?_
            refine wpOpK_value (v := .slice (some ⟨wc.heap.size, 0, none⟩) 2 2) (w' := w8) (by simp only [List.getElem?_toArray, List.getElem?_cons_succ, List.getElem?_cons_zero]; rfl) (by rfl) ?ma26 ⟨.inr HS8.out, ?_⟩
            case ma26 => (rw [HW8.out]; go_simp; try rfl)
            (try simp only [Act.put, List.setIfInBounds_toArray, List.set_cons_zero, List.set_cons_succ])
            refine wpAnyZ_one (i := 27) (by decide +kernel) ?_
            refine wpOpK_append (by simp only [List.getElem?_toArray, List.getElem?_cons_succ, List.getElem?_cons_zero]; rfl) rfl (.tmp 61) (.tmp 87) 46 rfl w.heap.size 3 i0 (.int .i64 0) 1 8 Try.underlying46 HI0.out.1 HI0.out.2.1 HI0.out.2.2.1 HI0.out.2.2.2 rfl (by decide) _ m _ (by rfl) HOX.out ⟨wc.heap.size, 0, none⟩ 2 2 [.int .i64 q.y, .int .i64 (q.y + q.h)] (by rfl) rfl (World.news_of_block (cs := #[.int .i64 q.y, .int .i64 (q.y + q.h)]) (t := 3) (fr := (0, 0)) HN8.out) HON.out (by omega) ?ah63 ?ahby ?ahbs ?_
            case ah63 => (unfold maxLen; omega)
            case ahby => omega
            case ahbs => first | omega | (simp; omega)
            intro g cap W2 own gr hg hlt
            have HA9 := Lib.hid own
            have HG9 := Lib.hid gr
            have HS9 := Lib.hid (show W2.heap[h]? = wc.heap[h]? ∧ W2.heap[gl]? = wc.heap[gl]? from ⟨(gr.block h (Nat.lt_of_lt_of_le (zh) HB8.out.size) (fun e => (row_ne_blk HOW.out HHL.out.pr (by decide)) e.symm)).trans HS8.out.1, (gr.block gl (Nat.lt_of_lt_of_le (zg) HB8.out.size) (fun e => (HNL.out) e.symm)).trans HS8.out.2⟩)
            clear own gr hg hlt
            refine ⟨.inr HS9.out, ?_⟩
            (try simp only [Act.put, List.setIfInBounds_toArray, List.set_cons_zero, List.set_cons_succ])
            refine wpAnyZ_one (i := 28) (by decide +kernel) ?_
            refine wpOpK_value (v := .slice (some ⟨g, 0, none⟩) (m + 2) cap) (w' := W2) (by simp only [List.getElem?_toArray, List.getElem?_cons_succ, List.getElem?_cons_zero]; rfl) (by rfl) ?ma28 ⟨.inl rfl, ?_⟩
            case ma28 => (go_simp; try rfl)
            (try simp only [Act.put, List.setIfInBounds_toArray, List.set_cons_zero, List.set_cons_succ])
            refine wpAnyZ_done (by kernel_rfl) (NoPanic.normal ?_) _
            have HN1 := Lib.hid (show W2.ownsRow w.heap.size 3 1 (.slice (some ⟨g, 0, none⟩) (m + 2) cap) (Y ++ [q.y, q.y + q.h]).length (vI (Y ++ [q.y, q.y + q.h])) from by
              rw [vI_app, List.length_append, ← HML.out]
              exact HA9.out)
            have HN2 := Lib.hid (show Below w.heap.size w W2 from Below.grown (below_via HB8.out HW.out) HG9.out (by omega) (fun t ht => (row_lt HOX.out t ht).2))
            obtain ⟨e1, e2, e3, e4⟩ := HS.out W2 HS9.out
            have hyl2 : (Y ++ [q.y, q.y + q.h]).length ≤ 2 + 2 * (i + 1) := by rw [List.length_append, ← HML.out]; simp; omega
            clear HA9 HG9 HS9 HS8 HN8 HW8 HB8 HOX HON HOW HS HSD HNL HML hz8 HO HW HHL HRC
            go_wp2
            go_roundw
            case rel => exact ⟨i + 1, _, q.y, by go_num, by omega, rfl, hyl2, HLA2, HMY, HN1, HN2⟩
            case measure => simp [intOf] <;> omega
          · have hap1 : q.y = la := Classical.byContradiction fun e => hap (.inl e)
            have hap2 : ¬ i = 0 := fun e => hap (.inr e)
            have HMY2 := Lib.hid (HSK.out hap1 hap2)
            rw [decide_eq_false hap]
            have hyl2 : Y.length ≤ 2 + 2 * (i + 1) := by omega
            clear hap hap1 hap2 HSK HMY
            go_wp2
            go_roundw
            case rel => exact ⟨i + 1, Y, q.y, by go_num, by omega, rfl, hyl2, HLA2, HMY2, HO, HW⟩
            case measure => simp [intOf] <;> omega
      · have hii : ¬ (i : Int) < (n : Int) := by omega
        obtain rfl : n = i := by omega
        have HZ := Lib.hid (show srtU Y = srtU (ysOf bs b.y0 b.y1) from by
          rw [← HY0.out.1, ← HY0.out.2]
          refine ys_rects HOK.out.can y0 y1 fun x => ?_
          rw [← HLL.out, ← HN.out]
          exact HY.out x)
        obtain ⟨pz, cz, he, _, hrd⟩ := rdI_own HO.out rfl
        subst he
        have HRD := Lib.hid hrd
        have hyn : Y.length ≤ 100000 := by omega
        have CS := Lib.hid (sorted_any pz Y.length cz Y wr rfl hyn HRD.out)
        have HZL := Lib.hid (Nat.le_trans (srtU_len Y) hyl)
        have HHR := Lib.hid (HH.out.later HW.out)
        clear hrd HRD HO HY HLA HHL hyl hyn
        go_wp2_with fail
        clear k0 kz
        refine CS.out.mono ?_
        rintro e w5 ⟨v5, rfl, own5, hb5⟩
        obtain ⟨Z, hZ⟩ : ∃ Z, Z = srtU Y := ⟨_, rfl⟩
        rw [← hZ] at own5 HZ HZL
        obtain ⟨p5, c5, he, _, hrd5⟩ := rdI_own own5 rfl
        subst he
        obtain ⟨nz, hnz⟩ : ∃ q, q = Z.length := ⟨_, rfl⟩
        rw [← hnz] at HZL ⊢
        have hzn : nz ≤ 100000 := by have := HZL.out; omega
        have HNZ := Lib.hid hnz
        have HRZ := Lib.hid hrd5
        have HB5 := Lib.hid (below_via hb5 HW.out)
        have HUZ := Lib.hid (show Z = srtU (ysOf bs b.y0 b.y1) from HZ.out)
        clear hnz hZ own5 hrd5 hb5 HW CS HZ HZL HHR
        (repeat (rename_i zzA; revert zzA))
        revert hnl HPL i0 HI0 j0 HJ0 b HBB wc u11 u22 u23 u24 u25 u26 u27 u28 u29 u30 u31 u32 u33 u34 u35 u36 u37 u97 u98 u99 u100 u101 u102 u103 u104 u105 u106 u107 u108 u109 u110 u111 u112 u113 u114 u115 u116 u117 u118 u119 u120 u121 u122 u123 u124 u125 u126 u127 u128 u129 u130 u131 u132 u133 u134 u135 u136 u137 u138 u139 u140 u141 u142 u143 u144 u145 u146 u147 u148 u149 u150 u151 u152 u153 u154 u155 u156 u157 u158 u159 u160 u161 u162 u163 u164 u165 u166 u167 u168 u169 u170 u171 u172 u173 u174 u175 u176 u177 u178 u179 u180 u181 u182 u183 u184 u185 u186 u187 u188 u189 u190 u191 u192 u193 u194 u195 y0 y1 x0 x1 HY0 HX0 w3 k3 wr u38 u39 u40 u41 u42 u43 u44 u45 u46 u47 u48 u49 u50 u51 u52 u53 u54 u55 u56 u57 u58 u59 u60 u61 u62 u63 u64 u65 u66 u67 u68 u69 u70 u71 u72 u73 u74 u75 u76 u77 u78 u79 u80 u81 u82 u83 u84 u85 u86 u87 u88 u89 u90 u91 u92 u93 u94 u95 u96 Y la hi hlt pz cz hii w5 Z p5 c5 nz hzn HNZ HRZ HB5 HUZ
        exact hP.out⟩
end Go.Proofs.Ytekcheccelllcaa
