/- Layer 07: a call that changes a region: the loop over the bounds, part F. -/
import Derived.Test.YtekcheccelllcaaRgM
import Derived.Test.YtekcheccelllcaaAnyZ
namespace Go.Proofs.Ytekcheccelllcaa
open Go.RowKit
set_option linter.unusedVariables false
set_option linter.unusedSimpArgs false

theorem wrap_nat (k : Nat) (h : (k : Int) ≤ 9223372036854775807) : IntKind.i64.wrap (k : Int) = (k : Int) := by
  unfold IntKind.wrap
  simp [IntKind.signed, IntKind.bits]
  omega
def lastB (l : List Bd) (z : Int) (now : List Int) : Bool := match l.getLast? with | none => false | some b => decide (b.y1 = z ∧ b.es = now)
theorem lastB_app (o : List Bd) (b : Bd) (z : Int) (now : List Int) : lastB (o ++ [b]) z now = decide (b.y1 = z ∧ b.es = now) := by simp [lastB]
theorem pushB_new {out : List Bd} {z z2 : Int} {now : List Int} (hne : now ≠ []) (h : lastB out z now = false) : pushB out z z2 now = out ++ [⟨z, z2, now⟩] := by
  rcases List.eq_nil_or_concat out with rfl | ⟨o, b, rfl⟩
  · exact pushB_first z z2 now hne
  · rw [List.concat_eq_append] at h ⊢
    rw [lastB_app] at h
    rw [pushB_last _ _ _ _ _ hne, if_neg (of_decide_eq_false h)]
theorem rowB_len {bs : List Bd} (h : Can bs) (z : Int) : (rowB bs z).length ≤ 2 * cntB bs := by
  rcases @rowB_mem bs z with e | ⟨b, h1, _, _, e⟩ <;> rw [e]
  · simp
  · have h2 := (h.ok b h1).ok.2
    have h3 : b.es.length / 2 ≤ cntB bs := by
      clear e h2
      induction bs with
      | nil => cases h1
      | cons c bs ih =>
        have e : cntB (c :: bs) = c.es.length / 2 + cntB bs := by simp [cntB]
        rw [e]
        rcases List.mem_cons.1 h1 with rfl | h1
        · omega
        · have := ih h.2.2 h1; omega
    omega
theorem row_vals_len {w : World} {base n : Nat} {t : TypeId} {v : Value} {xs : List Value} (h : w.ownsRow base t 1 v n xs) : n ≤ 9223372036854775807 := by
  rcases row_form h with ⟨_, h4, _⟩ | ⟨_, _, _, h4, h5, _⟩
  · omega
  · unfold maxLen at h5; omega
theorem rowX_len (b : Bx) (z : Int) : (rowX b z).length ≤ 2 := by unfold rowX; split <;> simp
theorem mix_len (op : Bool → Bool → Bool) (A X : List Int) : (mix op A X).length ≤ A.length + X.length := by
  have h := mixA_len op A X 0 0 false
  have e : mix op A X = mixA op A X 0 0 false := rfl
  rw [e]
  omega
set_option maxRecDepth 100000 in
set_option maxHeartbeats 32000000 in
theorem change_F (base : Nat) (w : World) (g : Nat) (pv : Option Addr) (n cv : Nat) (l : List BV) (op : Bool → Bool → Bool) (h0 : op false false = false) (K : FuncId) (HK : RowKit.Hid (Stays op K)) (HR : RowKit.Hid (RegAt base w g (.slice pv n cv) l)) (HN : RowKit.Hid (n = l.length)) (HOK : RowKit.Hid (RegOk (bdsOf l))) (r : R4) (HRR : RowKit.Hid (isR r)) : (change_E base w g pv n cv l op h0 K HK HR HN HOK r HRR).1 := by
  unfold change_E
  set_option tactic.hygienic false in intro
  set_option tactic.hygienic false in intros
  have HZY := Lib.hid (show gy < w5.heap.size from by obtain ⟨b2, o2, e, h2, _⟩ := HYR.out (by omega); injection e with e; injection e with e _; omega)
  have HLA := Lib.hid (show A.length ≤ 2048 from by have h1 := rowB_len HOK.out.can z; have h2 := HOK.out.few; rw [← HA.out] at h1; omega)
  have HLX := Lib.hid (show X.length ≤ 2 from by rw [HX.out]; exact rowX_len b z)
  have hla := HLA.out
  have hlx := HLX.out
  go_wp2_with fail
  refine (mixed_any op K HK.out pa pb ca cb A X wm HRA2.out HRX.out (fun x hx => by have := rowB_in HOK.out.pl z x (HA.out ▸ hx); omega) (fun x hx => by have := rowX_inr HBI.out z x (HX.out ▸ hx); omega) (by omega) (by omega)).mono ?_
  rintro e w6 ⟨v6, rfl, own6, hb6⟩
  obtain ⟨now, hnow⟩ : ∃ q, q = mix op A X := ⟨_, rfl⟩
  rw [← hnow] at own6
  have hln : now.length ≤ 2050 := by rw [hnow]; have := mix_len op A X; omega
  have HNF := Lib.hid (show now = F z from by rw [hnow, HFE.out, HA.out, HX.out]; rfl)
  obtain ⟨p6, c6, rfl, hc6, rd6⟩ := rdI_own own6 rfl
  have HO6 := Lib.hid own6
  have HR6 := Lib.hid rd6
  have HB6 := Lib.hid (HWM.out.trans (hb6.mono HWM.out.size))
  have HEQ2 := Lib.hid (show goB F (ys.drop (i + 1)) (pushB (bdsOf out) z z2 now) = mkBd F ys from by rw [HNF.out]; exact HEQ.out)
  have hwm := HWM.out.size
  have hw6 := HB6.out.size
  have HLO3 := Lib.hid (show ∀ q, q < a → ((bdsOf l).getD q zB).y1 ≤ ys.getD (i + 1) 0 from fun q hq => by rw [← HZ2.out]; have h1 := HLO.out q hq; have h2 := HZZ.out; omega)
  clear own6 rd6 hb6 hnow hla hlx HEQ HNF HLO HA HX HRA2 HRX
  by_cases h0 : now = []
  · have HMN := Lib.hid (show MainI w5 w6 F ys u12 out (i + 1) cnt from by
      have h1 := HM.out.later HB6.out
      exact ⟨h1.be, h1.bn, by have := HEQ2.out; rw [h0, pushB_skip] at this; exact this, h1.cn, by have := h1.cb; omega, by have := h1.ol; omega⟩)
    have h0n : now.length = 0 := by rw [h0]; rfl
    rw [h0n]
    clear h0 h0n HEQ2 HM HO6 HR6
    go_wp2
    go_roundw
    case rel => exact ⟨i + 1, cnt, a, out, by go_num, rfl, rfl, by omega, ha, HLO3.out, HMN⟩
    case measure => simp [intOf] <;> omega
  · have h0n : now.length ≠ 0 := fun e => h0 (List.length_eq_zero_iff.1 e)
    have h0i : ¬ (now.length : Int) = 0 := by omega
    have HNE := Lib.hid h0
    obtain ⟨po, co, rfl⟩ := row_slice HM.out.bn.row
    have hol := HM.out.ol
    have hcb := HM.out.cb
    obtain ⟨m, hm⟩ : ∃ q, q = out.length := ⟨_, rfl⟩
    rw [← hm] at HM hol ⊢
    have HML := Lib.hid hm
    clear hm
    obtain ⟨bm, hbm⟩ : ∃ q, q = lastB (bdsOf out) z now := ⟨_, rfl⟩
    have HBM := Lib.hid hbm
    clear hbm h0
    go_upto_region 28 with (fail)
    go_upto_region 29 with (fail)
    go_cut [174] (fun s wx => s = .bool bm ∧ RowKit.Hid (Below w6.heap.size w6 wx))
    case first =>
      obtain ⟨y0, y1c, y2c⟩ := FY.out w6 HB6.out
      clear y2c
      have HBN := Lib.hid (HM.out.bn.later HB6.out)
      rcases out_cases out with ho | ⟨o, E, ho⟩
      · have hb0 : bm = false := by rw [HBM.out, ho]; rfl
        have hl0 : m = 0 := by rw [HML.out, ho]; rfl
        subst hb0
        subst hl0
        clear ho
        go_quiet (fail)
        go_wp2
        all_goals go_meet
        all_goals exact ⟨rfl, Lib.hid (by first | exact Below.refl _ _ | exact below_drewN (Below.refl _ _) _)⟩
      · have hl1 : m = o.length + 1 := by rw [HML.out, ho]; simp
        have hb1 : bm = decide (E.1.y1 = z ∧ E.1.es = now) := by rw [HBM.out, ho, bdsOf_app]; exact lastB_app _ _ _ _
        obtain ⟨go, hpo, zo, _, k0, k1, k2⟩ := HBN.out.cells (i := o.length) (by rw [ho]; simp)
        subst hpo
        have hgl : out.getD o.length zBV = E := by rw [ho]; exact getD_last o E
        rw [hgl] at k1 k2
        obtain ⟨pe, ce, hev, _, hre⟩ := rdI_own (HBN.out.en E (by rw [ho]; simp)) rfl
        rw [hev] at k2
        have HRE := Lib.hid hre
        have HEL := Lib.hid (show E.1.es.length ≤ 9223372036854775807 from by have h3 := HBN.out.en E (by rw [ho]; simp); exact (row_vals_len h3))
        have hoi : ((o.length : Int) + 1) - 1 = (o.length : Int) := by omega
        subst hl1
        push_cast
        have hpos : (0 : Int) < (o.length : Int) + 1 := by omega
        have hob : (o.length : Int) ≤ 2050 := by omega
        have hwr : IntKind.i64.wrap (o.length : Int) = (o.length : Int) := wrap_nat _ (by omega)
        have HB1 := Lib.hid hb1
        clear k0 hev hre hgl ho hb1
        generalize E.1.y1 = e1 at k1 HB1
        generalize E.1.es = es at k2 HRE HEL HB1
        by_cases hy : e1 = z
        · subst hy
          have hbd : bm = decide (es = now) := by rw [HB1.out]; simp
          have HEQC := Lib.hid (fun (q : Nat) => equal_rd pe p6 ce c6 es now (w6.drewN q) (fun h => HRE.out h) (fun h => HR6.out h) HEL.out (by omega))
          subst hbd
          go_quiet ((go_at_call 68; exact Calls.quiet_of (HEQC.out _)))
          go_wp2
          all_goals go_meet
          all_goals exact ⟨rfl, Lib.hid (by first | exact Below.refl _ _ | exact below_drewN (Below.refl _ _) _)⟩
        · have hbd : bm = false := by rw [HB1.out]; simp [hy]
          have hyb : (e1 == z) = false := by simpa using hy
          subst hbd
          go_quiet (fail)
          go_wp2
          all_goals go_meet
          all_goals exact ⟨rfl, Lib.hid (by first | exact Below.refl _ _ | exact below_drewN (Below.refl _ _) _)⟩
    case rest =>
      obtain ⟨rfl, HW7⟩ := hcut
      obtain ⟨w7, hw7⟩ : ∃ q : World, q = wc := ⟨_, rfl⟩
      rw [← hw7] at HW7 ⊢
      clear hw7
      have HB7 := Lib.hid (HB6.out.trans (HW7.out.mono HB6.out.size))
      have HM7 := Lib.hid (HM.out.later HB7.out)
      have HO7 := Lib.hid (row_later HO6.out HW7.out)
      have hw7 := HW7.out.size
      have h5 := HM.out.be.size
      clear HM HO6 HR6
      obtain ⟨y0, y1c, y2c⟩ := FY.out w7 HB7.out
      cases bm
      case true =>
        obtain ⟨o, E, ho, he1, he2⟩ : ∃ o E, out = o ++ [E] ∧ E.1.y1 = z ∧ E.1.es = now := by
          rcases out_cases out with h | ⟨o, E, h⟩
          · have h2 := HBM.out; rw [h] at h2; cases h2
          · have h2 := HBM.out; rw [h, bdsOf_app] at h2; have h3 := of_decide_eq_true ((lastB_app (bdsOf o) E.1 z now).symm.trans h2.symm); exact ⟨o, E, h, h3.1, h3.2⟩
        have hl1 : m = o.length + 1 := by rw [HML.out, ho]; simp
        obtain ⟨go, hpo, zo, zo2, k0, k1, k2⟩ := HM7.out.bn.cells (i := o.length) (by rw [ho]; simp)
        subst hpo
        have HBE := Lib.hid (show Bnds w5.heap.size (w7.setCell ⟨go, o.length * 3 + 1, none⟩ (.int .i64 z2)) (.slice (some ⟨go, 0, none⟩) m co) (o ++ [(⟨E.1.y0, z2, E.1.es⟩, E.2)]) from (ho ▸ HM7.out.bn).ext (by rw [hl1]; simp) z2)
        have HPB := Lib.hid (show pushB (bdsOf out) z z2 now = bdsOf (o ++ [(⟨E.1.y0, z2, E.1.es⟩, E.2)]) from by rw [ho, bdsOf_app, bdsOf_app]; show pushB (bdsOf o ++ [E.1]) z z2 now = _; rw [pushB_last _ _ _ _ _ HNE.out, if_pos ⟨he1, he2⟩]; rfl)
        have HMN := Lib.hid (show MainI w5 (w7.setCell ⟨go, o.length * 3 + 1, none⟩ (.int .i64 z2)) F ys (.slice (some ⟨go, 0, none⟩) m co) (o ++ [(⟨E.1.y0, z2, E.1.es⟩, E.2)]) (i + 1) cnt from
          ⟨HM7.out.be.setCell (p := ⟨go, o.length * 3 + 1, none⟩) zo2 _, HBE.out, by rw [← HPB.out]; exact HEQ2.out, by rw [HM7.out.cn, ho, bdsOf_app, bdsOf_app, cntB_append, cntB_append]; rfl, by omega, by have := HM7.out.ol; rw [ho] at this; simp at this ⊢; omega⟩)
        have hfz : w7.frozen? ⟨go, o.length * 3 + 1, none⟩ = false := by
          have hrw := HM7.out.bn.row
          rw [← HML.out] at hrw
          exact hrw.frozenAt _
        have hoi : ((o.length : Int) + 1) - 1 = (o.length : Int) := by omega
        have hob : (o.length : Int) ≤ 2050 := by omega
        have hwr : IntKind.i64.wrap (o.length : Int) = (o.length : Int) := wrap_nat _ (by omega)
        subst hl1
        push_cast
        clear k0 k2 he1 he2 HBE HPB HML HEQ2 HBM y1c
        generalize (out.getD o.length zBV).1.y1 = e1 at k1
        clear ho
        go_wp2
        go_roundw
        case rel => exact ⟨i + 1, cnt, a, _, by go_num, rfl, rfl, by omega, ha, HLO3.out, HMN⟩
        case measure => simp [intOf] <;> omega
      case false =>
        have HPB := Lib.hid (show pushB (bdsOf out) z z2 now = bdsOf (out ++ [(⟨z, z2, now⟩, .slice p6 now.length c6)]) from by rw [bdsOf_app, pushB_new HNE.out HBM.out.symm]; rfl)
        have HS := Lib.hid (show ∀ w' : World, w'.heap[gy]? = w7.heap[gy]? → (gy < w'.heap.size ∧ w'.cell? ⟨gy, oy + i, none⟩ = some (.int .i64 z) ∧ w'.cell? ⟨gy, oy + (i + 1), none⟩ = some (.int .i64 z2)) from fun w' h => by
          refine ⟨?_, ?_, ?_⟩
          · have : w'.heap[gy]? = some w7.heap[gy] := by rw [h]; exact Array.getElem?_eq_getElem y0
            exact (Array.getElem?_eq_some_iff.1 this).1
          · rw [World.cell?_of_block (a := ⟨gy, oy + i, none⟩) h]; exact y1c
          · rw [World.cell?_of_block (a := ⟨gy, oy + (i + 1), none⟩) h]; exact y2c)
        skip
        have hi1 : i < ys.length := by omega
        have hwi : IntKind.i64.wrap ((i : Int) + 1) = (i : Int) + 1 := by have := wrap_nat (i + 1) (by omega); push_cast at this; exact this
        have htn : ((i : Int) + 1).toNat = i + 1 := by omega
        have hni : (0 : Int) ≤ (i : Int) + 1 := by omega
        go_upto_region 31 with (fail)
        clear y1c y2c
        have HSD := Lib.hid (show w7.drew.heap[gy]? = w7.heap[gy]? from rfl)
        refine wp_region_noPanic ?_
        refine wp_region_Z (fun w' => w'.heap[gy]? = w7.heap[gy]?) 14 (by kernel_rfl) ?_
        change wpAnyZ _ _ _ _ _ _ 15 (Array.replicate 15 false) _ _
        refine wpAnyZ_take [13] (i := 0) (v := ?vf0) (by simp only [List.getElem?_toArray, List.getElem?_cons_succ, List.getElem?_cons_zero]; rfl) (by decide +kernel) (fun _ _ _ h => h) (by rfl) ?tf0 ?sf0 ?_
        case tf0 => (intro w' h; clear h; go_simp; try rfl)
        case sf0 => exact HSD.out
        (try simp only [Act.put, List.setIfInBounds_toArray, List.set_cons_zero, List.set_cons_succ])
        refine wpAnyZ_take [13, 12, 11, 4, 3] (i := 1) (v := ?vf1) (by simp only [List.getElem?_toArray, List.getElem?_cons_succ, List.getElem?_cons_zero]; rfl) (by decide +kernel) (fun _ _ _ h => h) (by rfl) ?tf1 ?sf1 ?_
        case tf1 => (intro w' h; clear h; go_simp; try rfl)
        case sf1 => exact HSD.out
        (try simp only [Act.put, List.setIfInBounds_toArray, List.set_cons_zero, List.set_cons_succ])
        refine wpAnyZ_take [13, 12, 11, 4, 3] (i := 2) (v := ?vf2) (by simp only [List.getElem?_toArray, List.getElem?_cons_succ, List.getElem?_cons_zero]; rfl) (by decide +kernel) (fun _ _ _ h => h) (by rfl) ?tf2 ?sf2 ?_
        case tf2 => (intro w' h; clear h; go_simp; try rfl)
        case sf2 => exact HSD.out
        (try simp only [Act.put, List.setIfInBounds_toArray, List.set_cons_zero, List.set_cons_succ])
        refine wpAnyZ_take [13, 12, 11, 4] (i := 3) (v := ?vf3) (by simp only [List.getElem?_toArray, List.getElem?_cons_succ, List.getElem?_cons_zero]; rfl) (by decide +kernel) (fun _ _ _ h => h) (by rfl) ?tf3 ?sf3 ?_
        case tf3 => (intro w' h; have FK := HS.out w' h; clear h; go_split_ands; go_simp; try rfl)
        case sf3 => exact HSD.out
        (try simp only [Act.put, List.setIfInBounds_toArray, List.set_cons_zero, List.set_cons_succ])
        refine wpAnyZ_take [13, 12, 11] (i := 4) (v := ?vf4) (by simp only [List.getElem?_toArray, List.getElem?_cons_succ, List.getElem?_cons_zero]; rfl) (by decide +kernel) (fun _ _ _ h => h) (by rfl) ?tf4 ?sf4 ?_
        case tf4 => (intro w' h; have FK := HS.out w' h; clear h; go_split_ands; go_simp; try rfl)
        case sf4 => exact HSD.out
        (try simp only [Act.put, List.setIfInBounds_toArray, List.set_cons_zero, List.set_cons_succ])
        refine wpAnyZ_take [13, 12, 11, 9, 8] (i := 5) (v := ?vf5) (by simp only [List.getElem?_toArray, List.getElem?_cons_succ, List.getElem?_cons_zero]; rfl) (by decide +kernel) (fun _ _ _ h => h) (by rfl) ?tf5 ?sf5 ?_
        case tf5 => (intro w' h; clear h; go_simp; try rfl)
        case sf5 => exact HSD.out
        (try simp only [Act.put, List.setIfInBounds_toArray, List.set_cons_zero, List.set_cons_succ])
        refine wpAnyZ_take [13, 12, 11, 9, 8, 7] (i := 6) (v := ?vf6) (by simp only [List.getElem?_toArray, List.getElem?_cons_succ, List.getElem?_cons_zero]; rfl) (by decide +kernel) (fun _ _ _ h => h) (by rfl) ?tf6 ?sf6 ?_
        case tf6 => (intro w' h; clear h; go_simp; try rfl)
        case sf6 => exact HSD.out
        (try simp only [Act.put, List.setIfInBounds_toArray, List.set_cons_zero, List.set_cons_succ])
        refine wpAnyZ_take [13, 12, 11, 9, 8] (i := 7) (v := ?vf7) (by simp only [List.getElem?_toArray, List.getElem?_cons_succ, List.getElem?_cons_zero]; rfl) (by decide +kernel) (fun _ _ _ h => h) (by rfl) ?tf7 ?sf7 ?_
        case tf7 => (intro w' h; clear h; go_simp; try rfl)
        case sf7 => exact HSD.out
        (try simp only [Act.put, List.setIfInBounds_toArray, List.set_cons_zero, List.set_cons_succ])
        refine wpAnyZ_take [13, 12, 11, 9] (i := 8) (v := ?vf8) (by simp only [List.getElem?_toArray, List.getElem?_cons_succ, List.getElem?_cons_zero]; rfl) (by decide +kernel) (fun _ _ _ h => h) (by rfl) ?tf8 ?sf8 ?_
        case tf8 => (intro w' h; have FK := HS.out w' h; clear h; go_split_ands; go_simp; try rfl)
        case sf8 => exact HSD.out
        (try simp only [Act.put, List.setIfInBounds_toArray, List.set_cons_zero, List.set_cons_succ])
        refine wpAnyZ_take [13, 12, 11] (i := 9) (v := ?vf9) (by simp only [List.getElem?_toArray, List.getElem?_cons_succ, List.getElem?_cons_zero]; rfl) (by decide +kernel) (fun _ _ _ h => h) (by rfl) ?tf9 ?sf9 ?_
        case tf9 => (intro w' h; have FK := HS.out w' h; clear h; go_split_ands; go_simp; try rfl)
        case sf9 => exact HSD.out
        (try simp only [Act.put, List.setIfInBounds_toArray, List.set_cons_zero, List.set_cons_succ])
        refine wpAnyZ_take [13, 12, 11] (i := 10) (v := ?vf10) (by simp only [List.getElem?_toArray, List.getElem?_cons_succ, List.getElem?_cons_zero]; rfl) (by decide +kernel) (fun _ _ _ h => h) (by rfl) ?tf10 ?sf10 ?_
        case tf10 => (intro w' h; clear h; go_simp; try rfl)
        case sf10 => exact HSD.out
        (try simp only [Act.put, List.setIfInBounds_toArray, List.set_cons_zero, List.set_cons_succ])
        refine wpAnyZ_take [13, 12] (i := 11) (v := ?vf11) (by simp only [List.getElem?_toArray, List.getElem?_cons_succ, List.getElem?_cons_zero]; rfl) (by decide +kernel) (fun _ _ _ h => h) (by rfl) ?tf11 ?sf11 ?_
        case tf11 => (intro w' h; clear h; go_simp; try rfl)
        case sf11 => exact HSD.out
        (try simp only [Act.put, List.setIfInBounds_toArray, List.set_cons_zero, List.set_cons_succ])
        obtain ⟨w8, hw8⟩ : ∃ q, q = w7.drew.alloc (.cells #[.int .i64 z, .int .i64 z2, .slice p6 now.length c6] 86) := ⟨_, rfl⟩
        have HB8 := Lib.hid (show Below w7.heap.size w7 w8 from by rw [hw8]; exact below_al (Below.drew (Below.refl _ _)) _)
        have HS8 := Lib.hid (show w8.heap[gy]? = w7.heap[gy]? from HB8.out.block gy y0)
        have HN8 := Lib.hid (show w8.heap[w7.heap.size]? = some (.cells #[.int .i64 z, .int .i64 z2, .slice p6 now.length c6] 86 (0, 0)) from by rw [hw8]; exact heap_alloc_new _ _)
        have hz8 : w8.heap.size = w7.heap.size + 1 := by rw [hw8]; simp
        have HW8 := Lib.hid hw8
        clear hw8
        have HB8n := Lib.hid (HM7.out.bn.later HB8.out)
        have HOW := Lib.hid (show w8.ownsRow w5.heap.size 86 3 (.slice po m co) m (bnsV out) from by have h := HB8n.out.row; rw [← HML.out] at h; exact h)
        have HON := Lib.hid (show ∀ u ∈ [Value.int .i64 z, Value.int .i64 z2, Value.slice p6 now.length c6], u.oneCell' = true from fun u hu => by simp at hu; rcases hu with rfl | rfl | rfl <;> rfl)
        refine wpAnyZ_one (i := 12) (by decide +kernel) ?_
        refine wpOpK_value (v := .slice (some ⟨w7.heap.size, 0, none⟩) 1 1) (w' := w8) (by simp only [List.getElem?_toArray, List.getElem?_cons_succ, List.getElem?_cons_zero]; rfl) (by rfl) ?mf12 ⟨.inr HS8.out, ?_⟩
        case mf12 => (rw [HW8.out]; go_simp; try rfl)
        (try simp only [Act.put, List.setIfInBounds_toArray, List.set_cons_zero, List.set_cons_succ])
        refine wpAnyZ_one (i := 13) (by decide +kernel) ?_
        refine wpOpK_append (by simp only [List.getElem?_toArray, List.getElem?_cons_succ, List.getElem?_cons_zero]; rfl) rfl (.tmp 185) (.tmp 197) 80 rfl w5.heap.size 86 j0 (.agg #[.int .i64 0, .int .i64 0, .slice none 0 0]) 3 40 Try.underlying80 HJ.out.1 HJ.out.2.1 HJ.out.2.2.1 HJ.out.2.2.2 rfl (by decide) _ m _ (by rfl) HOW.out ⟨w7.heap.size, 0, none⟩ 1 1 [.int .i64 z, .int .i64 z2, .slice p6 now.length c6] (by rfl) rfl (World.news_of_block (cs := #[.int .i64 z, .int .i64 z2, .slice p6 now.length c6]) (t := 86) (fr := (0, 0)) HN8.out) HON.out (by omega) ?h63 ?hby ?hbs ?_
        case h63 => (unfold maxLen; omega)
        case hby => omega
        case hbs => first | omega | (simp; omega)
        intro g cap W2 own gr hg hlt
        have HA9 := Lib.hid own
        have HG9 := Lib.hid gr
        have hg9 := hg
        have HS9 := Lib.hid (show W2.heap[gy]? = w7.heap[gy]? from (gr.block gy (by omega) (fun e => by have h1 := (row_lt HOW.out gy e.symm).2; have h2 := HZY.out; omega)).trans HS8.out)
        clear own gr hg hlt
        refine ⟨.inr HS9.out, ?_⟩
        (try simp only [Act.put, List.setIfInBounds_toArray, List.set_cons_zero, List.set_cons_succ])
        refine wpAnyZ_one (i := 14) (by decide +kernel) ?_
        refine wpOpK_value (v := .slice (some ⟨g, 0, none⟩) (m + 1) cap) (w' := W2) (by simp only [List.getElem?_toArray, List.getElem?_cons_succ, List.getElem?_cons_zero]; rfl) (by rfl) ?mf14 ⟨.inl rfl, ?_⟩
        case mf14 => (go_simp; try rfl)
        (try simp only [Act.put, List.setIfInBounds_toArray, List.set_cons_zero, List.set_cons_succ])
        refine wpAnyZ_done (by kernel_rfl) (NoPanic.normal ?_) _
        have HOB := Lib.hid (show w8.ownsRow w5.heap.size 3 1 (.slice p6 now.length c6) now.length (vI now) from row_baseG (row_later HO7.out HB8.out) (by have := HWM.out.size; omega))
        have HBA := Lib.hid (show Bnds w5.heap.size W2 (.slice (some ⟨g, 0, none⟩) (m + 1) cap) (out ++ [(⟨z, z2, now⟩, .slice p6 now.length c6)]) from by
          have h := HA9.out
          rw [HML.out] at h ⊢
          refine HB8n.out.app HOB.out ?_ h
          exact HG9.out)
        have HBE := Lib.hid (show Below w5.heap.size w5 W2 from Below.grown (below_via HB8.out HM7.out.be) HG9.out (by omega) (fun q hq => (row_lt HOW.out q hq).2))
        have HMN := Lib.hid (show MainI w5 W2 F ys (.slice (some ⟨g, 0, none⟩) (m + 1) cap) (out ++ [(⟨z, z2, now⟩, .slice p6 now.length c6)]) (i + 1) (cnt + now.length / 2) from
          ⟨HBE.out, HBA.out, by rw [← HPB.out]; exact HEQ2.out, by rw [HM7.out.cn, bdsOf_app, cntB_append]; congr 1, by omega, by rw [List.length_append, ← HML.out, List.length_singleton]; omega⟩)
        clear HOB HBA HBE HA9 HG9 HOW HB8n HN8 HW8 HON HPB HEQ2 HBM HML HO7 HM7 HS HS8 HB8 HSD hg9
        go_wp2
        go_roundw
        case rel => exact ⟨i + 1, cnt + now.length / 2, a, _, by go_num, by go_num, rfl, by omega, ha, HLO3.out, HMN⟩
        case measure => simp [intOf] <;> omega
theorem change_any (base : Nat) (w : World) (g : Nat) (v : Value) (l : List BV) (op : Bool → Bool → Bool) (h0 : op false false = false) (K : FuncId) (hK : Stays op K) (h : RegAt base w g v l) (hok : RegOk (bdsOf l)) (r : R4) (hr : isR r) : Calls Try.prog 54 #[.pointer (some ⟨g, 0, none⟩), .agg #[.int .i64 r.x, .int .i64 r.y, .int .i64 r.w, .int .i64 r.h], .func (.func K) #[] #[]] w fun e w' => ChgR base w op g v l (bxR r) e w' := by
  obtain ⟨pv, cv, rfl⟩ := row_slice h.bn.row
  have F := change_F base w g pv l.length cv l op h0 K (Lib.hid hK) (Lib.hid h) (Lib.hid rfl) (Lib.hid hok) r (Lib.hid hr)
  have E := (change_E base w g pv l.length cv l op h0 K (Lib.hid hK) (Lib.hid h) (Lib.hid rfl) (Lib.hid hok) r (Lib.hid hr)).2 (Lib.hid F)
  have D := (change_D base w g pv l.length cv l op h0 K (Lib.hid hK) (Lib.hid h) (Lib.hid rfl) (Lib.hid hok) r (Lib.hid hr)).2 (Lib.hid E)
  have C := (change_C base w g pv l.length cv l op h0 K (Lib.hid hK) (Lib.hid h) (Lib.hid rfl) (Lib.hid hok) r (Lib.hid hr)).2 (Lib.hid D)
  have B := (change_B base w g pv l.length cv l op h0 K (Lib.hid hK) (Lib.hid h) (Lib.hid rfl) (Lib.hid hok) r (Lib.hid hr)).2 (Lib.hid C)
  exact (change_A base w g pv l.length cv l op h0 K (Lib.hid hK) (Lib.hid h) (Lib.hid rfl) (Lib.hid hok) r (Lib.hid hr)).2 (Lib.hid B)
end Go.Proofs.Ytekcheccelllcaa
