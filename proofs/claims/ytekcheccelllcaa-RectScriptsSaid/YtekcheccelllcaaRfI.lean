/- Layer 07, the reference: Do, part B. -/
import Derived.Test.YtekcheccelllcaaRfG
import Derived.BigQuiet
namespace Go.Proofs.Ytekcheccelllcaa
open Go.RowKit
set_option linter.unusedVariables false
set_option linter.unusedSimpArgs false
theorem nextR_sp (d : Nat) (L : List R4) (b : Bx) (y sa s2 : Int) (h : (sa, s2) = (if y < b.y0 ∨ b.y1 ≤ y then ((0 : Int), (0 : Int)) else (b.x0, b.x1))) : nextR d L b y = if sa < s2 ∨ d = 3 then joinR d (refRow L y) (sa, s2) else refRow L y := by
  unfold nextR
  simp only [← h]
set_option maxRecDepth 100000 in
set_option maxHeartbeats 32000000 in
theorem do_B (base : Nat) (w : World) (h : Nat) (pv : Option Addr) (n cv : Nat) (bs : List Bd) (d : Nat) (r : R4) (L : List R4) (HLL : RowKit.Hid (L = rctsB bs)) (HN : RowKit.Hid (n = L.length)) (HH : RowKit.Hid (RfAt base w h (.slice pv n cv) L)) (HOK : RowKit.Hid (RegOk bs)) (hd : d = 1 ∨ d = 2 ∨ d = 3) (HR : RowKit.Hid (isR r)) : (do_A base w h pv n cv bs d r L HLL HN HH HOK hd HR).1 := by
  unfold do_A
  set_option tactic.hygienic false in intro
  set_option tactic.hygienic false in intros
  obtain ⟨RES, hRES⟩ : ∃ q, q = rctsB (chgB (opD d) bs b) := ⟨_, rfl⟩
  have HBO := Lib.hid (show BxOk b ∧ BxIn b from by rw [HBB.out]; exact ⟨bxR_ok r, bxR_in r⟩)
  have HE0 := Lib.hid (show refL (nextR d L b) (Z.drop 0) [] 0 [] = RES from by rw [List.drop_zero, hRES, HLL.out]; exact refL_chg d HOK.out.can HBO.out.1 Z HUZ.out)
  have HRS := Lib.hid hRES
  have HZP := Lib.hid (show ∀ z ∈ Z, InP z from fun z hz => ys_inP (b := b) HOK.out HBO.out.2 (by rw [← HUZ.out]; exact hz))
  have HNP := Lib.hid (show ∀ y, (∀ p ∈ nextR d L b y, InP p.1 ∧ InP p.2) ∧ (nextR d L b y).length ≤ 3000 from fun y => ⟨by rw [HLL.out]; exact next_inP d HOK.out HBO.out.1 HBO.out.2 y, by have := nextR_lenq d L b y; rw [← HN.out] at this; omega⟩)
  have HB5W := Lib.hid (show RfAt base w5 h (.slice pv n cv) L from HH.out.later HB5.out)
  have hzb : base ≤ w5.heap.size := by have h1 := HH.out.bh; have h2 := lt_of_block HB5W.out.pr; omega
  clear hRES HUZ
  go_wp2
  go_loopw [15, 16, 17, 18] (fun ov nv tv iv wr => ∃ (i : Nat) (O : List R4) (N : List (Int × Int)) (tp : Int), iv = .int .i64 i ∧ i ≤ nz ∧ tv = .int .i64 tp ∧ O.length ≤ i * 3000 ∧ N.length ≤ 3000 ∧ RowKit.Hid (InP tp) ∧ RowKit.Hid (∀ p ∈ N, InP p.1 ∧ InP p.2) ∧ RowKit.Hid (refL (nextR d L b) (Z.drop i) O tp N = RES) ∧ RowKit.Hid (wr.ownsRow w5.heap.size 23 4 ov O.length (cellsR O)) ∧ RowKit.Hid (wr.ownsRow w5.heap.size 103 2 nv N.length (cellsP N)) ∧ RowKit.Hid (Below w5.heap.size w5 wr)) (fun _ _ _ iv _ => nz - (intOf iv).toNat)
  case atStart => exact ⟨0, [], [], 0, rfl, Nat.zero_le _, rfl, Nat.zero_le _, Nat.zero_le _, Lib.hid ⟨by decide, by decide⟩, Lib.hid (fun p hp => (by cases hp)), HE0, Lib.hid ⟨rfl, .inl ⟨rfl, rfl⟩⟩, Lib.hid ⟨rfl, .inl ⟨rfl, rfl⟩⟩, Lib.hid (Below.refl _ _)⟩
  case round =>
    (try clear HE0)
    obtain ⟨wo, rfl⟩ : ∃ wo : World, wo = wr := ⟨_, rfl⟩
    obtain ⟨i, O, N, tp, rfl, hi, rfl, hol, hnl3, HTP, HNI, HE, HO, HON, HW⟩ := hrel
    obtain ⟨pw, cw, hpw⟩ := row_slice HON.out
    obtain ⟨po, co, hpo⟩ := row_slice HO.out
    subst hpw
    subst hpo
    have hzo := HW.out.size
    by_cases hlt : i < nz
    · have hii : (i : Int) < (nz : Int) := by omega
      obtain ⟨y, hy⟩ : ∃ q, q = Z.getD i 0 := ⟨_, rfl⟩
      have hiz : i < Z.length := by rw [← HNZ.out]; exact hlt
      obtain ⟨gz, oz, hp5, zz, hzc⟩ := HRZ.out (by omega)
      have cz0 := hzc i hiz
      rw [← hy] at cz0
      have HCZ := Lib.hid (show ∀ W : World, Below w5.heap.size w5 W → gz < W.heap.size ∧ W.cell? ⟨gz, oz + i, none⟩ = some (.int .i64 y) from fun W hb => ⟨by have := hb.size; omega, by rw [(bcell hb).1 _ _ zz]; exact cz0⟩)
      have HIY := Lib.hid (show InP y from by rw [hy]; exact HZP.out _ (by rw [List.getD_eq_getElem?_getD, List.getElem?_eq_getElem hiz]; exact List.getElem_mem _))
      have HDZ : Z.drop i = y :: Z.drop (i + 1) := by rw [List.drop_eq_getElem_cons hiz, hy, List.getD_eq_getElem?_getD, List.getElem?_eq_getElem hiz]; rfl
      have HNIL : (Z.drop (i + 1) = []) ↔ ¬ i + 1 < nz := by rw [List.drop_eq_nil_iff, ← HNZ.out]; omega
      obtain ⟨N2, hN2⟩ : ∃ q, q = (if Z.drop (i + 1) = [] then [] else nextR d L b y) := ⟨_, rfl⟩
      have hst := HE.out
      rw [HDZ, refL_step, ← hN2] at hst
      have HST := Lib.hid hst
      have HN2A := Lib.hid (show i + 1 < nz → N2 = nextR d L b y from fun h => by rw [hN2, if_neg (fun e => (HNIL.1 e) h)])
      have HN2B := Lib.hid (show ¬ i + 1 < nz → N2 = [] from fun h => by rw [hN2, if_pos (HNIL.2 h)])
      have HN2P := Lib.hid (show (∀ p ∈ N2, InP p.1 ∧ InP p.2) ∧ N2.length ≤ 3000 from by
        by_cases h : i + 1 < nz
        · rw [HN2A.out h]; exact HNP.out y
        · rw [HN2B.out h]; exact ⟨fun p hp => (by cases hp), by simp⟩)
      subst hp5
      clear hst hN2 HNIL HDZ hy cz0 hzc HE
      obtain ⟨za, ca⟩ := HCZ.out wo HW.out
      have hwi : IntKind.i64.wrap ((i : Int) + 1) = (i : Int) + 1 := sizes_small _ (by omega)
      go_upto_if 109 with (fail)
      go_cut [19, 109] (fun s _ wx => ∃ pn cn, s = .slice pn N2.length cn ∧ RowKit.Hid (wx.ownsRow w5.heap.size 103 2 (.slice pn N2.length cn) N2.length (cellsP N2)) ∧ RowKit.Hid (Below wo.heap.size wo wx))
      case first =>
        by_cases hl1 : i + 1 < nz
        · have hl1i : (i : Int) + 1 < (nz : Int) := by omega
          have hl1d : decide ((i : Int) + 1 < (nz : Int)) = true := decide_eq_true hl1i
          have hN2 := HN2A.out hl1
          have HN2E := Lib.hid hN2
          clear hN2
          go_upto_region 24 with (fail)
          obtain ⟨sb, hsb⟩ : ∃ q, q = wo.heap.size := ⟨_, rfl⟩
          obtain ⟨w6, hw6⟩ : ∃ q : World, q = wo.alloc (.cells #[.int .i64 x0, .int .i64 x1] 103) := ⟨_, rfl⟩
          rw [← hw6, ← hsb]
          have HB6 := Lib.hid (show Below wo.heap.size wo w6 from by rw [hw6]; exact below_al (Below.refl _ _) _)
          have HN6 := Lib.hid (show w6.heap[sb]? = some (.cells #[.int .i64 x0, .int .i64 x1] 103 (0, 0)) from by rw [hw6, hsb]; exact heap_alloc_new _ _)
          have HSB := Lib.hid hsb
          clear hw6 hsb za ca
          obtain ⟨za, ca⟩ := HCZ.out w6 (HW.out.trans (HB6.out.mono hzo))
          go_cut [126] (fun s wx => s = .bool (decide (y < y0 ∨ y1 ≤ y)) ∧ wx = w6)
          case first =>
            by_cases e1 : y < y0
            · have ed : decide (y < y0) = true := decide_eq_true e1
              go_wp2
              all_goals go_meet
              all_goals exact ⟨by simp [e1], rfl⟩
            · have ed : decide (y < y0) = false := decide_eq_false e1
              by_cases e2 : y1 ≤ y
              · have ed2 : decide (y1 ≤ y) = true := decide_eq_true e2
                go_wp2
                all_goals go_meet
                all_goals exact ⟨by simp [e1, e2], rfl⟩
              · have ed2 : decide (y1 ≤ y) = false := decide_eq_false e2
                go_wp2
                all_goals go_meet
                all_goals exact ⟨by (simp [e1, e2]; try omega), rfl⟩
          case rest =>
            obtain ⟨rfl, rfl⟩ := hcut
            obtain ⟨w6, rfl⟩ : ∃ q : World, q = wc := ⟨_, rfl⟩
            obtain ⟨sa, s2, hsp⟩ : ∃ sa s2 : Int, (sa, s2) = (if y < b.y0 ∨ b.y1 ≤ y then ((0 : Int), (0 : Int)) else (b.x0, b.x1)) := ⟨_, _, rfl⟩
            have HSP := Lib.hid hsp
            go_upto_if 126 with (fail)
            go_cut [126] (fun _ wx => RowKit.Hid (wx.heap[sb]? = some (.cells #[.int .i64 sa, .int .i64 s2] 103 (0, 0))) ∧ RowKit.Hid (Below wo.heap.size wo wx))
            case first =>
              rw [← HY0.out.1, ← HY0.out.2, ← HX0.out.1, ← HX0.out.2] at hsp
              by_cases ho : y < y0 ∨ y1 ≤ y
              · rw [if_pos ho] at hsp
                injection hsp with e1 e2
                rw [decide_eq_true ho]
                have zs := lt_of_block HN6.out
                have cs0 : w6.cell? ⟨sb, 0, none⟩ = some (.int .i64 x0) := by rw [cell_of_row _ _ _ _ _ _ HN6.out]; rfl
                have cs1 : w6.cell? ⟨sb, 1, none⟩ = some (.int .i64 x1) := by rw [cell_of_row _ _ _ _ _ _ HN6.out]; rfl
                have fz0 : w6.frozen? ⟨sb, 0, none⟩ = false := frozen_of_row _ _ _ _ _ HN6.out
                have fz1 : w6.frozen? ⟨sb, 1, none⟩ = false := frozen_of_row _ _ _ _ _ HN6.out
                clear ho
                go_wp2
                all_goals go_meet
                all_goals exact ⟨Lib.hid (by rw [e1, e2]; exact set_blk (set_blk HN6.out 0 _) 1 _), Lib.hid ((HB6.out.setCell (p := ⟨sb, 0, none⟩) (by rw [HSB.out]; exact Nat.le_refl _) _).setCell (p := ⟨sb, 1, none⟩) (by rw [HSB.out]; exact Nat.le_refl _) _)⟩
              · rw [if_neg ho] at hsp
                injection hsp with e1 e2
                rw [decide_eq_false ho]
                clear ho
                go_wp2
                all_goals go_meet
                all_goals exact ⟨Lib.hid (by rw [e1, e2]; exact HN6.out), HB6⟩
            case rest =>
              obtain ⟨HN7, HB7⟩ := hcut
              obtain ⟨w7, rfl⟩ : ∃ q : World, q = wc := ⟨_, rfl⟩
              clear HN6 HB6 hsp za ca
              have HW7 := Lib.hid (HW.out.trans (HB7.out.mono hzo))
              have hz7 := HW7.out.size
              obtain ⟨za, ca⟩ := HCZ.out w7 HW7.out
              have HR7 := Lib.hid (HB5W.out.later HW7.out)
              have CR := Lib.hid (row_any base w7 h (.slice pv n cv) L y HR7.out (by rw [← HN.out]; omega) HPL.out)
              go_wp2_with fail
              refine CR.out.mono ?_
              rintro e w8 ⟨v8, rfl, own8, hb8⟩
              obtain ⟨p8, c8, he8⟩ := row_slice own8
              subst he8
              have HRL := Lib.hid (refRow_cnt L y)
              have HN2F := Lib.hid (HN2E.out.trans (nextR_sp d L b y sa s2 HSP.out))
              obtain ⟨R, hR⟩ : ∃ R, R = refRow L y := ⟨_, rfl⟩
              rw [← hR] at own8 HRL HN2F ⊢
              clear hR
              have hrl := HRL.out
              rw [← HN.out] at hrl
              have HB8 := Lib.hid (below_via hb8 HB7.out)
              have HN8 := Lib.hid ((hb8.block sb (lt_of_block HN7.out)).trans HN7.out)
              have hz8 : w5.heap.size ≤ w8.heap.size := Nat.le_trans hz7 hb8.size
              have HO8 := Lib.hid own8
              have zs := lt_of_block HN8.out
              have cs0 : w8.cell? ⟨sb, 0, none⟩ = some (.int .i64 sa) := by rw [cell_of_row _ _ _ _ _ _ HN8.out]; rfl
              have cs1 : w8.cell? ⟨sb, 1, none⟩ = some (.int .i64 s2) := by rw [cell_of_row _ _ _ _ _ _ HN8.out]; rfl
              clear own8 hb8 CR HR7 HW7 HN7 HB7 za ca HRL
              have CJ := Lib.hid (joined_any p8 R.length c8 R (sa, s2) d w8 rfl (by omega) (row_spAt HO8.out) hd)
              by_cases c1 : sa < s2
              · have cd : decide (sa < s2) = true := decide_eq_true c1
                go_wp2_with fail
                refine CJ.out.mono ?_
                rintro e w9 ⟨v9, rfl, own9, hb9⟩
                obtain ⟨p9, c9, he9⟩ := row_slice own9
                subst he9
                have hn2 : joinR d R (sa, s2) = N2 := by rw [HN2F.out, if_pos (.inl c1)]
                rw [hn2] at own9 ⊢
                have HO9 := Lib.hid (row_baseG own9 hz8)
                have HB9 := Lib.hid (below_via hb9 HB8.out)
                clear own9 hb9 hn2 CJ
                go_wp2
                all_goals go_meet
                all_goals exact ⟨p9, c9, rfl, HO9, HB9⟩
              · have cd : decide (sa < s2) = false := decide_eq_false c1
                by_cases c2 : d = 3
                · have ce : ((d : Int) == 3) = true := by simp; omega
                  have C2 := Lib.hid c2
                  clear c2
                  go_wp2_with fail
                  refine CJ.out.mono ?_
                  rintro e w9 ⟨v9, rfl, own9, hb9⟩
                  obtain ⟨p9, c9, he9⟩ := row_slice own9
                  subst he9
                  have hn2 : joinR d R (sa, s2) = N2 := by rw [HN2F.out, if_pos (.inr C2.out)]
                  rw [hn2] at own9 ⊢
                  have HO9 := Lib.hid (row_baseG own9 hz8)
                  have HB9 := Lib.hid (below_via hb9 HB8.out)
                  clear own9 hb9 hn2 CJ
                  go_wp2
                  all_goals go_meet
                  all_goals exact ⟨p9, c9, rfl, HO9, HB9⟩
                · have ce : ((d : Int) == 3) = false := by simp; omega
                  have hn2 : R = N2 := by rw [HN2F.out, if_neg (fun h => h.elim c1 c2)]
                  have HO9 := Lib.hid (row_baseG HO8.out hz7)
                  rw [hn2] at HO9 ⊢
                  clear hn2 CJ
                  go_wp2
                  all_goals go_meet
                  all_goals exact ⟨p8, c8, rfl, HO9, HB8⟩
        · have hl1i : ¬ (i : Int) + 1 < (nz : Int) := by omega
          have hl1d : decide ((i : Int) + 1 < (nz : Int)) = false := decide_eq_false hl1i
          have hn2 := HN2B.out hl1
          subst hn2
          go_wp2
          all_goals go_meet
          all_goals exact ⟨none, 0, rfl, Lib.hid ⟨rfl, .inl ⟨rfl, rfl⟩⟩, Lib.hid (Below.refl _ _)⟩
      case rest =>
        obtain ⟨pn, cn, rfl, HN2O, HWC⟩ := hcut
        obtain ⟨w6, rfl⟩ : ∃ q : World, q = wc := ⟨_, rfl⟩
        have HW6 := Lib.hid (HW.out.trans (HWC.out.mono hzo))
        have HO6 := Lib.hid (row_later HO.out HWC.out)
        have HON6 := Lib.hid (row_later HON.out HWC.out)
        have hnl4 := HN2P.out.2
        clear HO HON za ca HN2A HN2B HWC HW
        have CA := Lib.hid (alike_any pw pn N.length N2.length cw cn N N2 w6 rfl rfl (by omega) (row_spAt HON6.out) (row_spAt HN2O.out))
        go_wp2_with fail
        refine CA.out.mono ?_
        rintro e w7 ⟨rfl, hb7⟩
        have HW7 := Lib.hid (HW6.out.trans (hb7.mono HW6.out.size))
        have HO7 := Lib.hid (row_later HO6.out hb7)
        have HON7 := Lib.hid (row_later HON6.out hb7)
        have HN27 := Lib.hid (row_later HN2O.out hb7)
        clear hb7 HW6 HO6 HON6 HN2O CA
        by_cases heq : N = N2
        · rw [decide_eq_true heq]
          have HE2 := Lib.hid (show refL (nextR d L b) (Z.drop (i + 1)) O tp N = RES from by have := HST.out; rw [if_pos heq] at this; exact this)
          clear heq HST
          go_wp2
          go_roundw
          case rel => exact ⟨i + 1, O, N, tp, by go_num, by omega, rfl, by omega, hnl3, HTP, HNI, HE2, HO7, HON7, HW7⟩
          case measure => simp [intOf] <;> omega
        · rw [decide_eq_false heq]
          have HE2 := Lib.hid (show refL (nextR d L b) (Z.drop (i + 1)) (O ++ rectSp tp y N) y N2 = RES from by have := HST.out; rw [if_neg heq] at this; exact this)
          clear heq HST
          have HO8 := Lib.hid (show w7.ownsRow w5.heap.size 23 4 (.slice po O.length co) (O ++ rectSp tp y (N.take 0)).length (cellsR (O ++ rectSp tp y (N.take 0))) from by rw [List.take_zero]; simp only [rectSp, List.map_nil, List.append_nil]; exact HO7.out)
          clear HO7
          go_wp2
          go_loopw [15, 21] (fun ov kv wr => ∃ k : Nat, kv = .int .i64 k ∧ k ≤ N.length ∧ RowKit.Hid (wr.ownsRow w5.heap.size 23 4 ov (O ++ rectSp tp y (N.take k)).length (cellsR (O ++ rectSp tp y (N.take k)))) ∧ RowKit.Hid (wr.ownsRow w5.heap.size 103 2 (.slice pw N.length cw) N.length (cellsP N)) ∧ RowKit.Hid (wr.ownsRow w5.heap.size 103 2 (.slice pn N2.length cn) N2.length (cellsP N2)) ∧ RowKit.Hid (Below w5.heap.size w5 wr)) (fun _ kv _ => N.length - (intOf kv).toNat)
          case atStart => exact ⟨0, rfl, Nat.zero_le _, HO8, HON7, HN27, HW7⟩
          case round =>
            clear HO8 HON7 HN27 HW7
            obtain ⟨k, rfl, hk, HO, HON, HNO, HW⟩ := hrel
            by_cases hkn : k < N.length
            · have hkk : (k : Int) < (N.length : Int) := by omega
              obtain ⟨gn, hgn⟩ : ∃ g, pw = some ⟨g, 0, none⟩ := by
                rcases row_form HON.out with ⟨_, e, _⟩ | ⟨g, c, e, _⟩
                · omega
                · injection e with e1 e2 e3; exact ⟨g, e1⟩
              subst hgn
              have c0 := row_cells HON.out _ _ (cellsQ_at N k hkn).1
              have c1 := row_cells HON.out _ _ (cellsQ_at N k hkn).2
              rw [Nat.zero_add] at c0 c1
              have hin := HNI.out (N.getD k (0, 0)) (by rw [List.getD_eq_getElem?_getD, List.getElem?_eq_getElem hkn]; exact List.getElem_mem _)
              have HTK := Lib.hid (rectSp_take tp y N k hkn)
              generalize N.getD k (0, 0) = pr at c0 c1 hin HTK
              obtain ⟨pa, pb⟩ := pr
              simp only at c0 c1 hin HTK
              obtain ⟨⟨a1, a2⟩, a3, a4⟩ := hin
              obtain ⟨t1, t2⟩ := HTP.out
              obtain ⟨y1b, y2b⟩ := HIY.out
              have hw1 : IntKind.i64.wrap (pb - pa) = pb - pa := sizes_small _ (by omega)
              have hw2 : IntKind.i64.wrap (y - tp) = y - tp := sizes_small _ (by omega)
              have hw3 : wrap64 (pb - pa) = pb - pa := by unfold wrap64; omega
              have hw4 : wrap64 (y - tp) = y - tp := by unfold wrap64; omega
              clear a1 a2 a3 a4 t1 t2 y1b y2b
              have zn := (row_lt HON.out gn rfl).1
              obtain ⟨zg, cg⟩ := HCZ.out wr HW.out
              have HC := Lib.hid (And.intro c0 (And.intro c1 cg))
              have HS := Lib.hid (show ∀ w' : World, (w'.heap[gn]? = wr.heap[gn]? ∧ w'.heap[gz]? = wr.heap[gz]?) → (w'.cell? ⟨gn, k * 2, none⟩ = some (.int .i64 pa) ∧ w'.cell? ⟨gn, k * 2 + 1, none⟩ = some (.int .i64 pb) ∧ w'.cell? ⟨gz, oz + i, none⟩ = some (.int .i64 y)) from fun w' hk => by
                obtain ⟨c0, c1, cg⟩ := HC.out
                exact ⟨by rw [World.cell?_of_block (a := ⟨gn, k * 2, none⟩) hk.1]; exact c0, by rw [World.cell?_of_block (a := ⟨gn, k * 2 + 1, none⟩) hk.1]; exact c1, by rw [World.cell?_of_block (a := ⟨gz, oz + i, none⟩) hk.2]; exact cg⟩)
              clear c0 c1 cg HC
              have HSL := Lib.hid (rectSp_len tp y (N.take k))
              obtain ⟨T, hT⟩ : ∃ T, T = O ++ rectSp tp y (N.take k) := ⟨_, rfl⟩
              rw [← hT] at HO
              obtain ⟨m, hm⟩ : ∃ m, m = T.length := ⟨_, rfl⟩
              have hml : m ≤ i * 3000 + 3000 := by rw [hm, hT, List.length_append, HSL.out, List.length_take]; omega
              have hmb : m ≤ 400000000 := by have : i * 3000 ≤ 100000 * 3000 := Nat.mul_le_mul_right _ (by omega); omega
              have HML := Lib.hid hm
              have HTT := Lib.hid hT
              rw [← hm] at HO
              obtain ⟨pt, ct, hpt⟩ := row_slice HO.out
              subst hpt
              have HOW := HO
              have hzr := HW.out.size
              clear hm hT HSL
              have HNL := Lib.hid (show (Value.slice pt m ct).ownBlock ≠ some gn from fun e => by
                rcases row_ne HOW.out HON.out (by decide) with h1 | h1
                · rw [h1] at e; cases e
                · exact h1 (e.trans rfl))
              have HONW := HON
              have HNZ2 := Lib.hid (show (Value.slice pt m ct).ownBlock ≠ some gz from fun e => by have := (row_lt HOW.out gz e).2; omega)
              go_upto_region 33 with (fail)
              have HSD := Lib.hid (show (wr.drew).heap[gn]? = wr.heap[gn]? ∧ (wr.drew).heap[gz]? = wr.heap[gz]? from ⟨rfl, rfl⟩)
              refine wp_region_noPanic ?_
              refine wp_region_Z (fun w' => w'.heap[gn]? = wr.heap[gn]? ∧ w'.heap[gz]? = wr.heap[gz]?) 27 (by kernel_rfl) ?_
              change wpAnyZ _ _ _ _ _ _ 28 (Array.replicate 28 false) _ _
              refine wpAnyZ_take [26] (i := 0) (v := ?va0) (by simp only [List.getElem?_toArray, List.getElem?_cons_succ, List.getElem?_cons_zero]; rfl) (by decide +kernel) (fun _ _ _ h => h) (by rfl) ?ta0 ?sa0 ?_
              case ta0 => (intro w' h; clear h; go_simp; try rfl)
              case sa0 => exact HSD.out
              (try simp only [Act.put, List.setIfInBounds_toArray, List.set_cons_zero, List.set_cons_succ])
              refine wpAnyZ_take [26, 25, 24, 5, 4, 3] (i := 1) (v := ?va1) (by simp only [List.getElem?_toArray, List.getElem?_cons_succ, List.getElem?_cons_zero]; rfl) (by decide +kernel) (fun _ _ _ h => h) (by rfl) ?ta1 ?sa1 ?_
              case ta1 => (intro w' h; clear h; go_simp; try rfl)
              case sa1 => exact HSD.out
              (try simp only [Act.put, List.setIfInBounds_toArray, List.set_cons_zero, List.set_cons_succ])
              refine wpAnyZ_take [26, 25, 24, 5, 4, 3] (i := 2) (v := ?va2) (by simp only [List.getElem?_toArray, List.getElem?_cons_succ, List.getElem?_cons_zero]; rfl) (by decide +kernel) (fun _ _ _ h => h) (by rfl) ?ta2 ?sa2 ?_
              case ta2 => (intro w' h; clear h; go_simp; try rfl)
              case sa2 => exact HSD.out
              (try simp only [Act.put, List.setIfInBounds_toArray, List.set_cons_zero, List.set_cons_succ])
              refine wpAnyZ_take [26, 25, 24, 5, 4] (i := 3) (v := ?va3) (by simp only [List.getElem?_toArray, List.getElem?_cons_succ, List.getElem?_cons_zero]; rfl) (by decide +kernel) (fun _ _ _ h => h) (by rfl) ?ta3 ?sa3 ?_
              case ta3 => (intro w' h; clear h; go_simp; try rfl)
              case sa3 => exact HSD.out
              (try simp only [Act.put, List.setIfInBounds_toArray, List.set_cons_zero, List.set_cons_succ])
              refine wpAnyZ_take [26, 25, 24, 5] (i := 4) (v := ?va4) (by simp only [List.getElem?_toArray, List.getElem?_cons_succ, List.getElem?_cons_zero]; rfl) (by decide +kernel) (fun _ _ _ h => h) (by rfl) ?ta4 ?sa4 ?_
              case ta4 => (intro w' h; clear h; go_simp; try rfl)
              case sa4 => exact HSD.out
              (try simp only [Act.put, List.setIfInBounds_toArray, List.set_cons_zero, List.set_cons_succ])
              refine wpAnyZ_take [26, 25, 24] (i := 5) (v := ?va5) (by simp only [List.getElem?_toArray, List.getElem?_cons_succ, List.getElem?_cons_zero]; rfl) (by decide +kernel) (fun _ _ _ h => h) (by rfl) ?ta5 ?sa5 ?_
              case ta5 => (intro w' h; have FK := HS.out w' h; clear h; go_split_ands; go_simp; try rfl)
              case sa5 => exact HSD.out
              (try simp only [Act.put, List.setIfInBounds_toArray, List.set_cons_zero, List.set_cons_succ])
              refine wpAnyZ_take [26, 25, 24] (i := 6) (v := ?va6) (by simp only [List.getElem?_toArray, List.getElem?_cons_succ, List.getElem?_cons_zero]; rfl) (by decide +kernel) (fun _ _ _ h => h) (by rfl) ?ta6 ?sa6 ?_
              case ta6 => (intro w' h; clear h; go_simp; try rfl)
              case sa6 => exact HSD.out
              (try simp only [Act.put, List.setIfInBounds_toArray, List.set_cons_zero, List.set_cons_succ])
              refine wpAnyZ_take [26, 25, 24, 17, 11, 10, 9] (i := 7) (v := ?va7) (by simp only [List.getElem?_toArray, List.getElem?_cons_succ, List.getElem?_cons_zero]; rfl) (by decide +kernel) (fun _ _ _ h => h) (by rfl) ?ta7 ?sa7 ?_
              case ta7 => (intro w' h; clear h; go_simp; try rfl)
              case sa7 => exact HSD.out
              (try simp only [Act.put, List.setIfInBounds_toArray, List.set_cons_zero, List.set_cons_succ])
              refine wpAnyZ_take [26, 25, 24, 17, 11, 10, 9] (i := 8) (v := ?va8) (by simp only [List.getElem?_toArray, List.getElem?_cons_succ, List.getElem?_cons_zero]; rfl) (by decide +kernel) (fun _ _ _ h => h) (by rfl) ?ta8 ?sa8 ?_
              case ta8 => (intro w' h; clear h; go_simp; try rfl)
              case sa8 => exact HSD.out
              (try simp only [Act.put, List.setIfInBounds_toArray, List.set_cons_zero, List.set_cons_succ])
              refine wpAnyZ_take [26, 25, 24, 17, 11, 10] (i := 9) (v := ?va9) (by simp only [List.getElem?_toArray, List.getElem?_cons_succ, List.getElem?_cons_zero]; rfl) (by decide +kernel) (fun _ _ _ h => h) (by rfl) ?ta9 ?sa9 ?_
              case ta9 => (intro w' h; clear h; go_simp; try rfl)
              case sa9 => exact HSD.out
              (try simp only [Act.put, List.setIfInBounds_toArray, List.set_cons_zero, List.set_cons_succ])
              refine wpAnyZ_take [26, 25, 24, 17, 11] (i := 10) (v := ?va10) (by simp only [List.getElem?_toArray, List.getElem?_cons_succ, List.getElem?_cons_zero]; rfl) (by decide +kernel) (fun _ _ _ h => h) (by rfl) ?ta10 ?sa10 ?_
              case ta10 => (intro w' h; clear h; go_simp; try rfl)
              case sa10 => exact HSD.out
              (try simp only [Act.put, List.setIfInBounds_toArray, List.set_cons_zero, List.set_cons_succ])
              refine wpAnyZ_take [26, 25, 24, 17] (i := 11) (v := ?va11) (by simp only [List.getElem?_toArray, List.getElem?_cons_succ, List.getElem?_cons_zero]; rfl) (by decide +kernel) (fun _ _ _ h => h) (by rfl) ?ta11 ?sa11 ?_
              case ta11 => (intro w' h; have FK := HS.out w' h; clear h; go_split_ands; go_simp; try rfl)
              case sa11 => exact HSD.out
              (try simp only [Act.put, List.setIfInBounds_toArray, List.set_cons_zero, List.set_cons_succ])
              refine wpAnyZ_take [26, 25, 24, 17, 16, 15, 14] (i := 12) (v := ?va12) (by simp only [List.getElem?_toArray, List.getElem?_cons_succ, List.getElem?_cons_zero]; rfl) (by decide +kernel) (fun _ _ _ h => h) (by rfl) ?ta12 ?sa12 ?_
              case ta12 => (intro w' h; clear h; go_simp; try rfl)
              case sa12 => exact HSD.out
              (try simp only [Act.put, List.setIfInBounds_toArray, List.set_cons_zero, List.set_cons_succ])
              refine wpAnyZ_take [26, 25, 24, 17, 16, 15, 14] (i := 13) (v := ?va13) (by simp only [List.getElem?_toArray, List.getElem?_cons_succ, List.getElem?_cons_zero]; rfl) (by decide +kernel) (fun _ _ _ h => h) (by rfl) ?ta13 ?sa13 ?_
              case ta13 => (intro w' h; clear h; go_simp; try rfl)
              case sa13 => exact HSD.out
              (try simp only [Act.put, List.setIfInBounds_toArray, List.set_cons_zero, List.set_cons_succ])
              refine wpAnyZ_take [26, 25, 24, 17, 16, 15] (i := 14) (v := ?va14) (by simp only [List.getElem?_toArray, List.getElem?_cons_succ, List.getElem?_cons_zero]; rfl) (by decide +kernel) (fun _ _ _ h => h) (by rfl) ?ta14 ?sa14 ?_
              case ta14 => (intro w' h; clear h; go_simp; try rfl)
              case sa14 => exact HSD.out
              (try simp only [Act.put, List.setIfInBounds_toArray, List.set_cons_zero, List.set_cons_succ])
              refine wpAnyZ_take [26, 25, 24, 17, 16] (i := 15) (v := ?va15) (by simp only [List.getElem?_toArray, List.getElem?_cons_succ, List.getElem?_cons_zero]; rfl) (by decide +kernel) (fun _ _ _ h => h) (by rfl) ?ta15 ?sa15 ?_
              case ta15 => (intro w' h; clear h; go_simp; try rfl)
              case sa15 => exact HSD.out
              (try simp only [Act.put, List.setIfInBounds_toArray, List.set_cons_zero, List.set_cons_succ])
              refine wpAnyZ_take [26, 25, 24, 17] (i := 16) (v := ?va16) (by simp only [List.getElem?_toArray, List.getElem?_cons_succ, List.getElem?_cons_zero]; rfl) (by decide +kernel) (fun _ _ _ h => h) (by rfl) ?ta16 ?sa16 ?_
              case ta16 => (intro w' h; have FK := HS.out w' h; clear h; go_split_ands; go_simp; try rfl)
              case sa16 => exact HSD.out
              (try simp only [Act.put, List.setIfInBounds_toArray, List.set_cons_zero, List.set_cons_succ])
              refine wpAnyZ_take [26, 25, 24] (i := 17) (v := ?va17) (by simp only [List.getElem?_toArray, List.getElem?_cons_succ, List.getElem?_cons_zero]; rfl) (by decide +kernel) (fun _ _ _ h => h) (by rfl) ?ta17 ?sa17 ?_
              case ta17 => (intro w' h; clear h; go_simp; try rfl)
              case sa17 => exact HSD.out
              (try simp only [Act.put, List.setIfInBounds_toArray, List.set_cons_zero, List.set_cons_succ])
              refine wpAnyZ_take [26, 25, 24, 23, 21, 20] (i := 18) (v := ?va18) (by simp only [List.getElem?_toArray, List.getElem?_cons_succ, List.getElem?_cons_zero]; rfl) (by decide +kernel) (fun _ _ _ h => h) (by rfl) ?ta18 ?sa18 ?_
              case ta18 => (intro w' h; clear h; go_simp; try rfl)
              case sa18 => exact HSD.out
              (try simp only [Act.put, List.setIfInBounds_toArray, List.set_cons_zero, List.set_cons_succ])
              refine wpAnyZ_take [26, 25, 24, 23, 21, 20] (i := 19) (v := ?va19) (by simp only [List.getElem?_toArray, List.getElem?_cons_succ, List.getElem?_cons_zero]; rfl) (by decide +kernel) (fun _ _ _ h => h) (by rfl) ?ta19 ?sa19 ?_
              case ta19 => (intro w' h; clear h; go_simp; try rfl)
              case sa19 => exact HSD.out
              (try simp only [Act.put, List.setIfInBounds_toArray, List.set_cons_zero, List.set_cons_succ])
              refine wpAnyZ_take [26, 25, 24, 23, 21] (i := 20) (v := ?va20) (by simp only [List.getElem?_toArray, List.getElem?_cons_succ, List.getElem?_cons_zero]; rfl) (by decide +kernel) (fun _ _ _ h => h) (by rfl) ?ta20 ?sa20 ?_
              case ta20 => (intro w' h; clear h; go_simp; try rfl)
              case sa20 => exact HSD.out
              (try simp only [Act.put, List.setIfInBounds_toArray, List.set_cons_zero, List.set_cons_succ])
              refine wpAnyZ_take [26, 25, 24, 23] (i := 21) (v := ?va21) (by simp only [List.getElem?_toArray, List.getElem?_cons_succ, List.getElem?_cons_zero]; rfl) (by decide +kernel) (fun _ _ _ h => h) (by rfl) ?ta21 ?sa21 ?_
              case ta21 => (intro w' h; have FK := HS.out w' h; clear h; go_split_ands; go_simp; try rfl)
              case sa21 => exact HSD.out
              (try simp only [Act.put, List.setIfInBounds_toArray, List.set_cons_zero, List.set_cons_succ])
              refine wpAnyZ_take [26, 25, 24, 23] (i := 22) (v := ?va22) (by simp only [List.getElem?_toArray, List.getElem?_cons_succ, List.getElem?_cons_zero]; rfl) (by decide +kernel) (fun _ _ _ h => h) (by rfl) ?ta22 ?sa22 ?_
              case ta22 => (intro w' h; clear h; go_simp; try rfl)
              case sa22 => exact HSD.out
              (try simp only [Act.put, List.setIfInBounds_toArray, List.set_cons_zero, List.set_cons_succ])
              refine wpAnyZ_take [26, 25, 24] (i := 23) (v := ?va23) (by simp only [List.getElem?_toArray, List.getElem?_cons_succ, List.getElem?_cons_zero]; rfl) (by decide +kernel) (fun _ _ _ h => h) (by rfl) ?ta23 ?sa23 ?_
              case ta23 => (intro w' h; clear h; go_simp; try rfl)
              case sa23 => exact HSD.out
              (try simp only [Act.put, List.setIfInBounds_toArray, List.set_cons_zero, List.set_cons_succ])
              refine wpAnyZ_take [26, 25] (i := 24) (v := ?va24) (by simp only [List.getElem?_toArray, List.getElem?_cons_succ, List.getElem?_cons_zero]; rfl) (by decide +kernel) (fun _ _ _ h => h) (by rfl) ?ta24 ?sa24 ?_
              case ta24 => (intro w' h; clear h; go_simp; try rfl)
              case sa24 => exact HSD.out
              (try simp only [Act.put, List.setIfInBounds_toArray, List.set_cons_zero, List.set_cons_succ])
              obtain ⟨w8, hw8⟩ : ∃ t, t = wr.drew.alloc (.cells #[.int .i64 pa, .int .i64 tp, .int .i64 (pb - pa), .int .i64 (y - tp)] 23) := ⟨_, rfl⟩
              have HB8 := Lib.hid (show Below wr.heap.size wr w8 from by rw [hw8]; exact below_al (Below.drew (Below.refl _ _)) _)
              have HS8 := Lib.hid (show w8.heap[gn]? = wr.heap[gn]? ∧ w8.heap[gz]? = wr.heap[gz]? from ⟨HB8.out.block gn (zn), HB8.out.block gz (zg)⟩)
              have HN8 := Lib.hid (show w8.heap[wr.heap.size]? = some (.cells #[.int .i64 pa, .int .i64 tp, .int .i64 (pb - pa), .int .i64 (y - tp)] 23 (0, 0)) from by rw [hw8]; exact heap_alloc_new _ _)
              have hz8 : w8.heap.size = wr.heap.size + 1 := by rw [hw8]; simp
              have HW8 := Lib.hid hw8
              clear hw8
              have HOX := Lib.hid (row_later HOW.out HB8.out)
              have HON := Lib.hid (show ∀ u ∈ [Value.int .i64 pa, Value.int .i64 tp, Value.int .i64 (pb - pa), Value.int .i64 (y - tp)], u.oneCell' = true from fun u hu => by simp at hu; rcases hu with rfl | rfl | rfl | rfl <;> rfl)
              refine wpAnyZ_one (i := 25) (by decide +kernel) ?_
              refine wpOpK_value (v := .slice (some ⟨wr.heap.size, 0, none⟩) 1 1) (w' := w8) (by simp only [List.getElem?_toArray, List.getElem?_cons_succ, List.getElem?_cons_zero]; rfl) (by rfl) ?ma25 ⟨.inr HS8.out, ?_⟩
              case ma25 => (rw [HW8.out]; go_simp; try rfl)
              (try simp only [Act.put, List.setIfInBounds_toArray, List.set_cons_zero, List.set_cons_succ])
              refine wpAnyZ_one (i := 26) (by decide +kernel) ?_
              refine wpOpK_append (by simp only [List.getElem?_toArray, List.getElem?_cons_succ, List.getElem?_cons_zero]; rfl) rfl (.tmp 157) (.tmp 182) 26 rfl w5.heap.size 23 j0 (.agg #[.int .i64 0, .int .i64 0, .int .i64 0, .int .i64 0]) 4 32 Try.underlying26 HJ0.out.1 HJ0.out.2.1 HJ0.out.2.2.1 HJ0.out.2.2.2 rfl (by decide) _ m _ (by rfl) HOX.out ⟨wr.heap.size, 0, none⟩ 1 1 [.int .i64 pa, .int .i64 tp, .int .i64 (pb - pa), .int .i64 (y - tp)] (by rfl) rfl (World.news_of_block (cs := #[.int .i64 pa, .int .i64 tp, .int .i64 (pb - pa), .int .i64 (y - tp)]) (t := 23) (fr := (0, 0)) HN8.out) HON.out (by omega) ?ah63 ?ahby ?ahbs ?_
              case ah63 => (unfold maxLen; omega)
              case ahby => omega
              case ahbs => first | omega | (simp; omega)
              intro g cap W2 own gr hg hlt
              have HA9 := Lib.hid own
              have HG9 := Lib.hid gr
              have HS9 := Lib.hid (show W2.heap[gn]? = wr.heap[gn]? ∧ W2.heap[gz]? = wr.heap[gz]? from ⟨(gr.block gn (Nat.lt_of_lt_of_le (zn) HB8.out.size) (fun e => (HNL.out) e.symm)).trans HS8.out.1, (gr.block gz (Nat.lt_of_lt_of_le (zg) HB8.out.size) (fun e => (HNZ2.out) e.symm)).trans HS8.out.2⟩)
              clear own gr hg hlt
              refine ⟨.inr HS9.out, ?_⟩
              (try simp only [Act.put, List.setIfInBounds_toArray, List.set_cons_zero, List.set_cons_succ])
              refine wpAnyZ_one (i := 27) (by decide +kernel) ?_
              refine wpOpK_value (v := .slice (some ⟨g, 0, none⟩) (m + 1) cap) (w' := W2) (by simp only [List.getElem?_toArray, List.getElem?_cons_succ, List.getElem?_cons_zero]; rfl) (by rfl) ?ma27 ⟨.inl rfl, ?_⟩
              case ma27 => (go_simp; try rfl)
              (try simp only [Act.put, List.setIfInBounds_toArray, List.set_cons_zero, List.set_cons_succ])
              refine wpAnyZ_done (by kernel_rfl) (NoPanic.normal ?_) _
              have HN1 := Lib.hid (show W2.ownsRow w5.heap.size 23 4 (.slice (some ⟨g, 0, none⟩) (m + 1) cap) (O ++ rectSp tp y (N.take (k + 1))).length (cellsR (O ++ rectSp tp y (N.take (k + 1)))) from by
                rw [HTK.out, ← List.append_assoc, ← HTT.out, cellsR_append, List.length_append, ← HML.out]
                exact HA9.out)
              have HN2 := Lib.hid (show Below w5.heap.size w5 W2 from Below.grown (below_via HB8.out HW.out) HG9.out (by omega) (fun t ht => (row_lt HOX.out t ht).2))
              have HN3 := Lib.hid ((row_later HONW.out HB8.out).kept HG9.out (row_ne HONW.out HOW.out (by decide)))
              have HN4 := Lib.hid ((row_later HNO.out HB8.out).kept HG9.out (row_ne HNO.out HOW.out (by decide)))
              clear HA9 HG9 HS9 HS8 HN8 HW8 HB8 HOX HON HONW HOW HS HSD HNL HNZ2 HTK HTT HML hz8 HO HNO HW
              go_wp2
              go_roundw
              case rel => exact ⟨k + 1, by go_num, by omega, HN1, HN3, HN4, HN2⟩
              case measure => simp [intOf] <;> omega
            · have hkk : ¬ (k : Int) < (N.length : Int) := by omega
              have hke : k = N.length := by omega
              have hT : N.take k = N := by rw [hke]; exact List.take_length
              rw [hT] at HO
              obtain ⟨zg, cg⟩ := HCZ.out wr HW.out
              have hol2 : (O ++ rectSp tp y N).length ≤ (i + 1) * 3000 := by rw [List.length_append, rectSp_len]; omega
              clear hT hke
              go_wp2
              go_roundw
              case rel => exact ⟨i + 1, _, N2, y, by go_num, by omega, rfl, hol2, hnl4, HIY, Lib.hid HN2P.out.1, HE2, HO, HNO, HW⟩
              case measure => simp [intOf] <;> omega
    · have hii : ¬ (i : Int) < (nz : Int) := by omega
      obtain rfl : nz = i := by omega
      have hO : O = RES := by have := HE.out; rw [List.drop_eq_nil_of_le (by rw [← HNZ.out]; exact Nat.le_refl _), refL] at this; exact this
      have HOR := Lib.hid (show O = rctsB (chgB (opD d) bs b) from hO.trans HRS.out)
      have HCT := Lib.hid (show O.length = cntB (chgB (opD d) bs b) from by rw [HOR.out, rctsB_len])
      have HR9 := Lib.hid (HB5W.out.later HW.out)
      have HBW := Lib.hid (show Below w.heap.size w wo from HB5.out.trans (HW.out.mono HB5.out.size))
      have hzw5 := HB5.out.size
      have hh5 := lt_of_block HB5W.out.pr
      obtain ⟨zh, ch⟩ := HR9.out.cells wo rfl
      have fh : wo.frozen? ⟨h, 0, none⟩ = false := frozen_of_row _ _ _ _ _ HR9.out.pr
      clear hO HE
      by_cases hf : 1024 < O.length
      · have hfi : (1024 : Int) < (O.length : Int) := by omega
        have HF := Lib.hid (show 1024 < cntB (chgB (opD d) bs b) from by rw [← HCT.out]; exact hf)
        clear zh ch fh
        go_wp2
        go_ret
        refine ⟨by rw [← HBB.out, if_pos HF.out]; rfl, .slice pv n cv, ?_, Chg.of_below HBW.out _, fun k hk => .inl hk⟩
        rw [← HBB.out, if_pos HF.out, ← HLL.out]
        exact HR9.out
      · have hfi : ¬ (1024 : Int) < (O.length : Int) := by omega
        have HF := Lib.hid (show ¬ 1024 < cntB (chgB (opD d) bs b) from by rw [← HCT.out]; exact hf)
        go_wp2
        go_ret
        refine ⟨by rw [← HBB.out, if_neg HF.out]; rfl, .slice po O.length co, ?_, ?_, ?_⟩
        · rw [← HBB.out, if_neg HF.out, ← HOR.out]
          refine ⟨set_blk HR9.out.pr 0 _, row_keepB (row_baseG HO.out hzb) fun q hq => heap_setCell_other _ _ _ _ (show q ≠ h from ?_), HR9.out.bh⟩
          have := (row_lt HO.out q hq).2
          omega
        · exact ⟨HBW.out.os, HBW.out.tape, HBW.out.output, by simpa [World.setCell] using HBW.out.size, fun k hk hn => (heap_setCell_other _ _ _ _ (show k ≠ h from hn)).trans (HBW.out.block k hk)⟩
        · rintro k (rfl | hk)
          · exact .inl (.inl rfl)
          · exact .inr (by have := (row_lt HO.out k hk).2; omega)
theorem do_any (base : Nat) (w : World) (h : Nat) (v : Value) (bs : List Bd) (d : Nat) (r : R4) (H : RfAt base w h v (rctsB bs)) (hok : RegOk bs) (hd : d = 1 ∨ d = 2 ∨ d = 3) (hr : isR r) : Calls Try.prog 59 #[.pointer (some ⟨h, 0, none⟩), .int .i64 d, .agg #[.int .i64 r.x, .int .i64 r.y, .int .i64 r.w, .int .i64 r.h]] w fun e w' => DoR base w h v bs d (bxR r) e w' := by
  obtain ⟨pv, cv, rfl⟩ := row_slice H.own
  have B := do_B base w h pv _ cv bs d r _ (Lib.hid rfl) (Lib.hid rfl) (Lib.hid H) (Lib.hid hok) hd (Lib.hid hr)
  exact (do_A base w h pv _ cv bs d r _ (Lib.hid rfl) (Lib.hid rfl) (Lib.hid H) (Lib.hid hok) hd (Lib.hid hr)).2 (Lib.hid B)
end Go.Proofs.Ytekcheccelllcaa
