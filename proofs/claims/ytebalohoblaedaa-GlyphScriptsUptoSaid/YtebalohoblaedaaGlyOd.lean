/- Layer 13: the walk of GlyphOrder. -/
import Derived.Test.YtebalohoblaedaaGlyOc
import Derived.Test.YtebalohoblaedaaGlyRo
import Derived.Test.YtebalohoblaedaaGlyP
import Derived.Deep.CutRange
namespace Go.Proofs.Ytebalohoblaedaa
open Go.RowKit
set_option linter.unusedVariables false
set_option linter.unusedSimpArgs false

theorem rowB_congr {W : Nat} {L M : List A4} (y n : Nat) (h : ∀ x, x < n → L.getD (y * W + x) zA = M.getD (y * W + x) zA) : rowB W L y n = rowB W M y n := by
  induction n with
  | zero => rfl
  | succ n ih => rw [rowB_succ, rowB_succ, ih (fun x hx => h x (by omega)), h n (by omega)]
theorem rowsN_congr {W : Nat} {L M : List A4} (n : Nat) (h : ∀ y, y < n → ∀ x, x < W → L.getD (y * W + x) zA = M.getD (y * W + x) zA) : rowsN W L n = rowsN W M n := by
  induction n with
  | zero => rfl
  | succ n ih => rw [rowsN_succ, rowsN_succ, ih (fun y hy => h y (by omega)), rowB_congr n W (h n (by omega))]
theorem rowsN_get (W : Nat) (L : List A4) (n i : Nat) (hi : i < n) : (rowsN W L n)[i]? = some (.string ⟨(rowB W L i W).toArray⟩) := by
  unfold rowsN
  simp [hi]
theorem at_tuple2 (c : Bool) (r : Int) : (if c = true then Value.tuple #[.int .i32 0, .bool false] else Value.tuple #[.int .i32 r, .bool true]) = Value.tuple #[.int .i32 (if c = true then 0 else r), .bool (!c)] := by cases c <;> rfl
theorem row_slice {w : World} {base : Nat} {t : TypeId} {k n : Nat} {v : Value} {xs : List Value} (h : w.ownsRow base t k v n xs) : ∃ p c, v = .slice p n c := by
  rcases row_form h with ⟨h, h2, _⟩ | ⟨g, c, h, _⟩
  · exact ⟨none, 0, by rw [h, h2]⟩
  · exact ⟨_, _, h⟩
set_option maxRecDepth 100000 in
set_option maxHeartbeats 8000000 in
theorem same_rows (ba bb n W : Nat) (L : List A4) (va vb : Value) (w : World) (ha : w.ownsRow ba 9 1 va n (rowsN W L n)) (hb : w.ownsRow bb 9 1 vb n (rowsN W L n)) (hn : n ≤ 4096) : Calls Try.prog 32 #[va, vb] w fun e w' => e = .returned (.bool true) ∧ Below w.heap.size w w' := by
  obtain ⟨pa, ca, rfl⟩ := row_slice ha
  obtain ⟨pb, cb, rfl⟩ := row_slice hb
  have HA := Lib.hid ha
  have HB := Lib.hid hb
  clear ha hb
  go_enter Try.func32, Try.ntmps32
  go_wp2
  go_loopw [5] (fun iv wr => ∃ i : Nat, iv = .int .i64 i ∧ i ≤ n ∧ RowKit.Hid (Below w.heap.size w wr)) (fun iv _ => n - (intOf iv).toNat)
  case atStart => exact ⟨0, rfl, Nat.zero_le _, Lib.hid (Below.refl _ _)⟩
  case round =>
    obtain ⟨i, rfl, hi, HR⟩ := hrel
    by_cases hlt : i < n
    · have hii : (i : Int) < (n : Int) := by omega
      have RA := row_later HA.out HR.out
      have RB := row_later HB.out HR.out
      obtain ⟨ga, rfl⟩ : ∃ g, pa = some ⟨g, 0, none⟩ := by
        rcases row_form RA with ⟨_, h, _⟩ | ⟨g, c, h, _⟩
        · omega
        · injection h with e1 e2 e3
          exact ⟨g, e1⟩
      obtain ⟨gb, rfl⟩ : ∃ g, pb = some ⟨g, 0, none⟩ := by
        rcases row_form RB with ⟨_, h, _⟩ | ⟨g, c, h, _⟩
        · omega
        · injection h with e1 e2 e3
          exact ⟨g, e1⟩
      have ka := row_cells RA i _ (rowsN_get W L n i hlt)
      have kb := row_cells RB i _ (rowsN_get W L n i hlt)
      rw [Nat.zero_add] at ka kb
      have za := (row_lt RA ga rfl).1
      have zb := (row_lt RB gb rfl).1
      clear RA RB
      generalize (⟨(rowB W L i W).toArray⟩ : ByteArray) = s at ka kb
      go_upto_region 6 with (fail)
      go_quiet (fail)
      have HR2 := Lib.hid (show ∀ k, Below w.heap.size w (wr.drewN k) from fun k => below_drewN HR.out k)
      clear ka kb za zb HR
      go_wp2
      go_roundw
      case rel => exact ⟨i + 1, by go_num, by omega, Lib.hid (HR2.out _)⟩
      case measure => simp [intOf] <;> omega
    · have hii : ¬ (i : Int) < (n : Int) := by omega
      obtain rfl : i = n := by omega
      go_wp2
      go_ret
      exact ⟨rfl, HR.out⟩
set_option maxRecDepth 100000 in
set_option maxHeartbeats 16000000 in
theorem GlyphOrder_walk (W0 H0 : Int) (ps po : Option Addr) (cs co : Nat) (L : List StV) (O : List Int) (how : Int) (w : World) (hs : StepsAt w ps L) (hok : ∀ s ∈ L, StOk s) (ho : OrdAt w po O) (hL : L.length ≤ 1048576) (hO : O.length ≤ 1048576) : Calls Try.prog 13 #[.agg #[.int .i64 W0, .int .i64 H0, .slice ps L.length cs], .slice po O.length co, .int .i64 how] w fun e w' => e = .returned (.bool true) ∧ Below w.heap.size w w' := by
  have HOK := Lib.hid hok
  obtain ⟨w1, hw1⟩ : ∃ x, x = w.alloc (.cells #[.int .i64 W0, .int .i64 H0, .slice ps L.length cs] 58) := ⟨_, rfl⟩
  have B1 : Below w.heap.size w w1 := by rw [hw1]; exact below_al (Below.refl _ _) _
  have x1 : w1.heap[w.heap.size]? = some (.cells #[.int .i64 W0, .int .i64 H0, .slice ps L.length cs] 58 (0, 0)) := by rw [hw1]; exact heap_alloc_new _ _
  have HC := Lib.hid (show ∀ w', Below w1.heap.size w1 w' → (w.heap.size < w'.heap.size ∧ w'.cell? ⟨w.heap.size, 0, none⟩ = some (.int .i64 W0) ∧ w'.cell? ⟨w.heap.size, 1, none⟩ = some (.int .i64 H0) ∧ w'.cell? ⟨w.heap.size, 2, none⟩ = some (.slice ps L.length cs)) from fun w' h => by
    have h2 := (h.block _ (lt_of_block x1)).trans x1
    refine ⟨lt_of_block h2, ?_, ?_, ?_⟩ <;> (rw [cell_of_row _ _ _ _ _ _ h2]; rfl))
  have HS := Lib.hid (hs.later B1 (Nat.le_refl _))
  have HO := Lib.hid (ho.later B1 (Nat.le_refl _))
  have HB1 := Lib.hid B1
  obtain ⟨z1, k0, k1, k2⟩ := HC.out w1 (Below.refl _ _)
  clear hok hs ho B1 x1
  go_enter Try.func13, Try.ntmps13
  go_upto_region 1 with (fail)
  rw [← hw1]
  clear hw1
  go_quiet (fail)
  go_upto_region 2 with (fail)
  obtain ⟨w1', hw1'⟩ : ∃ x : World, RowKit.Hid (Below w1.heap.size w1 x) ∧ x = w1.drewN nq := ⟨_, Lib.hid (below_drewN (Below.refl _ _) _), rfl⟩
  rw [← hw1'.2]
  have HD1 := hw1'.1
  clear hw1' k0 k1 k2 z1
  obtain ⟨bad, hbad⟩ : ∃ b : Bool, b = decide (W0 < 0 ∨ 64 < W0 ∨ H0 < 0 ∨ 64 < H0) := ⟨_, rfl⟩
  have HBAD := Lib.hid hbad
  clear hbad
  go_cut [39] (fun s wx => s = .bool bad ∧ wx = w1')
  case first =>
    rcases (show W0 < 0 ∨ (0 ≤ W0 ∧ 64 < W0) ∨ (0 ≤ W0 ∧ W0 ≤ 64 ∧ H0 < 0) ∨ (0 ≤ W0 ∧ W0 ≤ 64 ∧ 0 ≤ H0 ∧ 64 < H0) ∨ (0 ≤ W0 ∧ W0 ≤ 64 ∧ 0 ≤ H0 ∧ H0 ≤ 64) by omega) with h | ⟨h, h2⟩ | ⟨h, h2, h3⟩ | ⟨h, h2, h3, h4⟩ | ⟨h, h2, h3, h4⟩
    iterate 4
      · obtain rfl : bad = true := by rw [HBAD.out]; exact decide_eq_true (by omega)
        go_wp2
        all_goals go_meet
        all_goals exact ⟨rfl, rfl⟩
    · obtain rfl : bad = false := by rw [HBAD.out]; exact decide_eq_false (by omega)
      go_wp2
      all_goals go_meet
      all_goals first | exact ⟨rfl, rfl⟩ | exact ⟨congrArg Value.bool (by simp only [Bool.or_eq_false_iff, decide_eq_false_iff_not]; omega), rfl⟩
  case rest =>
    obtain ⟨rfl, hw⟩ := hcut
    rw [hw]
    clear hw
    go_upto_if 39 with (fail)
    go_cut [7, 8] (fun a b wx => ∃ W H : Nat, a = .int .i64 (W : Int) ∧ b = .int .i64 (H : Int) ∧ W ≤ 64 ∧ H ≤ 64 ∧ wx = w1')
    case first =>
      cases bad
      · have hb := of_decide_eq_false HBAD.out.symm
        obtain ⟨W, rfl⟩ : ∃ W : Nat, W0 = (W : Int) := ⟨W0.toNat, by omega⟩
        obtain ⟨H, rfl⟩ : ∃ H : Nat, H0 = (H : Int) := ⟨H0.toNat, by omega⟩
        go_wp2
        all_goals go_meet
        all_goals exact ⟨W, H, rfl, rfl, by omega, by omega, rfl⟩
      · go_wp2
        all_goals go_meet
        all_goals exact ⟨7, 5, rfl, rfl, by decide, by decide, rfl⟩
    case rest =>
      obtain ⟨W, H, rfl, rfl, hW, hH, hw⟩ := hcut
      rw [hw]
      clear hw HBAD
      have HWH := Lib.hid (show W * H ≤ 1048576 from by have := Nat.mul_le_mul hW hH; omega)
      go_wp2_with fail
      refine (new_yes W H (by omega) (by omega) HWH.out w1').mono ?_
      rintro e w2 ⟨rfl, hb2, hp2⟩
      obtain ⟨gc, hgc⟩ : ∃ x, x = w1'.heap.size := ⟨_, rfl⟩
      have HP2 := Lib.hid hp2
      have HB2 := Lib.hid (show Below w1.heap.size w1 w2 from HD1.out.trans (hb2.mono HD1.out.size))
      have zg : w1'.heap.size + 1 < w2.heap.size := heap_lt hp2.pl
      have zw : w1.heap.size ≤ w1'.heap.size := HD1.out.size
      clear hp2 hb2 hgc
      obtain ⟨z1, k0, k1, k2⟩ := HC.out w2 HB2.out
      go_wp2
      clear z1 k0 k1 k2
      go_loopw [11] (fun iv wr => ∃ i : Nat, iv = .int .i64 i ∧ i ≤ L.length ∧ RowKit.Hid (PlanAt wr (w1'.heap.size + 1) w1'.heap.size W H (layL W H ((L.take i).flatMap ln1) (List.replicate (W * H) zA)) ∧ Below w1.heap.size w1 wr)) (fun iv _ => L.length - (intOf iv).toNat)
      case atStart => exact ⟨0, rfl, Nat.zero_le _, Lib.hid ⟨HP2.out, HB2.out⟩⟩
      case round =>
        obtain ⟨i, rfl, hi, HR⟩ := hrel
        clear HP2 HB2
        obtain ⟨z1, k0, k1, k2⟩ := HC.out wr HR.out.2
        by_cases hlt : i < L.length
        · have hii : (i : Int) < (L.length : Int) := by omega
          have HT := Lib.hid (show (L.take (i + 1)).flatMap ln1 = (L.take i).flatMap ln1 ++ ln1 (L.getD i zSt) by
            rw [List.take_succ_eq_append_getElem hlt, List.flatMap_append]
            simp [List.getD_eq_getElem?_getD, List.getElem?_eq_getElem hlt])
          have HSO := Lib.hid (HOK.out (L.getD i zSt) (by rw [List.getD_eq_getElem?_getD, List.getElem?_eq_getElem hlt]; exact List.getElem_mem hlt))
          obtain ⟨sb, so, rfl, hsb, hsc⟩ := HS.out (by omega)
          have hsc := hsc i hlt
          generalize L.getD i zSt = s at hsc HT HSO
          obtain ⟨so_, x0, y0, x1, y1, ra, rb, rc, rd, kk⟩ := s
          have zsb : sb < wr.heap.size := by have := HR.out.2.size; omega
          have s0 := hsc 0 (by omega); have s1 := hsc 1 (by omega); have s2 := hsc 2 (by omega); have s3 := hsc 3 (by omega); have s4 := hsc 4 (by omega)
          have s5 := hsc 5 (by omega); have s6 := hsc 6 (by omega); have s7 := hsc 7 (by omega); have s8 := hsc 8 (by omega); have s9 := hsc 9 (by omega)
          rw [← (bcell HR.out.2).1 _ _ hsb] at s0 s1 s2 s3 s4 s5 s6 s7 s8 s9
          simp only [stV, List.getElem?_cons_zero, List.getElem?_cons_succ, ← Nat.add_assoc, Nat.add_zero] at s0 s1 s2 s3 s4 s5 s6 s7 s8 s9
          clear hsc
          go_upto_region 11 with (fail)
          obtain ⟨w5, hw5⟩ : ∃ x, x = wr.alloc (.cells #[.int .i64 so_, .int .i64 x0, .int .i64 y0, .int .i64 x1, .int .i64 y1, .int .i64 ra, .int .i64 rb, .int .i64 rc, .int .i64 rd, .int .i8 kk] 64) := ⟨_, rfl⟩
          have B5 : Below wr.heap.size wr w5 := by rw [hw5]; exact below_al (Below.refl _ _) _
          have x5 : w5.heap[wr.heap.size]? = some (.cells #[.int .i64 so_, .int .i64 x0, .int .i64 y0, .int .i64 x1, .int .i64 y1, .int .i64 ra, .int .i64 rb, .int .i64 rc, .int .i64 rd, .int .i8 kk] 64 (0, 0)) := by rw [hw5]; exact heap_alloc_new _ _
          rw [← hw5]
          clear hw5 s0 s1 s2 s3 s4 s5 s6 s7 s8 s9 zsb k0 k1 k2 z1
          have HP5 := Lib.hid (HR.out.1.later B5 (heap_lt HR.out.1.pl) (heap_lt HR.out.1.ce))
          have HB5 := Lib.hid (show Below w1.heap.size w1 w5 from HR.out.2.trans (B5.mono HR.out.2.size))
          have z5 : wr.heap.size < w5.heap.size := lt_of_block x5
          have c0 : w5.cell? ⟨wr.heap.size, 0, none⟩ = some (.int .i64 so_) := by rw [cell_of_row _ _ _ _ _ _ x5]; rfl
          have c1 : w5.cell? ⟨wr.heap.size, 1, none⟩ = some (.int .i64 x0) := by rw [cell_of_row _ _ _ _ _ _ x5]; rfl
          have c2 : w5.cell? ⟨wr.heap.size, 2, none⟩ = some (.int .i64 y0) := by rw [cell_of_row _ _ _ _ _ _ x5]; rfl
          have c3 : w5.cell? ⟨wr.heap.size, 3, none⟩ = some (.int .i64 x1) := by rw [cell_of_row _ _ _ _ _ _ x5]; rfl
          have c4 : w5.cell? ⟨wr.heap.size, 4, none⟩ = some (.int .i64 y1) := by rw [cell_of_row _ _ _ _ _ _ x5]; rfl
          have c5 : w5.cell? ⟨wr.heap.size, 5, none⟩ = some (.int .i64 ra) := by rw [cell_of_row _ _ _ _ _ _ x5]; rfl
          have c6 : w5.cell? ⟨wr.heap.size, 6, none⟩ = some (.int .i64 rb) := by rw [cell_of_row _ _ _ _ _ _ x5]; rfl
          have c7 : w5.cell? ⟨wr.heap.size, 7, none⟩ = some (.int .i64 rc) := by rw [cell_of_row _ _ _ _ _ _ x5]; rfl
          have c8 : w5.cell? ⟨wr.heap.size, 8, none⟩ = some (.int .i64 rd) := by rw [cell_of_row _ _ _ _ _ _ x5]; rfl
          have c9 : w5.cell? ⟨wr.heap.size, 9, none⟩ = some (.int .i8 kk) := by rw [cell_of_row _ _ _ _ _ _ x5]; rfl
          have FIN := Lib.hid (show ∀ (w6 : World) (ts : List Ln), ts = ln1 ⟨so_, x0, y0, x1, y1, ra, rb, rc, rd, kk⟩ → LaidAt w5 w6 (w1'.heap.size + 1) w1'.heap.size W H (layL W H ((L.take i).flatMap ln1) (List.replicate (W * H) zA)) ts → PlanAt w6 (w1'.heap.size + 1) w1'.heap.size W H (layL W H ((L.take (i + 1)).flatMap ln1) (List.replicate (W * H) zA)) ∧ Below w1.heap.size w1 w6 from fun w6 ts hts h => by
            obtain ⟨h1, h2⟩ := h
            exact ⟨by rw [HT.out, layL_append, ← hts]; exact h2, Below.grown HB5.out h1 HB5.out.size (fun k hk => by injection hk with hk; omega)⟩)
          clear x5 B5 HR HT
          by_cases h2 : so_ = 2
          · subst h2
            go_wp2_with fail
            refine (box_gen (w1'.heap.size + 1) w1'.heap.size W H _ ra rb rc rd kk w5 HSO.out.a HSO.out.b HSO.out.c HSO.out.d HP5.out).mono ?_
            rintro e w6 ⟨⟨v, rfl⟩, hl⟩
            have HG := Lib.hid (FIN.out w6 _ (by unfold ln1; rw [if_pos rfl]) hl)
            clear hl c0 c1 c2 c3 c4 c5 c6 c7 c8 c9 z5
            go_wp2
            go_roundw
            case rel => exact ⟨i + 1, by go_num, by omega, HG⟩
            case measure => simp [intOf] <;> omega
          · go_wp2_with fail
            refine (line_gen (w1'.heap.size + 1) w1'.heap.size W H _ x0 y0 x1 y1 kk w5 HP5.out).mono ?_
            rintro e w6 ⟨⟨v, rfl⟩, hl⟩
            have HG := Lib.hid (FIN.out w6 _ (by unfold ln1; rw [if_neg h2]) hl)
            clear hl c0 c1 c2 c3 c4 c5 c6 c7 c8 c9 z5
            go_wp2
            go_roundw
            case rel => exact ⟨i + 1, by go_num, by omega, HG⟩
            case measure => simp [intOf] <;> omega
        · have hii : ¬ (i : Int) < (L.length : Int) := by omega
          obtain rfl : i = L.length := by omega
          have HP3 := Lib.hid (show PlanAt wr (w1'.heap.size + 1) w1'.heap.size W H (layL W H (L.flatMap ln1) (List.replicate (W * H) zA)) from by have := HR.out.1; rwa [List.take_length] at this)
          have HB3 := Lib.hid HR.out.2
          obtain ⟨w3, rfl⟩ : ∃ w3 : World, w3 = wr := ⟨_, rfl⟩
          clear HR
          go_wp2_with fail
          refine (laid_any W H hW hH ps po cs co L O how w3 (HS.out.later HB3.out (Nat.le_refl _)) HOK.out (HO.out.later HB3.out (Nat.le_refl _)) hL hO).mono ?_
          rintro e w4 ⟨g2, gc2, A, rfl, hA, hp4, hb4, hg2, hgc2⟩
          have HEQ := Lib.hid (show ∀ y, y < H → ∀ x, x < W → (layL W H (L.flatMap ln1) (List.replicate (W * H) zA)).getD (y * W + x) zA = (layL W H (A.flatMap fun j => ln2 how (L.getD j zSt)) (List.replicate (W * H) zA)).getD (y * W + x) zA from fun y hy x hx => by
            rw [show (A.flatMap fun j => ln2 how (L.getD j zSt)) = (A.map fun j => L.getD j zSt).flatMap (ln2 how) by rw [List.flatMap_map]]
            refine lay_same W H x y hx hy L ln1 (ln2 how) (fun s => (ln12 how x y s).1) (fun s => (ln12 how x y s).2) (A.map fun j => L.getD j zSt) (fun s hs => ?_) (fun s hs => ?_)
            · obtain ⟨i, hi, rfl⟩ := List.getElem_of_mem hs
              exact List.mem_map.2 ⟨i, (hA i).2 hi, by rw [List.getD_eq_getElem?_getD, List.getElem?_eq_getElem hi]; rfl⟩
            · obtain ⟨j, hj, rfl⟩ := List.mem_map.1 hs
              have hj := (hA j).1 hj
              rw [List.getD_eq_getElem?_getD, List.getElem?_eq_getElem hj]
              exact List.getElem_mem hj)
          have HP4 := Lib.hid (HP3.out.later hb4 (heap_lt HP3.out.pl) (heap_lt HP3.out.ce))
          have HQ4 := Lib.hid hp4
          have HB4 := Lib.hid (show Below w1.heap.size w1 w4 from HB3.out.trans (hb4.mono HB3.out.size))
          generalize layL W H (L.flatMap ln1) (List.replicate (W * H) zA) = M1 at HEQ HP4
          generalize layL W H (A.flatMap fun j => ln2 how (L.getD j zSt)) (List.replicate (W * H) zA) = M2 at HEQ HQ4
          have HRW := Lib.hid (show rowsN W M1 H = rowsN W M2 H from rowsN_congr H HEQ.out)
          clear hA hp4 hb4 HP3 HB3 hg2 hgc2 hlt hi hii
          go_wp2_with fail
          refine (rows_any (w1'.heap.size + 1) w1'.heap.size W H M1 w4 HP4.out).mono ?_
          rintro e w5 ⟨v5, rfl, own5, hb5⟩
          obtain ⟨p5, c5, rfl⟩ := row_slice own5
          have HO5 := Lib.hid own5
          have HD5 := Lib.hid hb5
          clear own5 hb5
          go_wp2_with fail
          refine (rows_any g2 gc2 W H M2 w5 (HQ4.out.later HD5.out (heap_lt HQ4.out.pl) (heap_lt HQ4.out.ce))).mono ?_
          rintro e w6 ⟨v6, rfl, own6, hb6⟩
          obtain ⟨p6, c6, rfl⟩ := row_slice own6
          have HO6 := Lib.hid own6
          have HN5 := Lib.hid (row_later HO5.out hb6)
          have HD6 := Lib.hid (show Below w4.heap.size w4 w6 from below_via hb6 HD5.out)
          clear own6 hb6 HD5
          have HPX := Lib.hid (show ∀ w', Below w6.heap.size w6 w' → PlanAt w' (w1'.heap.size + 1) w1'.heap.size W H M1 ∧ PlanAt w' g2 gc2 W H M2 from fun w' h => by
            have hb := below_via h HD6.out
            exact ⟨HP4.out.later hb (heap_lt HP4.out.pl) (heap_lt HP4.out.ce), HQ4.out.later hb (heap_lt HQ4.out.pl) (heap_lt HQ4.out.ce)⟩)
          go_wp2
          go_loopw [16] (fun iv wr => ∃ y : Nat, iv = .int .i64 y ∧ y ≤ H ∧ RowKit.Hid (Below w6.heap.size w6 wr)) (fun iv _ => H - (intOf iv).toNat)
          case atStart => exact ⟨0, rfl, Nat.zero_le _, Lib.hid (Below.refl _ _)⟩
          case round =>
            obtain ⟨y, rfl, hy, HY⟩ := hrel
            obtain ⟨wo, rfl⟩ : ∃ wo : World, wo = wr := ⟨_, rfl⟩
            by_cases hyH : y < H
            · have hyi : (y : Int) < (H : Int) := by omega
              go_wp2
              go_loopw [17] (fun iv wr => ∃ x : Nat, iv = .int .i64 x ∧ x ≤ W ∧ RowKit.Hid (Below w6.heap.size w6 wr)) (fun iv _ => W - (intOf iv).toNat)
              case atStart => exact ⟨0, rfl, Nat.zero_le _, HY⟩
              case round =>
                clear HY
                obtain ⟨x, rfl, hx, HX⟩ := hrel
                by_cases hxW : x < W
                · have hxi : (x : Int) < (W : Int) := by omega
                  have HE := Lib.hid (HEQ.out y hyH x hxW)
                  obtain ⟨nb, hnb⟩ : ∃ b, b = noArms (M2.getD (y * W + x) zA) := ⟨_, rfl⟩
                  obtain ⟨rr, hrr⟩ : ∃ b, b = runeA (M2.getD (y * W + x) zA) := ⟨_, rfl⟩
                  have HNB := Lib.hid hnb
                  have HRR := Lib.hid hrr
                  clear hnb hrr
                  cases nb
                  all_goals
                    go_wp2_with fail
                    refine (at_in (w1'.heap.size + 1) w1'.heap.size W H M1 x y hxW hyH wr (HPX.out wr HX.out).1).mono ?_
                    rw [HE.out, at_tuple2, ← HNB.out, ← HRR.out]
                    simp only [Bool.false_eq_true, if_false, if_true, Bool.not_false, Bool.not_true]
                    rintro e w7 ⟨rfl, hb7⟩
                    have H7 := Lib.hid (below_via hb7 HX.out)
                    clear hb7
                    go_wp2_with fail
                    refine (at_in g2 gc2 W H M2 x y hxW hyH w7 (HPX.out w7 H7.out).2).mono ?_
                    rw [at_tuple2, ← HNB.out, ← HRR.out]
                    simp only [Bool.false_eq_true, if_false, if_true, Bool.not_false, Bool.not_true]
                    rintro e w8 ⟨rfl, hb8⟩
                    have H8 := Lib.hid (below_via hb8 H7.out)
                    clear hb8 HX H7
                    go_wp2
                    go_roundw
                    case rel => exact ⟨x + 1, by go_num, by omega, H8⟩
                    case measure => simp [intOf] <;> omega
                · have hxi : ¬ (x : Int) < (W : Int) := by omega
                  go_wp2
                  go_roundw
                  case rel => exact ⟨y + 1, by go_num, by omega, HX⟩
                  case measure => simp [intOf] <;> omega
            · have hyi : ¬ (y : Int) < (H : Int) := by omega
              go_wp2_with fail
              refine (same_rows w4.heap.size w5.heap.size H W M2 _ _ wo (by have := row_later HN5.out HY.out; rwa [HRW.out] at this) (row_later HO6.out HY.out) (by omega)).mono ?_
              rintro e w9 ⟨rfl, hb9⟩
              have H9 := Lib.hid (below_via hb9 HY.out)
              clear hb9
              go_wp2_with fail
              refine (wakes_any _).mono ?_
              rintro e wf ⟨rfl, hbf⟩
              have BF := Lib.hid (show Below w.heap.size w wf from by
                have b1 := below_via hbf H9.out
                have b2 := below_via b1 HD6.out
                have b3 : Below w1.heap.size w1 wf := HB4.out.trans (b2.mono HB4.out.size)
                exact below_via b3 HB1.out)
              clear hbf
              go_wp2
              go_ret
              exact ⟨rfl, BF.out⟩
end Go.Proofs.Ytebalohoblaedaa
