/- Layer 13: the reference's Arms and At. -/
import Derived.Test.YtebalohoblaedaaGlyRp
import Derived.Test.YtebalohoblaedaaGlyOd
import Derived.Test.YtebalohoblaedaaGlyQ
import Derived.Test.YtebalohoblaedaaGlyV
import Derived.Deep.CutRange
namespace Go.Proofs.Ytebalohoblaedaa
open Go.RowKit
set_option linter.unusedVariables false
set_option linter.unusedSimpArgs false

theorem infoA8_ : (Try.prog.info? 23).map (fun i => (i.zero, i.size, i.bytes)) = some (some (.agg #[.int .i8 0, .int .i8 0, .int .i8 0, .int .i8 0]), 4, 4) := by kernel_rfl
def arms4 (a : A4) : Value := .agg #[.int .i8 a.u, .int .i8 a.r, .int .i8 a.d, .int .i8 a.l]
/-- its ends are in order -/
def Nrm (t : Ln) : Prop := t.x0 ≤ t.x1 ∧ t.y0 ≤ t.y1
theorem nrm_nln (t : Ln) : Nrm (nln t) := by unfold Nrm nln; simp only; omega
theorem con_nrm {t : Ln} (h : Nrm t) (x y : Nat) : con x y t = if t.x0 ≤ (x : Int) ∧ (x : Int) ≤ t.x1 ∧ t.y0 ≤ (y : Int) ∧ (y : Int) ≤ t.y1 then [armOf t.x0 t.y0 t.x1 t.y1 t.k (x : Int) (y : Int)] else [] := by
  obtain ⟨h1, h2⟩ := h
  unfold con inL
  rw [show min t.x0 t.x1 = t.x0 by omega, show max t.x0 t.x1 = t.x1 by omega, show min t.y0 t.y1 = t.y0 by omega, show max t.y0 t.y1 = t.y1 by omega]
  simp only [decide_eq_true_eq]
theorem con_len (x y : Nat) (ts : List Ln) : (ts.flatMap (con x y)).length ≤ ts.length := by
  induction ts with
  | nil => exact Nat.le_refl _
  | cons t ts ih =>
    rw [List.flatMap_cons, List.length_append, List.length_cons]
    have : (con x y t).length ≤ 1 := by unfold con; split <;> simp
    omega
theorem row_slA {w : World} {base : Nat} {p : Option Addr} {n c : Nat} {L : List A4} (h : w.ownsRow base 23 4 (.slice p n c) n (cellsA L)) (hn : n = L.length) : SlA w p L := fun h0 => by
  subst hn
  rcases row_form h with ⟨_, h1, _⟩ | ⟨g, c', e, _, _, hg, _⟩
  · exact absurd h1 h0
  · injection e with e1 _ _
    subst e1
    refine ⟨g, 0, rfl, hg, fun i hi => ?_⟩
    obtain ⟨k0, k1, k2, k3⟩ := cellsA_at L i hi
    refine ⟨?_, ?_, ?_, ?_⟩
    · exact row_cells h _ _ k0
    · have := row_cells h _ _ k1; rw [← Nat.add_assoc] at this; exact this
    · have := row_cells h _ _ k2; rw [← Nat.add_assoc] at this; exact this
    · have := row_cells h _ _ k3; rw [← Nat.add_assoc] at this; exact this
set_option maxRecDepth 100000 in
set_option maxHeartbeats 16000000 in
theorem rarms_any (base g W H : Nat) (lv : Value) (ts : List Ln) (x y : Nat) (hx : x ≤ 1048576) (hy : y ≤ 1048576) (hN : ∀ t ∈ ts, Nrm t) (hn : ts.length ≤ 1073741824) (w : World) (hp : RPl base w g W H lv ts) : Calls Try.prog 56 #[.pointer (some ⟨g, 0, none⟩), .int .i64 (x : Int), .int .i64 (y : Int)] w fun e w' => e = .returned (arms4 (mergeA (ts.flatMap (con x y)))) ∧ Below w.heap.size w w' := by
  obtain ⟨i0, hi, hz0, hz1, hz2⟩ := info_parts infoA8_
  have HI := Lib.hid (And.intro hi (And.intro hz0 (And.intro hz1 hz2)))
  clear hi hz0 hz1 hz2
  obtain ⟨lp, lc, rfl⟩ := row_slice hp.own
  obtain ⟨w1, hw1⟩ : ∃ z, z = w.alloc (.cells #[.int .i8 0, .int .i8 0, .int .i8 0, .int .i8 0] 23) := ⟨_, rfl⟩
  have B1 : Below w.heap.size w w1 := by rw [hw1]; exact below_al (Below.refl _ _) _
  have x1 : w1.heap[w.heap.size]? = some (.cells #[.int .i8 0, .int .i8 0, .int .i8 0, .int .i8 0] 23 (0, 0)) := by rw [hw1]; exact heap_alloc_new _ _
  have HX1 := Lib.hid x1
  have HB1 := Lib.hid B1
  have HP1 := Lib.hid (hp.later B1)
  have HN := Lib.hid hN
  clear hp x1 B1 hN
  go_enter Try.func56, Try.ntmps56
  go_upto_region 1 with (fail)
  rw [← hw1]
  clear hw1
  go_wp2
  go_loopw [8, 7] (fun iv v wr => ∃ i : Nat, iv = .int .i64 i ∧ i ≤ ts.length ∧ RowKit.Hid (wr.ownsRow w1.heap.size 23 4 v ((ts.take i).flatMap (con x y)).length (cellsA ((ts.take i).flatMap (con x y))) ∧ Below w1.heap.size w1 wr)) (fun iv _ _ => ts.length - (intOf iv).toNat)
  case atStart => exact ⟨0, rfl, Nat.zero_le _, Lib.hid ⟨⟨rfl, .inl ⟨rfl, rfl⟩⟩, Below.refl _ _⟩⟩
  case round =>
    obtain ⟨i, rfl, hi, HR⟩ := hrel
    have RW := HP1.out.later HR.out.2
    obtain ⟨zg, -, -, c2, -⟩ := RW.cells
    by_cases hlt : i < ts.length
    · have hii : (i : Int) < (ts.length : Int) := by omega
      obtain ⟨lb, rfl⟩ : ∃ b, lp = some ⟨b, 0, none⟩ := by
        rcases row_form RW.own with ⟨_, h, _⟩ | ⟨b, c, h, _⟩
        · omega
        · injection h with e1 _ _
          exact ⟨b, e1⟩
      have zl := (row_lt RW.own lb rfl).1
      obtain ⟨t, ht⟩ : ∃ t, t = ts.getD i ⟨0, 0, 0, 0, 0⟩ := ⟨_, rfl⟩
      have hnt : Nrm t := HN.out t (by rw [ht, List.getD_eq_getElem?_getD, List.getElem?_eq_getElem hlt]; exact List.getElem_mem hlt)
      have HT := Lib.hid (show (ts.take (i + 1)).flatMap (con x y) = (ts.take i).flatMap (con x y) ++ (if t.x0 ≤ (x : Int) ∧ (x : Int) ≤ t.x1 ∧ t.y0 ≤ (y : Int) ∧ (y : Int) ≤ t.y1 then [armOf t.x0 t.y0 t.x1 t.y1 t.k (x : Int) (y : Int)] else []) by
        rw [List.take_succ_eq_append_getElem hlt, List.flatMap_append, ← con_nrm hnt]
        simp [ht, List.getD_eq_getElem?_getD, List.getElem?_eq_getElem hlt])
      have hlen := con_len x y (ts.take i)
      rw [List.length_take] at hlen
      have HLN := Lib.hid hlen
      have k0 := row_cells RW.own _ _ ((lnsV_at ts i hlt 0 (by omega)).trans (by rw [← ht]; rfl))
      have k1 := row_cells RW.own _ _ ((lnsV_at ts i hlt 1 (by omega)).trans (by rw [← ht]; rfl))
      have k2 := row_cells RW.own _ _ ((lnsV_at ts i hlt 2 (by omega)).trans (by rw [← ht]; rfl))
      have k3 := row_cells RW.own _ _ ((lnsV_at ts i hlt 3 (by omega)).trans (by rw [← ht]; rfl))
      have k4 := row_cells RW.own _ _ ((lnsV_at ts i hlt 4 (by omega)).trans (by rw [← ht]; rfl))
      rw [Nat.zero_add] at k0 k1 k2 k3 k4
      rw [Nat.add_zero] at k0
      clear ht hnt hlen
      obtain ⟨x0, y0, x1, y1, kk⟩ := t
      simp only at k0 k1 k2 k3 k4
      go_upto_region 6 with (fail)
      obtain ⟨w5, hw5⟩ : ∃ z, z = wr.alloc (.cells #[.int .i64 x0, .int .i64 y0, .int .i64 x1, .int .i64 y1, .int .i8 kk] 114) := ⟨_, rfl⟩
      have B5 : Below wr.heap.size wr w5 := by rw [hw5]; exact below_al (Below.refl _ _) _
      have x5 : w5.heap[wr.heap.size]? = some (.cells #[.int .i64 x0, .int .i64 y0, .int .i64 x1, .int .i64 y1, .int .i8 kk] 114 (0, 0)) := by rw [hw5]; exact heap_alloc_new _ _
      rw [← hw5]
      clear hw5 k0 k1 k2 k3 k4 c2 zl zg RW
      have HL5 := Lib.hid (show ∀ w', Below w5.heap.size w5 w' → (wr.heap.size < w'.heap.size ∧ w'.cell? ⟨wr.heap.size, 0, none⟩ = some (.int .i64 x0) ∧ w'.cell? ⟨wr.heap.size, 1, none⟩ = some (.int .i64 y0) ∧ w'.cell? ⟨wr.heap.size, 2, none⟩ = some (.int .i64 x1) ∧ w'.cell? ⟨wr.heap.size, 3, none⟩ = some (.int .i64 y1) ∧ w'.cell? ⟨wr.heap.size, 4, none⟩ = some (.int .i8 kk)) from fun w' h => by
        have h2 := (h.block _ (lt_of_block x5)).trans x5
        refine ⟨lt_of_block h2, ?_, ?_, ?_, ?_, ?_⟩ <;> (rw [cell_of_row _ _ _ _ _ _ h2]; rfl))
      have HO5 := Lib.hid (row_later HR.out.1 B5)
      have HB5 := Lib.hid (show Below w1.heap.size w1 w5 from HR.out.2.trans (B5.mono HR.out.2.size))
      clear x5 B5 HR
      obtain ⟨z5, e0, e1, e2, e3, e4⟩ := HL5.out w5 (Below.refl _ _)
      rcases (show (x : Int) < x0 ∨ (¬ (x : Int) < x0 ∧ x1 < (x : Int)) ∨ (¬ (x : Int) < x0 ∧ ¬ x1 < (x : Int) ∧ (y : Int) < y0) ∨ (¬ (x : Int) < x0 ∧ ¬ x1 < (x : Int) ∧ ¬ (y : Int) < y0 ∧ y1 < (y : Int)) ∨ (¬ (x : Int) < x0 ∧ ¬ x1 < (x : Int) ∧ ¬ (y : Int) < y0 ∧ ¬ y1 < (y : Int)) by omega) with n1 | ⟨n1, n2⟩ | ⟨n1, n2, n3⟩ | ⟨n1, n2, n3, n4⟩ | ⟨n1, n2, n3, n4⟩
      iterate 4
        · have HG := Lib.hid (show (ts.take (i + 1)).flatMap (con x y) = (ts.take i).flatMap (con x y) by rw [HT.out, if_neg (by simp only; omega), List.append_nil])
          have HG2 := Lib.hid (show w5.ownsRow w1.heap.size 23 4 _ ((ts.take (i + 1)).flatMap (con x y)).length (cellsA ((ts.take (i + 1)).flatMap (con x y))) ∧ Below w1.heap.size w1 w5 from ⟨by rw [HG.out]; exact HO5.out, HB5.out⟩)
          clear HT HG HO5
          go_wp2
          go_roundw
          case rel => exact ⟨i + 1, by go_num, by omega, HG2⟩
          case measure => simp [intOf] <;> omega
      · obtain ⟨a0, ha0⟩ : ∃ a, a = (if y0 < (y : Int) then kk else 0) := ⟨_, rfl⟩
        obtain ⟨a1, ha1⟩ : ∃ a, a = (if (x : Int) < x1 then kk else 0) := ⟨_, rfl⟩
        obtain ⟨a2, ha2⟩ : ∃ a, a = (if (y : Int) < y1 then kk else 0) := ⟨_, rfl⟩
        obtain ⟨a3, ha3⟩ : ∃ a, a = (if x0 < (x : Int) then kk else 0) := ⟨_, rfl⟩
        have HG := Lib.hid (show (ts.take (i + 1)).flatMap (con x y) = (ts.take i).flatMap (con x y) ++ [⟨a0, a1, a2, a3⟩] by rw [HT.out, if_pos (by simp only; omega), ha0, ha1, ha2, ha3]; rfl)
        have HA0 := Lib.hid ha0
        have HA1 := Lib.hid ha1
        have HA2 := Lib.hid ha2
        have HA3 := Lib.hid ha3
        clear HT ha0 ha1 ha2 ha3
        obtain ⟨AL, hAL⟩ : ∃ l, l = (ts.take i).flatMap (con x y) := ⟨_, rfl⟩
        rw [← hAL] at HO5 HG HLN
        clear hAL
        obtain ⟨w6, hw6⟩ : ∃ z, z = w5.alloc (.cells #[.int .i8 0, .int .i8 0, .int .i8 0, .int .i8 0] 23) := ⟨_, rfl⟩
        have B6 : Below w5.heap.size w5 w6 := by rw [hw6]; exact below_al (Below.refl _ _) _
        have x6 : w6.heap[w5.heap.size]? = some (.cells #[.int .i8 0, .int .i8 0, .int .i8 0, .int .i8 0] 23 (0, 0)) := by rw [hw6]; exact heap_alloc_new _ _
        go_upto_region 8 with (fail)
        rw [← hw6]
        clear hw6 e0 e1 e2 e3 e4 z5
        obtain ⟨z5, e0, e1, e2, e3, e4⟩ := HL5.out w6 B6
        go_upto_if 52 with (fail)
        go_cut [10] from 11 to 80 (fun s wx => s = .pointer (some ⟨w5.heap.size, 0, none⟩) ∧ RowKit.Hid (wx.heap[w5.heap.size]? = some (.cells #[.int .i8 a0, .int .i8 0, .int .i8 0, .int .i8 0] 23 (0, 0)) ∧ Below w5.heap.size w5 wx))
        case first =>
          have za := lt_of_block x6
          have fa : w6.frozen? ⟨w5.heap.size, 0, none⟩ = false := frozen_of_row _ _ _ _ _ x6
          have ca : w6.cell? ⟨w5.heap.size, 0, none⟩ = some (.int .i8 0) := by rw [cell_of_row _ _ _ _ _ _ x6]; rfl
          by_cases hc : y0 < (y : Int)
          · have ea : a0 = kk := by rw [HA0.out, if_pos hc]
            have HZ := Lib.hid (show (w6.setCell ⟨w5.heap.size, 0, none⟩ (.int .i8 kk)).heap[w5.heap.size]? = some (.cells #[.int .i8 a0, .int .i8 0, .int .i8 0, .int .i8 0] 23 (0, 0)) ∧ Below w5.heap.size w5 (w6.setCell ⟨w5.heap.size, 0, none⟩ (.int .i8 kk)) from ⟨by rw [ea]; exact set_blk x6 0 _, B6.setCell (p := ⟨w5.heap.size, 0, none⟩) (Nat.le_refl _) _⟩)
            clear x6 ea
            go_wp2
            all_goals go_meet
            all_goals exact ⟨rfl, HZ⟩
          · have ea : a0 = 0 := by rw [HA0.out, if_neg hc]
            have HZ := Lib.hid (show w6.heap[w5.heap.size]? = some (.cells #[.int .i8 a0, .int .i8 0, .int .i8 0, .int .i8 0] 23 (0, 0)) ∧ Below w5.heap.size w5 w6 from ⟨by rw [ea]; exact x6, B6⟩)
            clear x6 ea
            go_wp2
            all_goals go_meet
            all_goals exact ⟨rfl, HZ⟩
        case rest =>
          obtain ⟨rfl, HC0⟩ := hcut
          clear z5 e0 e1 e2 e3 e4 x6 B6
          obtain ⟨v0, hv0⟩ : ∃ z : World, z = wc := ⟨_, rfl⟩
          rw [← hv0] at HC0 ⊢
          clear hv0
          obtain ⟨yh0, b0⟩ := HC0.out
          clear HC0
          obtain ⟨z5, e0, e1, e2, e3, e4⟩ := HL5.out v0 b0
          go_upto_if 59 with (fail)
          go_cut [10] from 11 to 80 (fun s wx => s = .pointer (some ⟨w5.heap.size, 0, none⟩) ∧ RowKit.Hid (wx.heap[w5.heap.size]? = some (.cells #[.int .i8 a0, .int .i8 a1, .int .i8 0, .int .i8 0] 23 (0, 0)) ∧ Below w5.heap.size w5 wx))
          case first =>
            have za := lt_of_block yh0
            have fa : v0.frozen? ⟨w5.heap.size, 1, none⟩ = false := frozen_of_row _ _ _ _ _ yh0
            have ca : v0.cell? ⟨w5.heap.size, 1, none⟩ = some (.int .i8 0) := by rw [cell_of_row _ _ _ _ _ _ yh0]; rfl
            by_cases hc : (x : Int) < x1
            · have ea : a1 = kk := by rw [HA1.out, if_pos hc]
              have HZ := Lib.hid (show (v0.setCell ⟨w5.heap.size, 1, none⟩ (.int .i8 kk)).heap[w5.heap.size]? = some (.cells #[.int .i8 a0, .int .i8 a1, .int .i8 0, .int .i8 0] 23 (0, 0)) ∧ Below w5.heap.size w5 (v0.setCell ⟨w5.heap.size, 1, none⟩ (.int .i8 kk)) from ⟨by rw [ea]; exact set_blk yh0 1 _, b0.setCell (p := ⟨w5.heap.size, 1, none⟩) (Nat.le_refl _) _⟩)
              clear yh0 ea
              go_wp2
              all_goals go_meet
              all_goals exact ⟨rfl, HZ⟩
            · have ea : a1 = 0 := by rw [HA1.out, if_neg hc]
              have HZ := Lib.hid (show v0.heap[w5.heap.size]? = some (.cells #[.int .i8 a0, .int .i8 a1, .int .i8 0, .int .i8 0] 23 (0, 0)) ∧ Below w5.heap.size w5 v0 from ⟨by rw [ea]; exact yh0, b0⟩)
              clear yh0 ea
              go_wp2
              all_goals go_meet
              all_goals exact ⟨rfl, HZ⟩
          case rest =>
            obtain ⟨rfl, HC1⟩ := hcut
            clear z5 e0 e1 e2 e3 e4 yh0 b0
            obtain ⟨v1, hv1⟩ : ∃ z : World, z = wc := ⟨_, rfl⟩
            rw [← hv1] at HC1 ⊢
            clear hv1
            obtain ⟨yh1, b1⟩ := HC1.out
            clear HC1
            obtain ⟨z5, e0, e1, e2, e3, e4⟩ := HL5.out v1 b1
            go_upto_if 66 with (fail)
            go_cut [10] from 11 to 80 (fun s wx => s = .pointer (some ⟨w5.heap.size, 0, none⟩) ∧ RowKit.Hid (wx.heap[w5.heap.size]? = some (.cells #[.int .i8 a0, .int .i8 a1, .int .i8 a2, .int .i8 0] 23 (0, 0)) ∧ Below w5.heap.size w5 wx))
            case first =>
              have za := lt_of_block yh1
              have fa : v1.frozen? ⟨w5.heap.size, 2, none⟩ = false := frozen_of_row _ _ _ _ _ yh1
              have ca : v1.cell? ⟨w5.heap.size, 2, none⟩ = some (.int .i8 0) := by rw [cell_of_row _ _ _ _ _ _ yh1]; rfl
              by_cases hc : (y : Int) < y1
              · have ea : a2 = kk := by rw [HA2.out, if_pos hc]
                have HZ := Lib.hid (show (v1.setCell ⟨w5.heap.size, 2, none⟩ (.int .i8 kk)).heap[w5.heap.size]? = some (.cells #[.int .i8 a0, .int .i8 a1, .int .i8 a2, .int .i8 0] 23 (0, 0)) ∧ Below w5.heap.size w5 (v1.setCell ⟨w5.heap.size, 2, none⟩ (.int .i8 kk)) from ⟨by rw [ea]; exact set_blk yh1 2 _, b1.setCell (p := ⟨w5.heap.size, 2, none⟩) (Nat.le_refl _) _⟩)
                clear yh1 ea
                go_wp2
                all_goals go_meet
                all_goals exact ⟨rfl, HZ⟩
              · have ea : a2 = 0 := by rw [HA2.out, if_neg hc]
                have HZ := Lib.hid (show v1.heap[w5.heap.size]? = some (.cells #[.int .i8 a0, .int .i8 a1, .int .i8 a2, .int .i8 0] 23 (0, 0)) ∧ Below w5.heap.size w5 v1 from ⟨by rw [ea]; exact yh1, b1⟩)
                clear yh1 ea
                go_wp2
                all_goals go_meet
                all_goals exact ⟨rfl, HZ⟩
            case rest =>
              obtain ⟨rfl, HC2⟩ := hcut
              clear z5 e0 e1 e2 e3 e4 yh1 b1
              obtain ⟨v2, hv2⟩ : ∃ z : World, z = wc := ⟨_, rfl⟩
              rw [← hv2] at HC2 ⊢
              clear hv2
              obtain ⟨yh2, b2⟩ := HC2.out
              clear HC2
              obtain ⟨z5, e0, e1, e2, e3, e4⟩ := HL5.out v2 b2
              go_upto_if 73 with (fail)
              go_cut [10] from 11 to 80 (fun s wx => s = .pointer (some ⟨w5.heap.size, 0, none⟩) ∧ RowKit.Hid (wx.heap[w5.heap.size]? = some (.cells #[.int .i8 a0, .int .i8 a1, .int .i8 a2, .int .i8 a3] 23 (0, 0)) ∧ Below w5.heap.size w5 wx))
              case first =>
                have za := lt_of_block yh2
                have fa : v2.frozen? ⟨w5.heap.size, 3, none⟩ = false := frozen_of_row _ _ _ _ _ yh2
                have ca : v2.cell? ⟨w5.heap.size, 3, none⟩ = some (.int .i8 0) := by rw [cell_of_row _ _ _ _ _ _ yh2]; rfl
                by_cases hc : x0 < (x : Int)
                · have ea : a3 = kk := by rw [HA3.out, if_pos hc]
                  have HZ := Lib.hid (show (v2.setCell ⟨w5.heap.size, 3, none⟩ (.int .i8 kk)).heap[w5.heap.size]? = some (.cells #[.int .i8 a0, .int .i8 a1, .int .i8 a2, .int .i8 a3] 23 (0, 0)) ∧ Below w5.heap.size w5 (v2.setCell ⟨w5.heap.size, 3, none⟩ (.int .i8 kk)) from ⟨by rw [ea]; exact set_blk yh2 3 _, b2.setCell (p := ⟨w5.heap.size, 3, none⟩) (Nat.le_refl _) _⟩)
                  clear yh2 ea
                  go_wp2
                  all_goals go_meet
                  all_goals exact ⟨rfl, HZ⟩
                · have ea : a3 = 0 := by rw [HA3.out, if_neg hc]
                  have HZ := Lib.hid (show v2.heap[w5.heap.size]? = some (.cells #[.int .i8 a0, .int .i8 a1, .int .i8 a2, .int .i8 a3] 23 (0, 0)) ∧ Below w5.heap.size w5 v2 from ⟨by rw [ea]; exact yh2, b2⟩)
                  clear yh2 ea
                  go_wp2
                  all_goals go_meet
                  all_goals exact ⟨rfl, HZ⟩
              case rest =>
                obtain ⟨rfl, HC3⟩ := hcut
                clear z5 e0 e1 e2 e3 e4 yh2 b2
                obtain ⟨v3, hv3⟩ : ∃ z : World, z = wc := ⟨_, rfl⟩
                rw [← hv3] at HC3 ⊢
                clear hv3
                obtain ⟨yh3, b3⟩ := HC3.out
                clear HC3
                have za := lt_of_block yh3
                have g0 : v3.cell? ⟨w5.heap.size, 0, none⟩ = some (.int .i8 a0) := by rw [cell_of_row _ _ _ _ _ _ yh3]; rfl
                have g1 : v3.cell? ⟨w5.heap.size, 1, none⟩ = some (.int .i8 a1) := by rw [cell_of_row _ _ _ _ _ _ yh3]; rfl
                have g2 : v3.cell? ⟨w5.heap.size, 2, none⟩ = some (.int .i8 a2) := by rw [cell_of_row _ _ _ _ _ _ yh3]; rfl
                have g3 : v3.cell? ⟨w5.heap.size, 3, none⟩ = some (.int .i8 a3) := by rw [cell_of_row _ _ _ _ _ _ yh3]; rfl
                have HO := Lib.hid (row_later HO5.out b3)
                have HB := Lib.hid (show Below w1.heap.size w1 v3 from HB5.out.trans (b3.mono HB5.out.size))
                have hl := HLN.out
                clear yh3 b3 HO5 HB5
                go_wp2_with (at_builtin; go_must (refine append_keep rfl (.tmp 77) (.tmp 79) 34 rfl w1.heap.size 23 i0 _ 4 4 Try.underlying34 HI.out.1 HI.out.2.1 HI.out.2.2.1 HI.out.2.2.2 rfl (by decide) _ AL.length _ rfl (HO.out.alloc _) ⟨v3.heap.size, 0, none⟩ 1 1 [.int .i8 a0, .int .i8 a1, .int .i8 a2, .int .i8 a3] rfl rfl ?b1 ?b2 ?b3 ?b4 ?b5 ?_))
                (try case b1 => exact World.news_of_block (cs := #[.int .i8 a0, .int .i8 a1, .int .i8 a2, .int .i8 a3]) (t := 23) (fr := (0, 0)) (heap_alloc_new _ _))
                case b2 => first | exact ⟨rfl, rfl, rfl, rfl⟩ | (intro u hu; simp only [List.mem_cons, List.not_mem_nil, or_false] at hu; rcases hu with rfl | rfl | rfl | rfl <;> rfl)
                case b3 => unfold maxLen; omega
                case b4 => omega
                case b5 => have := HB.out.size; simp; omega
                intro v4 w7 own7 gr7 pl7
                have HG2 := Lib.hid (show w7.ownsRow w1.heap.size 23 4 v4 ((ts.take (i + 1)).flatMap (con x y)).length (cellsA ((ts.take (i + 1)).flatMap (con x y))) ∧ Below w1.heap.size w1 w7 from by
                  rw [HG.out, cellsA_append, List.length_append]
                  exact ⟨own7, Below.grown (HB.out.trans ((below_al (Below.refl v3.heap.size v3) _).mono HB.out.size)) gr7 (by have := HB.out.size; simp; omega) (fun k hk => (row_lt HO.out k hk).2)⟩)
                clear own7 gr7 pl7 HO g0 g1 g2 g3 hl za
                go_wp2
                go_roundw
                case rel => exact ⟨i + 1, by go_num, by omega, HG2⟩
                case measure => simp [intOf] <;> omega
    · have hii : ¬ (i : Int) < (ts.length : Int) := by omega
      obtain rfl : i = ts.length := by omega
      obtain ⟨pv, cv, hv⟩ := row_slice HR.out.1
      have hlen := con_len x y ts
      have HQ := Lib.hid (show SlA wr pv (ts.flatMap (con x y)) from by
        have h1 := HR.out.1
        rw [hv] at h1
        simp only [List.take_length] at h1
        exact row_slA h1 rfl)
      obtain ⟨nn, hnn, hv2⟩ : ∃ n, n = (ts.flatMap (con x y)).length ∧ _ = Value.slice pv n cv := ⟨_, rfl, hv.trans (by rw [List.take_length])⟩
      clear hv
      subst hv2
      have xr := (HR.out.2.block _ (lt_of_block HX1.out)).trans HX1.out
      have HXR := Lib.hid xr
      have HBR := Lib.hid HR.out.2
      clear xr HR RW
      have HM := Lib.hid (rmerge_any pv nn cv (ts.flatMap (con x y)) wr hnn.symm (by omega) HQ.out)
      obtain ⟨m, hm⟩ : ∃ m, m = mergeA (ts.flatMap (con x y)) := ⟨_, rfl⟩
      rw [← hm] at HM
      have HMM := Lib.hid hm
      clear hm hnn
      go_wp2_with fail
      refine HM.out.mono ?_
      rintro e w9 ⟨rfl, hb9⟩
      have x9 := (hb9.block _ (lt_of_block HXR.out)).trans HXR.out
      have z9 := lt_of_block x9
      have f0 : w9.frozen? ⟨w.heap.size, 0, none⟩ = false := frozen_of_row _ _ _ _ _ x9
      have f1 : w9.frozen? ⟨w.heap.size, 1, none⟩ = false := frozen_of_row _ _ _ _ _ x9
      have f2 : w9.frozen? ⟨w.heap.size, 2, none⟩ = false := frozen_of_row _ _ _ _ _ x9
      have f3 : w9.frozen? ⟨w.heap.size, 3, none⟩ = false := frozen_of_row _ _ _ _ _ x9
      have g0 : w9.cell? ⟨w.heap.size, 0, none⟩ = some (.int .i8 0) := by rw [cell_of_row _ _ _ _ _ _ x9]; rfl
      have g1 : w9.cell? ⟨w.heap.size, 1, none⟩ = some (.int .i8 0) := by rw [cell_of_row _ _ _ _ _ _ x9]; rfl
      have g2 : w9.cell? ⟨w.heap.size, 2, none⟩ = some (.int .i8 0) := by rw [cell_of_row _ _ _ _ _ _ x9]; rfl
      have g3 : w9.cell? ⟨w.heap.size, 3, none⟩ = some (.int .i8 0) := by rw [cell_of_row _ _ _ _ _ _ x9]; rfl
      have HX9 := Lib.hid x9
      have HB9 := Lib.hid (show Below w.heap.size w w9 from by
        have b2 : Below w1.heap.size w1 w9 := HBR.out.trans (hb9.mono HBR.out.size)
        exact below_via b2 HB1.out)
      clear x9 hb9 HXR HBR zg c2
      go_wp2
      obtain ⟨wA, hwA⟩ : ∃ z, z = (((w9.setCell ⟨w.heap.size, 0, none⟩ (.int .i8 m.u)).setCell ⟨w.heap.size, 1, none⟩ (.int .i8 m.r)).setCell ⟨w.heap.size, 2, none⟩ (.int .i8 m.d)).setCell ⟨w.heap.size, 3, none⟩ (.int .i8 m.l) := ⟨_, rfl⟩
      have xA : wA.heap[w.heap.size]? = some (.cells #[.int .i8 m.u, .int .i8 m.r, .int .i8 m.d, .int .i8 m.l] 23 (0, 0)) := by rw [hwA]; exact four_setsG HX9.out _ _ _ _
      have BA : Below w.heap.size w wA := by
        rw [hwA]
        exact (((HB9.out.setCell (p := ⟨w.heap.size, 0, none⟩) (Nat.le_refl _) _).setCell (p := ⟨w.heap.size, 1, none⟩) (Nat.le_refl _) _).setCell (p := ⟨w.heap.size, 2, none⟩) (Nat.le_refl _) _).setCell (p := ⟨w.heap.size, 3, none⟩) (Nat.le_refl _) _
      rw [← hwA]
      clear hwA g0 g1 g2 g3 f0 f1 f2 f3 z9
      have g0 : wA.cell? ⟨w.heap.size, 0, none⟩ = some (.int .i8 m.u) := by rw [cell_of_row _ _ _ _ _ _ xA]; rfl
      have g1 : wA.cell? ⟨w.heap.size, 1, none⟩ = some (.int .i8 m.r) := by rw [cell_of_row _ _ _ _ _ _ xA]; rfl
      have g2 : wA.cell? ⟨w.heap.size, 2, none⟩ = some (.int .i8 m.d) := by rw [cell_of_row _ _ _ _ _ _ xA]; rfl
      have g3 : wA.cell? ⟨w.heap.size, 3, none⟩ = some (.int .i8 m.l) := by rw [cell_of_row _ _ _ _ _ _ xA]; rfl
      exact bodyPost_ret (v := arms4 m) (by unfold arms4; simp [results, Try.results56, go_sem, g0, g1, g2, g3]) rfl ⟨by rw [HMM.out], BA⟩
set_option maxRecDepth 100000 in
set_option maxHeartbeats 8000000 in
theorem rat_out (base g W H : Nat) (lv : Value) (ts : List Ln) (X Y : Int) (w : World) (hp : RPl base w g W H lv ts) (h : X < 0 ∨ (W : Int) ≤ X ∨ Y < 0 ∨ (H : Int) ≤ Y) : Calls Try.prog 48 #[.pointer (some ⟨g, 0, none⟩), .int .i64 X, .int .i64 Y] w fun e w' => e = .returned (.tuple #[.int .i32 0, .bool false]) ∧ Below w.heap.size w w' := by
  obtain ⟨zg, c0, c1, -, -⟩ := hp.cells
  clear hp
  rcases (show X < 0 ∨ (¬ X < 0 ∧ (W : Int) ≤ X) ∨ (¬ X < 0 ∧ ¬ (W : Int) ≤ X ∧ Y < 0) ∨ (¬ X < 0 ∧ ¬ (W : Int) ≤ X ∧ ¬ Y < 0 ∧ (H : Int) ≤ Y) by omega) with n1 | ⟨n1, n2⟩ | ⟨n1, n2, n3⟩ | ⟨n1, n2, n3, n4⟩
  all_goals
    clear h
    go_enter Try.func48, Try.ntmps48
    go_wp2
    go_ret2
    exact ⟨rfl, by go_grown⟩
set_option maxRecDepth 100000 in
set_option maxHeartbeats 8000000 in
theorem rat_in (base g W H : Nat) (lv : Value) (ts : List Ln) (x y : Nat) (hx : x < W) (hy : y < H) (hW : W ≤ 4096) (hH : H ≤ 4096) (hN : ∀ t ∈ ts, Nrm t) (hn : ts.length ≤ 1073741824) (w : World) (hp : RPl base w g W H lv ts) : Calls Try.prog 48 #[.pointer (some ⟨g, 0, none⟩), .int .i64 (x : Int), .int .i64 (y : Int)] w fun e w' => e = .returned (if noArms (mergeA (ts.flatMap (con x y))) = true then .tuple #[.int .i32 0, .bool false] else .tuple #[.int .i32 (runeA (mergeA (ts.flatMap (con x y)))), .bool true]) ∧ Below w.heap.size w w' := by
  obtain ⟨zg, c0, c1, -, -⟩ := hp.cells
  have HM := Lib.hid (rarms_any base g W H lv ts x y (by omega) (by omega) hN hn w hp)
  obtain ⟨m, hm⟩ : ∃ m, m = mergeA (ts.flatMap (con x y)) := ⟨_, rfl⟩
  rw [← hm] at HM ⊢
  clear hp hm hN
  have eqs := eqArr
  obtain ⟨a0, a1, a2, a3⟩ := m
  obtain ⟨rr, hrr⟩ : ∃ r, r = runeA ⟨a0, a1, a2, a3⟩ := ⟨_, rfl⟩
  rw [← hrr]
  have HRR := Lib.hid hrr
  clear hrr
  have n1 : ¬ (x : Int) < 0 := by omega
  have n2 : ¬ (W : Int) ≤ (x : Int) := by omega
  have n3 : ¬ (y : Int) < 0 := by omega
  have n4 : ¬ (H : Int) ≤ (y : Int) := by omega
  have E : RowKit.Hid (noArms ⟨a0, a1, a2, a3⟩ = (a0 == 0 && a1 == 0 && a2 == 0 && a3 == 0)) := Lib.hid rfl
  unfold arms4 at HM
  cases ha : (a0 == 0 && a1 == 0 && a2 == 0 && a3 == 0)
  · rw [ha] at E
    rw [if_neg (by rw [E.out]; decide)]
    go_enter Try.func48, Try.ntmps48
    go_wp2_with fail
    refine HM.out.mono ?_
    rintro e w1 ⟨rfl, hb⟩
    have HB := Lib.hid hb
    clear hb c0 c1 zg
    go_wp2_with fail
    refine (rrune_any ⟨a0, a1, a2, a3⟩ _).mono ?_
    rw [← rune_eq, ← HRR.out]
    rintro e w2 ⟨rfl, hb⟩
    have BF := Lib.hid (below_via hb (below_al HB.out _))
    go_wp2
    go_ret2
    exact ⟨rfl, BF.out⟩
  · rw [ha] at E
    rw [if_pos E.out]
    go_enter Try.func48, Try.ntmps48
    go_wp2_with fail
    refine HM.out.mono ?_
    rintro e w1 ⟨rfl, hb⟩
    have HB := Lib.hid hb
    clear hb c0 c1 zg
    go_wp2
    go_ret2
    exact ⟨rfl, below_al HB.out _⟩
end Go.Proofs.Ytebalohoblaedaa
