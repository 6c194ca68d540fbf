/- RfZ: RfA RfB RfC RfD RfE RfF in one text. -/
import Derived.Test.YtekcheccelllcaaRctPr
import Derived.Test.YtekcheccelllcaaKep
import Derived.Test.YtekcheccelllcaaRgZ
import Derived.BigQuiet
import Derived.StillTailTactics
import Derived.BigRegion
import Derived.Lib.MinMax
import Derived.Test.YtekcheccelllcaaRctV
import Derived.Test.YtekcheccelllcaaAnyZ
import Derived.Test.YtekcheccelllcaaRgNw
import Derived.Test.YtekcheccelllcaaRgE
import Derived.Laws.OwnMore
namespace Go.Proofs.Ytekcheccelllcaa
open Go.RowKit
set_option linter.unusedVariables false
set_option linter.unusedSimpArgs false

theorem sizes_small (x : Int) (h : -4611686018427387904 ≤ x ∧ x ≤ 4611686018427387904) : IntKind.i64.wrap x = x := by
  unfold IntKind.wrap
  simp [IntKind.signed, IntKind.bits]
  omega
theorem infoSpan : (Try.prog.info? 103).map (fun i => (i.zero, i.size, i.bytes)) = some (some (.agg #[.int .i64 0, .int .i64 0]), 2, 16) := by kernel_rfl
/-- spans that lie in memory one behind the other -/
def SpAt (w : World) (p : Option Addr) (l : List (Int × Int)) : Prop := l.length ≠ 0 → ∃ b off, p = some ⟨b, off, none⟩ ∧ b < w.heap.size ∧ ∀ i, i < l.length → w.cell? ⟨b, off + i * 2, none⟩ = some (.int .i64 (l.getD i (0, 0)).1) ∧ w.cell? ⟨b, off + i * 2 + 1, none⟩ = some (.int .i64 (l.getD i (0, 0)).2)
theorem SpAt.keep {w w' : World} {p : Option Addr} {l : List (Int × Int)} (h : SpAt w p l) (hz : w.heap.size ≤ w'.heap.size) (hk : ∀ b off, p = some ⟨b, off, none⟩ → w'.heap[b]? = w.heap[b]?) : SpAt w' p l := fun h0 => by
  obtain ⟨b, off, e, hl, hc⟩ := h h0
  refine ⟨b, off, e, by omega, fun i hi => ?_⟩
  have hb := hk b off e
  rw [World.cell?_of_block (a := ⟨b, off + i * 2, none⟩) hb, World.cell?_of_block (a := ⟨b, off + i * 2 + 1, none⟩) hb]
  exact hc i hi
theorem SpAt.later {w w' : World} {p : Option Addr} {l : List (Int × Int)} (h : SpAt w p l) (hb : Below w.heap.size w w') : SpAt w' p l := fun h0 => by
  obtain ⟨b, off, e, hl, hc⟩ := h h0
  exact (h.keep hb.size fun b' off' e' => by rw [e] at e'; injection e' with e'; injection e' with e1; subst e1; exact hb.block b hl) h0
theorem cellsQ_at (C : List (Int × Int)) (i : Nat) (h : i < C.length) : (cellsP C)[i * 2]? = some (.int .i64 (C.getD i (0, 0)).1) ∧ (cellsP C)[i * 2 + 1]? = some (.int .i64 (C.getD i (0, 0)).2) := by
  induction C generalizing i with
  | nil => simp at h
  | cons r C ih =>
    have e : cellsP (r :: C) = .int .i64 r.1 :: .int .i64 r.2 :: cellsP C := by simp [cellsP]
    rw [e]
    cases i with
    | zero => simp
    | succ i =>
      have := ih i (by simpa using h)
      rw [show (i + 1) * 2 = i * 2 + 1 + 1 by omega]
      simpa using this
theorem row_spAt {w : World} {base : Nat} {p : Option Addr} {n c : Nat} {l : List (Int × Int)} (h : w.ownsRow base 103 2 (.slice p n c) l.length (cellsP l)) : SpAt w p l := fun h0 => by
  rcases row_form h with ⟨_, e, _⟩ | ⟨g, c', e, _, _, hg, _⟩
  · exact absurd e h0
  · injection e with e1 e2 e3
    subst e1 e2 e3
    refine ⟨g, 0, rfl, hg, fun i hi => ?_⟩
    obtain ⟨d0, d1⟩ := cellsQ_at l i hi
    have r0 := row_cells h _ _ d0
    have r1 := row_cells h _ _ d1
    exact ⟨by simpa using r0, by rw [show 0 + i * 2 + 1 = 0 + (i * 2 + 1) by omega]; simpa using r1⟩
theorem putS_no {out : List (Int × Int)} {a b : Int} (h : a ≥ b) : putS out a b = out := by unfold putS; rw [if_pos h]
theorem putS_nil {a b : Int} (h : ¬ a ≥ b) : putS [] a b = [(a, b)] := by unfold putS; rw [if_neg h]; rfl
theorem putS_last {out : List (Int × Int)} {q : Int × Int} {a b : Int} (h : ¬ a ≥ b) : putS (out ++ [q]) a b = if q.2 = a then out ++ [(q.1, b)] else out ++ [q] ++ [(a, b)] := by
  unfold putS; rw [if_neg h, List.getLast?_append]; simp
theorem cellsP_setLast (out : List (Int × Int)) (q : Int × Int) (b : Int) : (cellsP (out ++ [q])).set (out.length * 2 + 1) (.int .i64 b) = cellsP (out ++ [(q.1, b)]) := by
  rw [cellsP_append, cellsP_append, List.set_append_right _ _ (by rw [cellsP_len]; omega), cellsP_len]
  rw [show out.length * 2 + 1 - out.length * 2 = 1 by omega]
  rfl
set_option maxRecDepth 100000 in
set_option maxHeartbeats 8000000 in
theorem put_any (base : Nat) (w : World) (v : Value) (out : List (Int × Int)) (a b : Int) (h : w.ownsRow base 103 2 v out.length (cellsP out)) (hl : out.length ≤ 1000000) (hb : base ≤ w.heap.size) : Calls Try.prog 75 #[v, .int .i64 a, .int .i64 b] w fun e w' => ∃ v', e = .returned v' ∧ w'.ownsRow base 103 2 v' (putS out a b).length (cellsP (putS out a b)) ∧ w.grownBy w' v.ownBlock ∧ (v'.ownBlock = v.ownBlock ∨ ∃ g, v'.ownBlock = some g ∧ w.heap.size ≤ g) := by
  obtain ⟨i0, hi0, hz0, hz1, hz2⟩ := info_parts infoSpan
  have HI0 := Lib.hid (And.intro hi0 (And.intro hz0 (And.intro hz1 hz2)))
  clear hi0 hz0 hz1 hz2
  have HO := Lib.hid h
  obtain ⟨p, c, rfl⟩ := row_slice h
  clear h
  by_cases hab : a ≥ b
  · have HPS := Lib.hid (putS_no (out := out) hab)
    go_enter Try.func75, Try.ntmps75
    go_wp2
    go_ret
    exact ⟨_, rfl, by rw [HPS.out]; exact HO.out, only_refl _ _, .inl rfl⟩
  · have hba : ¬ b ≤ a := hab
    rcases List.eq_nil_or_concat out with e | ⟨pre, q, e⟩
    · subst e
      have HPS := Lib.hid (show putS [] a b = [] ++ [(a, b)] from putS_nil hab)
      clear hab
      go_enter Try.func75, Try.ntmps75
      have HOX := Lib.hid (row_later HO.out (below_al (Below.refl w.heap.size w) (.cells #[.int .i64 a, .int .i64 b] 103)))
      go_wp2_with (at_builtin; go_must (refine append_keep rfl (.tmp 33) (.tmp 37) 101 rfl base 103 i0 (.agg #[.int .i64 0, .int .i64 0]) 2 16 Try.underlying101 HI0.out.1 HI0.out.2.1 HI0.out.2.2.1 HI0.out.2.2.2 rfl (by decide) _ 0 _ rfl HOX.out ⟨w.heap.size, 0, none⟩ 1 1 [.int .i64 a, .int .i64 b] rfl rfl ?f0 ?f1 ?f2 ?f3 ?f4 ?_))
      (try case f0 => exact World.news_of_block (cs := #[.int .i64 a, .int .i64 b]) (t := 103) (fr := (0, 0)) (heap_alloc_new _ _))
      (try case f1 => first | exact ⟨rfl, rfl⟩ | (intro u hu; simp at hu; rcases hu with rfl | rfl <;> rfl))
      (try case f2 => unfold maxLen; omega)
      (try case f3 => omega)
      (try case f4 => first | omega | (simp; omega))
      intro v6 w6 own6 gr6 loc6
      go_wp2
      go_ret
      refine ⟨v6, rfl, ?_, ⟨gr6.os, gr6.tape, gr6.output, by have := gr6.size; simp at this; omega, fun k hk hn => (gr6.block k (by simp; omega) hn).trans (heap_alloc_old _ _ hk)⟩, ?_⟩
      · rw [HPS.out, List.length_append, cellsP_append]; exact own6
      · rcases loc6 with e | ⟨e, _⟩
        · exact .inl e
        · exact .inr ⟨_, e, by simp⟩
    · simp only [List.concat_eq_append] at e
      have HPS := Lib.hid (putS_last (out := pre) (q := q) hab)
      obtain ⟨n, hn⟩ : ∃ n, n = out.length := ⟨_, rfl⟩
      have hnm : n = pre.length + 1 := by rw [hn, e]; simp
      obtain ⟨m, hm⟩ : ∃ m, m = pre.length := ⟨_, rfl⟩
      rw [← hm] at hnm
      rw [← e] at HPS
      rw [← hn] at HO hl ⊢
      obtain ⟨g, rfl⟩ : ∃ g, p = some ⟨g, 0, none⟩ := by
        rcases row_form HO.out with ⟨_, h, _⟩ | ⟨g, c, h, _⟩
        · omega
        · injection h with e1 e2 e3; exact ⟨g, e1⟩
      have k1 := row_cells HO.out _ _ (cellsQ_at out m (by omega)).2
      rw [Nat.zero_add] at k1
      have hq : (out.getD m (0, 0)).2 = q.2 := by rw [e, hm, List.getD_eq_getElem?_getD, List.getElem?_append_right (Nat.le_refl _)]; simp
      rw [hq] at k1
      have zg := (row_lt HO.out g rfl).1
      have fz := HO.out.frozenAt (m * 2 + 1)
      have HMM := Lib.hid (And.intro hn hm)
      have HE := Lib.hid e
      obtain ⟨qa, qb⟩ := q
      simp only at k1 HPS
      have hm1 : (n : Int) - 1 = (m : Int) := by omega
      have hwm : IntKind.i64.wrap (m : Int) = (m : Int) := sizes_small _ (by omega)
      have hmn : (m : Int) < (n : Int) := by omega
      have hm0 : (0 : Int) ≤ (m : Int) := by omega
      have hn0 : (0 : Int) < (n : Int) := by omega
      clear hn hm e hq hab hnm
      by_cases hqa : qb = a
      · have hqe : (qb == a) = true := by simpa using hqa
        subst hqa
        rw [if_pos rfl] at HPS
        go_enter Try.func75, Try.ntmps75
        go_wp2
        go_ret
        have hst := (HO.out.stored (m * 2 + 1) (.int .i64 b)).1
        refine ⟨_, rfl, ?_, only_setCell (only_refl _ _) (.inl rfl) _, .inl rfl⟩
        have e1 : (pre ++ [(qa, b)]).length = n := by have := HMM.out.2; rw [HMM.out.1, HE.out]; simp
        rw [HPS.out, e1, ← cellsP_setLast pre (qa, qb) b, ← HE.out, ← HMM.out.2]
        exact hst
      · have hqe : (qb == a) = false := by simpa using hqa
        rw [if_neg hqa] at HPS
        go_enter Try.func75, Try.ntmps75
        have HOX := Lib.hid (row_later HO.out (below_al (Below.refl w.heap.size w) (.cells #[.int .i64 a, .int .i64 b] 103)))
        go_wp2_with (at_builtin; go_must (refine append_keep rfl (.tmp 33) (.tmp 37) 101 rfl base 103 i0 (.agg #[.int .i64 0, .int .i64 0]) 2 16 Try.underlying101 HI0.out.1 HI0.out.2.1 HI0.out.2.2.1 HI0.out.2.2.2 rfl (by decide) _ n _ rfl HOX.out ⟨w.heap.size, 0, none⟩ 1 1 [.int .i64 a, .int .i64 b] rfl rfl ?g0 ?g1 ?g2 ?g3 ?g4 ?_))
        (try case g0 => exact World.news_of_block (cs := #[.int .i64 a, .int .i64 b]) (t := 103) (fr := (0, 0)) (heap_alloc_new _ _))
        (try case g1 => first | exact ⟨rfl, rfl⟩ | (intro u hu; simp at hu; rcases hu with rfl | rfl <;> rfl))
        (try case g2 => unfold maxLen; omega)
        (try case g3 => omega)
        (try case g4 => first | omega | (simp; omega))
        intro v6 w6 own6 gr6 loc6
        go_wp2
        go_ret
        refine ⟨v6, rfl, ?_, ⟨gr6.os, gr6.tape, gr6.output, by have := gr6.size; simp at this; omega, fun k hk hn => (gr6.block k (by simp; omega) hn).trans (heap_alloc_old _ _ hk)⟩, ?_⟩
        · rw [HPS.out, List.length_append, cellsP_append, ← HMM.out.1]; exact own6
        · rcases loc6 with e | ⟨e, _⟩
          · exact .inl e
          · exact .inr ⟨_, e, by simp⟩

set_option maxRecDepth 100000 in
set_option maxHeartbeats 8000000 in
theorem alike_any (p q : Option Addr) (n m c d : Nat) (l l' : List (Int × Int)) (w : World) (hn : n = l.length) (hm : m = l'.length) (hl : n ≤ 1000000) (hp : SpAt w p l) (hq : SpAt w q l') : Calls Try.prog 72 #[.slice p n c, .slice q m d] w fun e w' => e = .returned (.bool (decide (l = l'))) ∧ Below w.heap.size w w' := by
  by_cases hnm : n = m
  · subst hnm
    have HN := Lib.hid hn
    have HM := Lib.hid hm
    have HP := Lib.hid hp
    have HQ := Lib.hid hq
    clear hn hm hp hq
    go_enter Try.func72, Try.ntmps72
    go_wp2
    go_loopw [5] (fun iv wr => ∃ i : Nat, iv = .int .i64 i ∧ i ≤ n ∧ RowKit.Hid (∀ j, j < i → l.getD j (0, 0) = l'.getD j (0, 0)) ∧ RowKit.Hid (Below w.heap.size w wr)) (fun iv _ => n - (intOf iv).toNat)
    case atStart => exact ⟨0, rfl, Nat.zero_le _, Lib.hid (fun j hj => by omega), Lib.hid (Below.refl _ _)⟩
    case round =>
      obtain ⟨i, rfl, hi, HE, HW⟩ := hrel
      by_cases hlt : i < n
      · have hii : (i : Int) < (n : Int) := by omega
        obtain ⟨rb, ro, rfl, zr, hc⟩ := (HP.out.later HW.out) (by rw [← HN.out]; omega)
        obtain ⟨rb2, ro2, rfl, zr2, hc2⟩ := (HQ.out.later HW.out) (by rw [← HM.out]; omega)
        obtain ⟨c0, c1⟩ := hc i (by rw [← HN.out]; exact hlt)
        obtain ⟨d0, d1⟩ := hc2 i (by rw [← HM.out]; exact hlt)
        generalize hx : l.getD i (0, 0) = x at c0 c1
        generalize hy : l'.getD i (0, 0) = y at d0 d1
        have HX := Lib.hid (And.intro hx hy)
        clear hc hc2 hx hy
        by_cases e0 : x.1 = y.1
        · by_cases e1 : x.2 = y.2
          · have HEQ := Lib.hid (show x = y from Prod.ext e0 e1)
            rw [e0] at c0
            rw [e1] at c1
            clear e0 e1
            go_wp2
            go_region
            go_wp2
            go_roundw
            case rel => exact ⟨i + 1, by go_num, by omega, Lib.hid (fun j hj => by
              by_cases hj2 : j < i
              · exact HE.out j hj2
              · have : j = i := by omega
                rw [this, HX.out.1, HX.out.2, HEQ.out]), Lib.hid (by first | exact HW.out.trans (Below.drew (Below.refl _ _)) | exact HW.out)⟩
            case measure => simp [intOf] <;> omega
          · have HNE := Lib.hid (show ¬ l = l' from fun h => e1 (by rw [← HX.out.1, ← HX.out.2, h]))
            go_wp2
            go_region
            go_wp2
            go_ret
            exact ⟨by rw [decide_eq_false HNE.out]; rfl, (by first | exact HW.out.trans (Below.drew (Below.refl _ _)) | exact HW.out)⟩
        · have HNE := Lib.hid (show ¬ l = l' from fun h => e0 (by rw [← HX.out.1, ← HX.out.2, h]))
          go_wp2
          go_region
          go_wp2
          go_ret
          exact ⟨by rw [decide_eq_false HNE.out]; rfl, (by first | exact HW.out.trans (Below.drew (Below.refl _ _)) | exact HW.out)⟩
      · have hii : ¬ (i : Int) < (n : Int) := by omega
        obtain rfl : n = i := by omega
        have HEQ := Lib.hid (show l = l' from by
          refine List.ext_getElem (by rw [← HN.out, ← HM.out]) fun j h1 h2 => ?_
          have := HE.out j (by rw [HN.out]; exact h1)
          rw [List.getD_eq_getElem?_getD, List.getD_eq_getElem?_getD, List.getElem?_eq_getElem h1, List.getElem?_eq_getElem h2] at this
          exact this)
        clear HE
        go_wp2
        go_ret
        exact ⟨by rw [decide_eq_true HEQ.out]; rfl, HW.out⟩
  · have HNE := Lib.hid (show ¬ l = l' from fun h => hnm (by rw [hn, hm, h]))
    have hni : ¬ (n : Int) = (m : Int) := by omega
    clear hn hm hp hq hnm
    go_enter Try.func72, Try.ntmps72
    go_wp2
    go_ret
    exact ⟨by rw [decide_eq_false HNE.out]; rfl, Below.refl _ _⟩
end Go.Proofs.Ytekcheccelllcaa
namespace Go.Proofs.Ytekcheccelllcaa
open Go.RowKit
set_option linter.unusedVariables false
set_option linter.unusedSimpArgs false

/-- the reference's region in memory -/
structure RfAt (base : Nat) (w : World) (h : Nat) (v : Value) (L : List R4) : Prop where
  pr : w.heap[h]? = some (.cells #[v] 100 (0, 0))
  own : w.ownsRow base 23 4 v L.length (cellsR L)
  bh : base ≤ h
def SR (h : Nat) (v : Value) : Nat → Prop := fun k => k = h ∨ v.ownBlock = some k
theorem RfAt.keep {base : Nat} {w w' : World} {h : Nat} {v : Value} {L : List R4} (H : RfAt base w h v L) (hk : ∀ k, SR h v k → w'.heap[k]? = w.heap[k]?) : RfAt base w' h v L :=
  ⟨(hk h (.inl rfl)).trans H.pr, row_keepB H.own fun k hg => hk k (.inr hg), H.bh⟩
theorem RfAt.lt {base : Nat} {w : World} {h : Nat} {v : Value} {L : List R4} (H : RfAt base w h v L) : ∀ k, SR h v k → k < w.heap.size ∧ base ≤ k := by
  rintro k (rfl | hk)
  · exact ⟨lt_of_block H.pr, H.bh⟩
  · exact row_lt H.own _ hk
theorem RfAt.later {base : Nat} {w w' : World} {h : Nat} {v : Value} {L : List R4} (H : RfAt base w h v L) (hb : Below w.heap.size w w') : RfAt base w' h v L := H.keep fun k hk => hb.block k (H.lt k hk).1
/-- its cells -/
theorem RfAt.cells {base : Nat} {w : World} {h : Nat} {p : Option Addr} {n c : Nat} {L : List R4} (H : RfAt base w h (.slice p n c) L) (w' : World) (hh : w'.heap[h]? = w.heap[h]?) : h < w'.heap.size ∧ w'.cell? ⟨h, 0, none⟩ = some (.slice p n c) := by
  have e := hh.trans H.pr
  exact ⟨lt_of_block e, by rw [cell_of_row _ _ _ _ _ _ e]; rfl⟩
theorem RfAt.rects {base : Nat} {w : World} {h : Nat} {p : Option Addr} {n c : Nat} {L : List R4} (H : RfAt base w h (.slice p n c) L) (i : Nat) (hi : i < L.length) : ∃ g, p = some ⟨g, 0, none⟩ ∧ g < w.heap.size ∧ g ≠ h ∧ n = L.length ∧ ∀ w' : World, w'.heap[g]? = w.heap[g]? → (w'.cell? ⟨g, i * 4, none⟩ = some (.int .i64 (L.getD i zR).x) ∧ w'.cell? ⟨g, i * 4 + 1, none⟩ = some (.int .i64 (L.getD i zR).y) ∧ w'.cell? ⟨g, i * 4 + 2, none⟩ = some (.int .i64 (L.getD i zR).w) ∧ w'.cell? ⟨g, i * 4 + 3, none⟩ = some (.int .i64 (L.getD i zR).h)) := by
  rcases row_form H.own with ⟨_, e, _⟩ | ⟨g, c', e, _, _, hg, _⟩
  · omega
  · injection e with e1 e2 e3
    subst e1 e2 e3
    refine ⟨g, rfl, hg, fun e => row_ne_blk H.own H.pr (by decide) (by rw [e]; rfl), rfl, fun w' hk => ?_⟩
    obtain ⟨d0, d1, d2, d3⟩ := cellsR_at L i hi
    have r0 := row_cells H.own _ _ d0
    have r1 := row_cells H.own _ _ d1
    have r2 := row_cells H.own _ _ d2
    have r3 := row_cells H.own _ _ d3
    rw [Nat.zero_add] at r0 r1 r2 r3
    exact ⟨by rw [World.cell?_of_block (a := ⟨g, i * 4, none⟩) hk]; exact r0, by rw [World.cell?_of_block (a := ⟨g, i * 4 + 1, none⟩) hk]; exact r1, by rw [World.cell?_of_block (a := ⟨g, i * 4 + 2, none⟩) hk]; exact r2, by rw [World.cell?_of_block (a := ⟨g, i * 4 + 3, none⟩) hk]; exact r3⟩
theorem refRow_snoc (L : List R4) (r : R4) (y : Int) : refRow (L ++ [r]) y = if r.y ≤ y ∧ y < r.y + r.h then refRow L y ++ [(r.x, r.x + r.w)] else refRow L y := by
  rw [refRow_append]
  by_cases h : r.y ≤ y ∧ y < r.y + r.h
  · rw [if_pos h]; simp [refRow, h]
  · rw [if_neg h]; simp [refRow, h]
theorem refRow_take (L : List R4) (i : Nat) (h : i < L.length) (y : Int) : refRow (L.take (i + 1)) y = if (L.getD i zR).y ≤ y ∧ y < (L.getD i zR).y + (L.getD i zR).h then refRow (L.take i) y ++ [((L.getD i zR).x, (L.getD i zR).x + (L.getD i zR).w)] else refRow (L.take i) y := by
  rw [List.take_succ_eq_append_getElem h, refRow_snoc, List.getD_eq_getElem?_getD, List.getElem?_eq_getElem h]; rfl
theorem refRow_le (L : List R4) (y : Int) : (refRow L y).length ≤ L.length := by
  unfold refRow; rw [List.length_map]; exact List.length_filter_le _ _
set_option maxRecDepth 100000 in
set_option maxHeartbeats 16000000 in
theorem row_any (base : Nat) (w : World) (h : Nat) (v : Value) (L : List R4) (y : Int) (H : RfAt base w h v L) (hL : L.length ≤ 100000) (hP : ∀ r ∈ L, PlaneR r) : Calls Try.prog 70 #[.pointer (some ⟨h, 0, none⟩), .int .i64 y] w fun e w' => ∃ v', e = .returned v' ∧ w'.ownsRow w.heap.size 103 2 v' (refRow L y).length (cellsP (refRow L y)) ∧ Below w.heap.size w w' := by
  obtain ⟨i0, hi0, hz0, hz1, hz2⟩ := info_parts infoSpan
  have HI0 := Lib.hid (And.intro hi0 (And.intro hz0 (And.intro hz1 hz2)))
  clear hi0 hz0 hz1 hz2
  obtain ⟨p, c, rfl⟩ := row_slice H.own
  have HH := Lib.hid H
  have HPL := Lib.hid hP
  obtain ⟨n, hn⟩ : ∃ n, n = L.length := ⟨_, rfl⟩
  rw [← hn] at hL HH
  have HN := Lib.hid hn
  clear H hP hn
  go_enter Try.func70, Try.ntmps70
  obtain ⟨kz, k0⟩ := HH.out.cells w rfl
  go_wp2
  go_loopw [5, 6] (fun ov iv wr => ∃ i : Nat, iv = .int .i64 i ∧ i ≤ n ∧ RowKit.Hid (wr.ownsRow w.heap.size 103 2 ov (refRow (L.take i) y).length (cellsP (refRow (L.take i) y))) ∧ RowKit.Hid (Below w.heap.size w wr)) (fun _ iv _ => n - (intOf iv).toNat)
  case atStart => exact ⟨0, rfl, Nat.zero_le _, Lib.hid ⟨rfl, .inl ⟨rfl, rfl⟩⟩, Lib.hid (Below.refl _ _)⟩
  case round =>
    clear kz k0
    obtain ⟨i, rfl, hi, HO, HW⟩ := hrel
    have HHL := Lib.hid (HH.out.later HW.out)
    obtain ⟨kz, k0⟩ := HHL.out.cells wr rfl
    by_cases hlt : i < n
    · have hii : (i : Int) < (n : Int) := by omega
      obtain ⟨gl, rfl, zl, nl, _, hrc⟩ := HHL.out.rects i (by rw [← HN.out]; exact hlt)
      obtain ⟨c0, c1, c2, c3⟩ := hrc wr rfl
      have hpl : PlaneR (L.getD i zR) := HPL.out _ (by rw [List.getD_eq_getElem?_getD, List.getElem?_eq_getElem (by rw [← HN.out]; exact hlt)]; exact List.getElem_mem _)
      have HTK := Lib.hid (refRow_take L i (by rw [← HN.out]; exact hlt) y)
      have HLE := Lib.hid (Nat.le_trans (refRow_le (L.take i) y) (by rw [List.length_take]; omega : (L.take i).length ≤ i))
      have b1 := hpl.x
      have b2 := hpl.y
      have b3 := hpl.w
      have b4 := hpl.h
      have b5 := hpl.xw
      have b6 := hpl.yh
      have HRC := Lib.hid hrc
      generalize L.getD i zR = r at c0 c1 c2 c3 HTK HRC b1 b2 b3 b4 b5 b6
      have hw1 : IntKind.i64.wrap (r.x + r.w) = r.x + r.w := sizes_small _ (by omega)
      have hw2 : IntKind.i64.wrap (r.y + r.h) = r.y + r.h := sizes_small _ (by omega)
      have hw3 : wrap64 (r.x + r.w) = r.x + r.w := by unfold wrap64; omega
      have hw4 : wrap64 (r.y + r.h) = r.y + r.h := by unfold wrap64; omega
      clear hrc hpl b1 b2 b3 b4 b5 b6
      generalize refRow (L.take i) y = R at HO HTK HLE
      go_upto_region 5 with (fail)
      go_cut [46] (fun s wx => s = .bool (decide (r.y ≤ y ∧ y < r.y + r.h)) ∧ RowKit.Hid (∃ q, wx = wr.drewN q))
      case first =>
        by_cases q0 : r.y ≤ y
        · have d0 : decide (r.y ≤ y) = true := decide_eq_true q0
          by_cases q1 : y < r.y + r.h
          · go_quiet (fail)
            go_wp2
            all_goals go_meet
            all_goals exact ⟨by simp [q0, q1], Lib.hid (by first | exact ⟨_, rfl⟩ | exact ⟨1, rfl⟩ | exact ⟨0, rfl⟩)⟩
          · go_quiet (fail)
            go_wp2
            all_goals go_meet
            all_goals exact ⟨by (simp [q0, q1]; try (intros; omega)), Lib.hid (by first | exact ⟨_, rfl⟩ | exact ⟨1, rfl⟩ | exact ⟨0, rfl⟩)⟩
        · have d0 : decide (r.y ≤ y) = false := decide_eq_false q0
          go_quiet (fail)
          go_wp2
          all_goals go_meet
          all_goals exact ⟨by (simp [q0]; try (intros; omega)), Lib.hid (by first | exact ⟨_, rfl⟩ | exact ⟨1, rfl⟩ | exact ⟨0, rfl⟩)⟩
      case rest =>
        obtain ⟨rfl, HQ⟩ := hcut
        obtain ⟨q, hq⟩ := HQ.out
        have HWC := Lib.hid (show Below wr.heap.size wr wc from by rw [hq]; exact below_drewN (Below.refl _ _) _)
        have hbk : ∀ k : Nat, wc.heap[k]? = wr.heap[k]? := fun k => by rw [hq]; rfl
        have HBK := Lib.hid hbk
        clear hq HQ c0 c1 c2 c3 kz k0 hbk
        obtain ⟨w6, hw6⟩ : ∃ q : World, q = wc := ⟨_, rfl⟩
        rw [← hw6] at HWC HBK ⊢
        clear hw6
        by_cases hin : r.y ≤ y ∧ y < r.y + r.h
        · rw [decide_eq_true hin]
          have HTK2 := Lib.hid (HTK.out.trans (if_pos hin))
          obtain ⟨m, hm⟩ : ∃ m, m = R.length := ⟨_, rfl⟩
          have hml : m ≤ 100000 := by have := HLE.out; omega
          have HML := Lib.hid hm
          rw [← hm] at HO
          have HOW := Lib.hid (row_later HO.out HWC.out)
          obtain ⟨po, co, rfl⟩ := row_slice HOW.out
          have hz6 := HWC.out.size
          have hzw := HW.out.size
          have zh : h < w6.heap.size := by have := lt_of_block HHL.out.pr; omega
          have zg : gl < w6.heap.size := by omega
          have HPH := Lib.hid ((HBK.out h).trans HHL.out.pr)
          have HNL := Lib.hid (show (Value.slice po m co).ownBlock ≠ some gl from fun e => by
            rcases row_ne HOW.out (row_later HHL.out.own HWC.out) (by decide) with h1 | h1
            · rw [h1] at e; cases e
            · exact h1 (e.trans rfl))
          have HS := Lib.hid (show ∀ w' : World, (w'.heap[h]? = w6.heap[h]? ∧ w'.heap[gl]? = w6.heap[gl]?) → (h < w'.heap.size ∧ w'.cell? ⟨h, 0, none⟩ = some (.slice (some ⟨gl, 0, none⟩) n c) ∧ w'.cell? ⟨gl, i * 4, none⟩ = some (.int .i64 r.x) ∧ w'.cell? ⟨gl, i * 4 + 2, none⟩ = some (.int .i64 r.w)) from fun w' hk => by
            obtain ⟨e1, e2⟩ := HHL.out.cells w' (hk.1.trans (HBK.out h))
            obtain ⟨f0, f1, f2, f3⟩ := HRC.out w' (hk.2.trans (HBK.out gl))
            exact ⟨e1, e2, f0, f2⟩)
          clear hm
          go_upto_region 6 with (fail)
          have HSD := Lib.hid (show (w6.drew).heap[h]? = w6.heap[h]? ∧ (w6.drew).heap[gl]? = w6.heap[gl]? from ⟨rfl, rfl⟩)
          refine wp_region_noPanic ?_
          refine wp_region_Z (fun w' => w'.heap[h]? = w6.heap[h]? ∧ w'.heap[gl]? = w6.heap[gl]?) 29 (by kernel_rfl) ?_
          change wpAnyZ _ _ _ _ _ _ 30 (Array.replicate 30 false) _ _
          refine wpAnyZ_take [28] (i := 0) (v := ?va0) (by simp only [List.getElem?_toArray, List.getElem?_cons_succ, List.getElem?_cons_zero]; rfl) (by decide +kernel) (fun _ _ _ h => h) (by rfl) ?ta0 ?sa0 ?_
          case ta0 => (intro w' h; clear h; go_simp; try rfl)
          case sa0 => exact HSD.out
          (try simp only [Act.put, List.setIfInBounds_toArray, List.set_cons_zero, List.set_cons_succ])
          refine wpAnyZ_take [28, 27, 26, 8, 7, 6, 4, 3, 2] (i := 1) (v := ?va1) (by simp only [List.getElem?_toArray, List.getElem?_cons_succ, List.getElem?_cons_zero]; rfl) (by decide +kernel) (fun _ _ _ h => h) (by rfl) ?ta1 ?sa1 ?_
          case ta1 => (intro w' h; clear h; go_simp; try rfl)
          case sa1 => exact HSD.out
          (try simp only [Act.put, List.setIfInBounds_toArray, List.set_cons_zero, List.set_cons_succ])
          refine wpAnyZ_take [28, 27, 26, 8, 7, 6, 4, 3] (i := 2) (v := ?va2) (by simp only [List.getElem?_toArray, List.getElem?_cons_succ, List.getElem?_cons_zero]; rfl) (by decide +kernel) (fun _ _ _ h => h) (by rfl) ?ta2 ?sa2 ?_
          case ta2 => (intro w' h; clear h; go_simp; try rfl)
          case sa2 => exact HSD.out
          (try simp only [Act.put, List.setIfInBounds_toArray, List.set_cons_zero, List.set_cons_succ])
          refine wpAnyZ_take [28, 27, 26, 8, 7, 6, 4] (i := 3) (v := ?va3) (by simp only [List.getElem?_toArray, List.getElem?_cons_succ, List.getElem?_cons_zero]; rfl) (by decide +kernel) (fun _ _ _ h => h) (by rfl) ?ta3 ?sa3 ?_
          case ta3 => (intro w' h; clear h; go_simp; try rfl)
          case sa3 => exact HSD.out
          (try simp only [Act.put, List.setIfInBounds_toArray, List.set_cons_zero, List.set_cons_succ])
          refine wpAnyZ_take [28, 27, 26, 8, 7, 6] (i := 4) (v := ?va4) (by simp only [List.getElem?_toArray, List.getElem?_cons_succ, List.getElem?_cons_zero]; rfl) (by decide +kernel) (fun _ _ _ h => h) (by rfl) ?ta4 ?sa4 ?_
          case ta4 => (intro w' h; have FK := HS.out w' h; clear h; go_split_ands; go_simp; try rfl)
          case sa4 => exact HSD.out
          (try simp only [Act.put, List.setIfInBounds_toArray, List.set_cons_zero, List.set_cons_succ])
          refine wpAnyZ_take [28, 27, 26, 8, 7, 6] (i := 5) (v := ?va5) (by simp only [List.getElem?_toArray, List.getElem?_cons_succ, List.getElem?_cons_zero]; rfl) (by decide +kernel) (fun _ _ _ h => h) (by rfl) ?ta5 ?sa5 ?_
          case ta5 => (intro w' h; clear h; go_simp; try rfl)
          case sa5 => exact HSD.out
          (try simp only [Act.put, List.setIfInBounds_toArray, List.set_cons_zero, List.set_cons_succ])
          refine wpAnyZ_take [28, 27, 26, 8, 7] (i := 6) (v := ?va6) (by simp only [List.getElem?_toArray, List.getElem?_cons_succ, List.getElem?_cons_zero]; rfl) (by decide +kernel) (fun _ _ _ h => h) (by rfl) ?ta6 ?sa6 ?_
          case ta6 => (intro w' h; clear h; go_simp; try rfl)
          case sa6 => exact HSD.out
          (try simp only [Act.put, List.setIfInBounds_toArray, List.set_cons_zero, List.set_cons_succ])
          refine wpAnyZ_take [28, 27, 26, 8] (i := 7) (v := ?va7) (by simp only [List.getElem?_toArray, List.getElem?_cons_succ, List.getElem?_cons_zero]; rfl) (by decide +kernel) (fun _ _ _ h => h) (by rfl) ?ta7 ?sa7 ?_
          case ta7 => (intro w' h; clear h; go_simp; try rfl)
          case sa7 => exact HSD.out
          (try simp only [Act.put, List.setIfInBounds_toArray, List.set_cons_zero, List.set_cons_succ])
          refine wpAnyZ_take [28, 27, 26] (i := 8) (v := ?va8) (by simp only [List.getElem?_toArray, List.getElem?_cons_succ, List.getElem?_cons_zero]; rfl) (by decide +kernel) (fun _ _ _ h => h) (by rfl) ?ta8 ?sa8 ?_
          case ta8 => (intro w' h; have FK := HS.out w' h; clear h; go_split_ands; go_simp; try rfl)
          case sa8 => exact HSD.out
          (try simp only [Act.put, List.setIfInBounds_toArray, List.set_cons_zero, List.set_cons_succ])
          refine wpAnyZ_take [28, 27, 26, 25, 16, 15, 14, 12, 11, 10] (i := 9) (v := ?va9) (by simp only [List.getElem?_toArray, List.getElem?_cons_succ, List.getElem?_cons_zero]; rfl) (by decide +kernel) (fun _ _ _ h => h) (by rfl) ?ta9 ?sa9 ?_
          case ta9 => (intro w' h; clear h; go_simp; try rfl)
          case sa9 => exact HSD.out
          (try simp only [Act.put, List.setIfInBounds_toArray, List.set_cons_zero, List.set_cons_succ])
          refine wpAnyZ_take [28, 27, 26, 25, 16, 15, 14, 12, 11] (i := 10) (v := ?va10) (by simp only [List.getElem?_toArray, List.getElem?_cons_succ, List.getElem?_cons_zero]; rfl) (by decide +kernel) (fun _ _ _ h => h) (by rfl) ?ta10 ?sa10 ?_
          case ta10 => (intro w' h; clear h; go_simp; try rfl)
          case sa10 => exact HSD.out
          (try simp only [Act.put, List.setIfInBounds_toArray, List.set_cons_zero, List.set_cons_succ])
          refine wpAnyZ_take [28, 27, 26, 25, 16, 15, 14, 12] (i := 11) (v := ?va11) (by simp only [List.getElem?_toArray, List.getElem?_cons_succ, List.getElem?_cons_zero]; rfl) (by decide +kernel) (fun _ _ _ h => h) (by rfl) ?ta11 ?sa11 ?_
          case ta11 => (intro w' h; clear h; go_simp; try rfl)
          case sa11 => exact HSD.out
          (try simp only [Act.put, List.setIfInBounds_toArray, List.set_cons_zero, List.set_cons_succ])
          refine wpAnyZ_take [28, 27, 26, 25, 16, 15, 14] (i := 12) (v := ?va12) (by simp only [List.getElem?_toArray, List.getElem?_cons_succ, List.getElem?_cons_zero]; rfl) (by decide +kernel) (fun _ _ _ h => h) (by rfl) ?ta12 ?sa12 ?_
          case ta12 => (intro w' h; have FK := HS.out w' h; clear h; go_split_ands; go_simp; try rfl)
          case sa12 => exact HSD.out
          (try simp only [Act.put, List.setIfInBounds_toArray, List.set_cons_zero, List.set_cons_succ])
          refine wpAnyZ_take [28, 27, 26, 25, 16, 15, 14] (i := 13) (v := ?va13) (by simp only [List.getElem?_toArray, List.getElem?_cons_succ, List.getElem?_cons_zero]; rfl) (by decide +kernel) (fun _ _ _ h => h) (by rfl) ?ta13 ?sa13 ?_
          case ta13 => (intro w' h; clear h; go_simp; try rfl)
          case sa13 => exact HSD.out
          (try simp only [Act.put, List.setIfInBounds_toArray, List.set_cons_zero, List.set_cons_succ])
          refine wpAnyZ_take [28, 27, 26, 25, 16, 15] (i := 14) (v := ?va14) (by simp only [List.getElem?_toArray, List.getElem?_cons_succ, List.getElem?_cons_zero]; rfl) (by decide +kernel) (fun _ _ _ h => h) (by rfl) ?ta14 ?sa14 ?_
          case ta14 => (intro w' h; clear h; go_simp; try rfl)
          case sa14 => exact HSD.out
          (try simp only [Act.put, List.setIfInBounds_toArray, List.set_cons_zero, List.set_cons_succ])
          refine wpAnyZ_take [28, 27, 26, 25, 16] (i := 15) (v := ?va15) (by simp only [List.getElem?_toArray, List.getElem?_cons_succ, List.getElem?_cons_zero]; rfl) (by decide +kernel) (fun _ _ _ h => h) (by rfl) ?ta15 ?sa15 ?_
          case ta15 => (intro w' h; clear h; go_simp; try rfl)
          case sa15 => exact HSD.out
          (try simp only [Act.put, List.setIfInBounds_toArray, List.set_cons_zero, List.set_cons_succ])
          refine wpAnyZ_take [28, 27, 26, 25] (i := 16) (v := ?va16) (by simp only [List.getElem?_toArray, List.getElem?_cons_succ, List.getElem?_cons_zero]; rfl) (by decide +kernel) (fun _ _ _ h => h) (by rfl) ?ta16 ?sa16 ?_
          case ta16 => (intro w' h; have FK := HS.out w' h; clear h; go_split_ands; go_simp; try rfl)
          case sa16 => exact HSD.out
          (try simp only [Act.put, List.setIfInBounds_toArray, List.set_cons_zero, List.set_cons_succ])
          refine wpAnyZ_take [28, 27, 26, 25, 24, 23, 22, 20, 19, 18] (i := 17) (v := ?va17) (by simp only [List.getElem?_toArray, List.getElem?_cons_succ, List.getElem?_cons_zero]; rfl) (by decide +kernel) (fun _ _ _ h => h) (by rfl) ?ta17 ?sa17 ?_
          case ta17 => (intro w' h; clear h; go_simp; try rfl)
          case sa17 => exact HSD.out
          (try simp only [Act.put, List.setIfInBounds_toArray, List.set_cons_zero, List.set_cons_succ])
          refine wpAnyZ_take [28, 27, 26, 25, 24, 23, 22, 20, 19] (i := 18) (v := ?va18) (by simp only [List.getElem?_toArray, List.getElem?_cons_succ, List.getElem?_cons_zero]; rfl) (by decide +kernel) (fun _ _ _ h => h) (by rfl) ?ta18 ?sa18 ?_
          case ta18 => (intro w' h; clear h; go_simp; try rfl)
          case sa18 => exact HSD.out
          (try simp only [Act.put, List.setIfInBounds_toArray, List.set_cons_zero, List.set_cons_succ])
          refine wpAnyZ_take [28, 27, 26, 25, 24, 23, 22, 20] (i := 19) (v := ?va19) (by simp only [List.getElem?_toArray, List.getElem?_cons_succ, List.getElem?_cons_zero]; rfl) (by decide +kernel) (fun _ _ _ h => h) (by rfl) ?ta19 ?sa19 ?_
          case ta19 => (intro w' h; clear h; go_simp; try rfl)
          case sa19 => exact HSD.out
          (try simp only [Act.put, List.setIfInBounds_toArray, List.set_cons_zero, List.set_cons_succ])
          refine wpAnyZ_take [28, 27, 26, 25, 24, 23, 22] (i := 20) (v := ?va20) (by simp only [List.getElem?_toArray, List.getElem?_cons_succ, List.getElem?_cons_zero]; rfl) (by decide +kernel) (fun _ _ _ h => h) (by rfl) ?ta20 ?sa20 ?_
          case ta20 => (intro w' h; have FK := HS.out w' h; clear h; go_split_ands; go_simp; try rfl)
          case sa20 => exact HSD.out
          (try simp only [Act.put, List.setIfInBounds_toArray, List.set_cons_zero, List.set_cons_succ])
          refine wpAnyZ_take [28, 27, 26, 25, 24, 23, 22] (i := 21) (v := ?va21) (by simp only [List.getElem?_toArray, List.getElem?_cons_succ, List.getElem?_cons_zero]; rfl) (by decide +kernel) (fun _ _ _ h => h) (by rfl) ?ta21 ?sa21 ?_
          case ta21 => (intro w' h; clear h; go_simp; try rfl)
          case sa21 => exact HSD.out
          (try simp only [Act.put, List.setIfInBounds_toArray, List.set_cons_zero, List.set_cons_succ])
          refine wpAnyZ_take [28, 27, 26, 25, 24, 23] (i := 22) (v := ?va22) (by simp only [List.getElem?_toArray, List.getElem?_cons_succ, List.getElem?_cons_zero]; rfl) (by decide +kernel) (fun _ _ _ h => h) (by rfl) ?ta22 ?sa22 ?_
          case ta22 => (intro w' h; clear h; go_simp; try rfl)
          case sa22 => exact HSD.out
          (try simp only [Act.put, List.setIfInBounds_toArray, List.set_cons_zero, List.set_cons_succ])
          refine wpAnyZ_take [28, 27, 26, 25, 24] (i := 23) (v := ?va23) (by simp only [List.getElem?_toArray, List.getElem?_cons_succ, List.getElem?_cons_zero]; rfl) (by decide +kernel) (fun _ _ _ h => h) (by rfl) ?ta23 ?sa23 ?_
          case ta23 => (intro w' h; clear h; go_simp; try rfl)
          case sa23 => exact HSD.out
          (try simp only [Act.put, List.setIfInBounds_toArray, List.set_cons_zero, List.set_cons_succ])
          refine wpAnyZ_take [28, 27, 26, 25] (i := 24) (v := ?va24) (by simp only [List.getElem?_toArray, List.getElem?_cons_succ, List.getElem?_cons_zero]; rfl) (by decide +kernel) (fun _ _ _ h => h) (by rfl) ?ta24 ?sa24 ?_
          case ta24 => (intro w' h; have FK := HS.out w' h; clear h; go_split_ands; go_simp; try rfl)
          case sa24 => exact HSD.out
          (try simp only [Act.put, List.setIfInBounds_toArray, List.set_cons_zero, List.set_cons_succ])
          refine wpAnyZ_take [28, 27, 26] (i := 25) (v := ?va25) (by simp only [List.getElem?_toArray, List.getElem?_cons_succ, List.getElem?_cons_zero]; rfl) (by decide +kernel) (fun _ _ _ h => h) (by rfl) ?ta25 ?sa25 ?_
          case ta25 => (intro w' h; clear h; go_simp; try rfl)
          case sa25 => exact HSD.out
          (try simp only [Act.put, List.setIfInBounds_toArray, List.set_cons_zero, List.set_cons_succ])
          refine wpAnyZ_take [28, 27] (i := 26) (v := ?va26) (by simp only [List.getElem?_toArray, List.getElem?_cons_succ, List.getElem?_cons_zero]; rfl) (by decide +kernel) (fun _ _ _ h => h) (by rfl) ?ta26 ?sa26 ?_
          case ta26 => (intro w' h; clear h; go_simp; try rfl)
          case sa26 => exact HSD.out
          (try simp only [Act.put, List.setIfInBounds_toArray, List.set_cons_zero, List.set_cons_succ])
          obtain ⟨w8, hw8⟩ : ∃ t, t = w6.drew.alloc (.cells #[.int .i64 r.x, .int .i64 (r.x + r.w)] 103) := ⟨_, rfl⟩
          have HB8 := Lib.hid (show Below w6.heap.size w6 w8 from by rw [hw8]; exact below_al (Below.drew (Below.refl _ _)) _)
          have HS8 := Lib.hid (show w8.heap[h]? = w6.heap[h]? ∧ w8.heap[gl]? = w6.heap[gl]? from ⟨HB8.out.block h (zh), HB8.out.block gl (zg)⟩)
          have HN8 := Lib.hid (show w8.heap[w6.heap.size]? = some (.cells #[.int .i64 r.x, .int .i64 (r.x + r.w)] 103 (0, 0)) from by rw [hw8]; exact heap_alloc_new _ _)
          have hz8 : w8.heap.size = w6.heap.size + 1 := by rw [hw8]; simp
          have HW8 := Lib.hid hw8
          clear hw8
          have HOX := Lib.hid (row_later HOW.out HB8.out)
          have HON := Lib.hid (show ∀ u ∈ [Value.int .i64 r.x, Value.int .i64 (r.x + r.w)], u.oneCell' = true from fun u hu => by simp at hu; rcases hu with rfl | rfl <;> rfl)
          refine wpAnyZ_one (i := 27) (by decide +kernel) ?_
          refine wpOpK_value (v := .slice (some ⟨w6.heap.size, 0, none⟩) 1 1) (w' := w8) (by simp only [List.getElem?_toArray, List.getElem?_cons_succ, List.getElem?_cons_zero]; rfl) (by rfl) ?ma27 ⟨.inr HS8.out, ?_⟩
          case ma27 => (rw [HW8.out]; go_simp; try rfl)
          (try simp only [Act.put, List.setIfInBounds_toArray, List.set_cons_zero, List.set_cons_succ])
          refine wpAnyZ_one (i := 28) (by decide +kernel) ?_
          refine wpOpK_append (by simp only [List.getElem?_toArray, List.getElem?_cons_succ, List.getElem?_cons_zero]; rfl) rfl (.tmp 47) (.tmp 74) 101 rfl w.heap.size 103 i0 (.agg #[.int .i64 0, .int .i64 0]) 2 16 Try.underlying101 HI0.out.1 HI0.out.2.1 HI0.out.2.2.1 HI0.out.2.2.2 rfl (by decide) _ m _ (by rfl) HOX.out ⟨w6.heap.size, 0, none⟩ 1 1 [.int .i64 r.x, .int .i64 (r.x + r.w)] (by rfl) rfl (World.news_of_block (cs := #[.int .i64 r.x, .int .i64 (r.x + r.w)]) (t := 103) (fr := (0, 0)) HN8.out) HON.out (by omega) ?ah63 ?ahby ?ahbs ?_
          case ah63 => (unfold maxLen; omega)
          case ahby => omega
          case ahbs => first | omega | (simp; omega)
          intro g cap W2 own gr hg hlt
          have HA9 := Lib.hid own
          have HG9 := Lib.hid gr
          have HS9 := Lib.hid (show W2.heap[h]? = w6.heap[h]? ∧ W2.heap[gl]? = w6.heap[gl]? from ⟨(gr.block h (Nat.lt_of_lt_of_le (zh) HB8.out.size) (fun e => (row_ne_blk HOW.out HPH.out (by decide)) e.symm)).trans HS8.out.1, (gr.block gl (Nat.lt_of_lt_of_le (zg) HB8.out.size) (fun e => (HNL.out) e.symm)).trans HS8.out.2⟩)
          clear own gr hg hlt
          refine ⟨.inr HS9.out, ?_⟩
          (try simp only [Act.put, List.setIfInBounds_toArray, List.set_cons_zero, List.set_cons_succ])
          refine wpAnyZ_one (i := 29) (by decide +kernel) ?_
          refine wpOpK_value (v := .slice (some ⟨g, 0, none⟩) (m + 1) cap) (w' := W2) (by simp only [List.getElem?_toArray, List.getElem?_cons_succ, List.getElem?_cons_zero]; rfl) (by rfl) ?ma29 ⟨.inl rfl, ?_⟩
          case ma29 => (go_simp; try rfl)
          (try simp only [Act.put, List.setIfInBounds_toArray, List.set_cons_zero, List.set_cons_succ])
          refine wpAnyZ_done (by kernel_rfl) (NoPanic.normal ?_) _
          have HN1 := Lib.hid (show W2.ownsRow w.heap.size 103 2 (.slice (some ⟨g, 0, none⟩) (m + 1) cap) (refRow (L.take (i + 1)) y).length (cellsP (refRow (L.take (i + 1)) y)) from by
            rw [HTK2.out, cellsP_append, List.length_append, ← HML.out]
            exact HA9.out)
          have HN2 := Lib.hid (show Below w.heap.size w W2 from Below.grown (below_via HB8.out (below_via HWC.out HW.out)) HG9.out (by have := HW.out.size; omega) (fun t ht => (row_lt HOX.out t ht).2))
          clear HA9 HG9 HS9 HS8 HN8 HW8 HB8 HOX HON HOW HS HSD HPH HNL HTK HTK2 HML hz8 HBK HWC
          go_wp2
          go_roundw
          case rel => exact ⟨i + 1, by go_num, by omega, HN1, HN2⟩
          case measure => simp [intOf] <;> omega
        · rw [decide_eq_false hin]
          have HN1 := Lib.hid (show w6.ownsRow w.heap.size 103 2 u5 (refRow (L.take (i + 1)) y).length (cellsP (refRow (L.take (i + 1)) y)) from by
            rw [HTK.out, if_neg hin]
            exact row_later HO.out HWC.out)
          have HN2 := Lib.hid (below_via HWC.out HW.out)
          clear HTK HWC HBK
          go_wp2
          go_roundw
          case rel => exact ⟨i + 1, by go_num, by omega, HN1, HN2⟩
          case measure => simp [intOf] <;> omega
    · have hii : ¬ (i : Int) < (n : Int) := by omega
      obtain rfl : n = i := by omega
      have HT := Lib.hid (show refRow (L.take n) y = refRow L y from by rw [List.take_of_length_le (by rw [← HN.out]; exact Nat.le_refl _)])
      rw [HT.out] at HO
      go_wp2
      go_ret
      exact ⟨_, rfl, HO.out, HW.out⟩
end Go.Proofs.Ytekcheccelllcaa
namespace Go.Proofs.Ytekcheccelllcaa
open Go.RowKit
set_option linter.unusedVariables false
set_option linter.unusedSimpArgs false

theorem drop_getS (l : List (Int × Int)) (i : Nat) (h : i < l.length) : l.drop i = l.getD i (0, 0) :: l.drop (i + 1) := by
  rw [List.drop_eq_getElem_cons h, List.getD_eq_getElem?_getD, List.getElem?_eq_getElem h]; rfl
set_option maxRecDepth 100000 in
set_option maxHeartbeats 16000000 in
theorem joined_clip (p : Option Addr) (n c : Nat) (l : List (Int × Int)) (s0 s1 : Int) (w : World) (hn : n = l.length) (hl : n ≤ 100000) (hp : SpAt w p l) : Calls Try.prog 71 #[.slice p n c, .agg #[.int .i64 s0, .int .i64 s1], .int .i64 3] w fun e w' => ∃ v', e = .returned v' ∧ w'.ownsRow w.heap.size 103 2 v' (joinR 3 l (s0, s1)).length (cellsP (joinR 3 l (s0, s1))) ∧ Below w.heap.size w w' := by
  have HN := Lib.hid hn
  have HP := Lib.hid hp
  obtain ⟨R, hR⟩ : ∃ R, R = joinR 3 l (s0, s1) := ⟨_, rfl⟩
  have HR := Lib.hid (show clipJ [] l (s0, s1) = R from by rw [hR]; rfl)
  rw [← hR]
  clear hn hp hR
  go_enter Try.func71, Try.ntmps71
  go_upto_region 1 with (fail)
  obtain ⟨sb, hsb⟩ : ∃ q, q = w.heap.size := ⟨_, rfl⟩
  obtain ⟨w1, hw1⟩ : ∃ q : World, q = w.alloc (.cells #[.int .i64 s0, .int .i64 s1] 103) := ⟨_, rfl⟩
  rw [← hw1]
  (try rw [← hsb])
  have hz1 : w1.heap.size = sb + 1 := by rw [hw1, hsb]; simp
  have HB1 := Lib.hid (show Below w.heap.size w w1 from by rw [hw1]; exact below_al (Below.refl _ _) _)
  have HN1 := Lib.hid (show w1.heap[sb]? = some (.cells #[.int .i64 s0, .int .i64 s1] 103 (0, 0)) from by rw [hw1, hsb]; exact heap_alloc_new _ _)
  have HSB := Lib.hid hsb
  clear hw1 hsb
  have HSS := Lib.hid (show ∀ W : World, Below w1.heap.size w1 W → sb < W.heap.size ∧ W.cell? ⟨sb, 0, none⟩ = some (.int .i64 s0) ∧ W.cell? ⟨sb, 1, none⟩ = some (.int .i64 s1) from fun W hb => by
    have e := (hb.block sb (by omega)).trans HN1.out
    exact ⟨lt_of_block e, by rw [cell_of_row _ _ _ _ _ _ e]; rfl, by rw [cell_of_row _ _ _ _ _ _ e]; rfl⟩)
  have HPP := Lib.hid (HP.out.later HB1.out)
  go_wp2
  go_loopw [7, 8] (fun ov iv wr => ∃ (i : Nat) (out : List (Int × Int)), iv = .int .i64 i ∧ i ≤ n ∧ RowKit.Hid (clipJ out (l.drop i) (s0, s1) = R) ∧ out.length ≤ i ∧ RowKit.Hid (wr.ownsRow w1.heap.size 103 2 ov out.length (cellsP out)) ∧ RowKit.Hid (Below w1.heap.size w1 wr)) (fun _ iv _ => n - (intOf iv).toNat)
  case atStart => exact ⟨0, [], rfl, Nat.zero_le _, HR, Nat.le_refl _, Lib.hid ⟨rfl, .inl ⟨rfl, rfl⟩⟩, Lib.hid (Below.refl _ _)⟩
  case round =>
    obtain ⟨i, out, rfl, hi, HE, hlo, HO, HW⟩ := hrel
    by_cases hlt : i < n
    · have hii : (i : Int) < (n : Int) := by omega
      obtain ⟨gl, off, rfl, zl, hrc⟩ := HPP.out (by rw [← HN.out]; omega)
      obtain ⟨c0, c1⟩ := hrc i (by rw [← HN.out]; exact hlt)
      have HDR := Lib.hid (drop_getS l i (by rw [← HN.out]; exact hlt))
      generalize l.getD i (0, 0) = pr at c0 c1 HDR
      obtain ⟨pa, pb⟩ := pr
      simp only at c0 c1 HDR
      have HC := Lib.hid (And.intro zl (And.intro c0 c1))
      clear hrc c0 c1 zl
      have HSF := Lib.hid (show ∀ W : World, Below w1.heap.size w1 W → (sb < W.heap.size ∧ W.cell? ⟨sb, 0, none⟩ = some (.int .i64 s0) ∧ W.cell? ⟨sb, 1, none⟩ = some (.int .i64 s1)) ∧ gl < W.heap.size ∧ W.cell? ⟨gl, off + i * 2, none⟩ = some (.int .i64 pa) ∧ W.cell? ⟨gl, off + i * 2 + 1, none⟩ = some (.int .i64 pb) from fun W hb => by
        obtain ⟨z, c0, c1⟩ := HC.out
        have e := (bcell hb).1
        exact ⟨HSS.out W hb, by have := hb.size; omega, by rw [e _ _ z]; exact c0, by rw [e _ _ z]; exact c1⟩)
      clear HC
      have HE2 := Lib.hid (show clipJ (putS out (max pa s0) (min pb s1)) (l.drop (i + 1)) (s0, s1) = R from by have := HE.out; rw [HDR.out, clipJ] at this; exact this)
      have HLP := Lib.hid (putS_len out (max pa s0) (min pb s1))
      have HOD := Lib.hid (row_later HO.out (Below.drew (Below.refl wr.heap.size wr)))
      clear HE HDR
      go_upto_region 6 with (fail)
      refine wp_region_noPanic ?_
      refine wp_region_lexH (fun w' => Below w1.heap.size w1 w') (by kernel_rfl) (by kernel_rfl) (fun _ _ _ _ _ h => h) (HW.out.trans (Below.drew (Below.refl _ _))) ?_
      apply lexH_run (by rfl)
      · (intro w h; clear h; go_simp; try rfl)
      (try simp only [Act.put, List.setIfInBounds_toArray, List.set_cons_zero, List.set_cons_succ])
      apply lexH_run (by rfl)
      · (intro w h; clear h; go_simp; try rfl)
      (try simp only [Act.put, List.setIfInBounds_toArray, List.set_cons_zero, List.set_cons_succ])
      apply lexH_run (by rfl)
      · (intro w h; clear h; go_simp; try rfl)
      (try simp only [Act.put, List.setIfInBounds_toArray, List.set_cons_zero, List.set_cons_succ])
      apply lexH_run (by rfl)
      · (intro w h; clear h; go_simp; try rfl)
      (try simp only [Act.put, List.setIfInBounds_toArray, List.set_cons_zero, List.set_cons_succ])
      apply lexH_run (by rfl)
      · (intro w h; clear h; go_simp; try rfl)
      (try simp only [Act.put, List.setIfInBounds_toArray, List.set_cons_zero, List.set_cons_succ])
      apply lexH_run (by rfl)
      · (intro w h; have FK := HSF.out w h; clear h; go_split_ands; go_simp; try rfl)
      (try simp only [Act.put, List.setIfInBounds_toArray, List.set_cons_zero, List.set_cons_succ])
      apply lexH_run (by rfl)
      · (intro w h; clear h; go_simp; try rfl)
      (try simp only [Act.put, List.setIfInBounds_toArray, List.set_cons_zero, List.set_cons_succ])
      apply lexH_run (by rfl)
      · (intro w h; have FK := HSF.out w h; clear h; go_split_ands; go_simp; try rfl)
      (try simp only [Act.put, List.setIfInBounds_toArray, List.set_cons_zero, List.set_cons_succ])
      apply lexH_run (by rfl)
      · (intro w h; clear h; go_simp; try rfl)
      (try simp only [Act.put, List.setIfInBounds_toArray, List.set_cons_zero, List.set_cons_succ])
      apply lexH_run (by rfl)
      · (intro w h; clear h; go_simp; try rfl)
      (try simp only [Act.put, List.setIfInBounds_toArray, List.set_cons_zero, List.set_cons_succ])
      apply lexH_run (by rfl)
      · (intro w h; clear h; go_simp; try rfl)
      (try simp only [Act.put, List.setIfInBounds_toArray, List.set_cons_zero, List.set_cons_succ])
      apply lexH_run (by rfl)
      · (intro w h; clear h; go_simp; try rfl)
      (try simp only [Act.put, List.setIfInBounds_toArray, List.set_cons_zero, List.set_cons_succ])
      apply lexH_run (by rfl)
      · (intro w h; clear h; go_simp; try rfl)
      (try simp only [Act.put, List.setIfInBounds_toArray, List.set_cons_zero, List.set_cons_succ])
      apply lexH_run (by rfl)
      · (intro w h; have FK := HSF.out w h; clear h; go_split_ands; go_simp; try rfl)
      (try simp only [Act.put, List.setIfInBounds_toArray, List.set_cons_zero, List.set_cons_succ])
      apply lexH_run (by rfl)
      · (intro w h; clear h; go_simp; try rfl)
      (try simp only [Act.put, List.setIfInBounds_toArray, List.set_cons_zero, List.set_cons_succ])
      apply lexH_run (by rfl)
      · (intro w h; have FK := HSF.out w h; clear h; go_split_ands; go_simp; try rfl)
      (try simp only [Act.put, List.setIfInBounds_toArray, List.set_cons_zero, List.set_cons_succ])
      apply lexH_run (by rfl)
      · (intro w h; clear h; go_simp; try rfl)
      (try simp only [Act.put, List.setIfInBounds_toArray, List.set_cons_zero, List.set_cons_succ])
      refine lexH_call (by kernel_rfl) (by rfl) (by go_simp; first | exact ⟨rfl, rfl⟩ | rfl) ?_
      intro hS
      refine (put_any w1.heap.size _ _ out _ _ HOD.out (by omega) (by have := hS.size; omega)).mono ?_
      rintro e5 w5 ⟨v5, rfl, own5, gr5, _⟩
      have HB5 := Lib.hid (Below.grown hS gr5 (by have := hS.size; omega) (fun q hq => (row_lt HOD.out q hq).2))
      have HO5 := Lib.hid own5
      refine ⟨_, rfl, HB5.out, ?_⟩
      clear own5 gr5 hS
      (try simp only [Act.put, List.setIfInBounds_toArray, List.set_cons_zero, List.set_cons_succ])
      apply lexH_run (by rfl)
      · (intro w h; clear h; go_simp; try rfl)
      (try simp only [Act.put, List.setIfInBounds_toArray, List.set_cons_zero, List.set_cons_succ])
      apply lexH_nil
      refine NoPanic.normal ?_
      have hlp := HLP.out
      clear HO HW HOD HSF HLP
      go_wp2
      go_roundw
      case rel => exact ⟨i + 1, _, by go_num, by omega, HE2, by omega, HO5, HB5⟩
      case measure => simp [intOf] <;> omega
    · have hii : ¬ (i : Int) < (n : Int) := by omega
      obtain rfl : n = i := by omega
      have hR : out = R := by have := HE.out; rw [List.drop_eq_nil_of_le (by rw [← HN.out]; exact Nat.le_refl _), clipJ] at this; exact this
      have HF := Lib.hid (row_baseG HO.out HB1.out.size)
      rw [hR] at HF
      have HFB := Lib.hid (HB1.out.trans (HW.out.mono HB1.out.size))
      clear hR HE
      go_wp2
      go_ret
      exact ⟨_, rfl, HF.out, HFB.out⟩
set_option maxRecDepth 100000 in
set_option maxHeartbeats 16000000 in
theorem joined_cut (p : Option Addr) (n c : Nat) (l : List (Int × Int)) (s0 s1 : Int) (w : World) (hn : n = l.length) (hl : n ≤ 100000) (hp : SpAt w p l) : Calls Try.prog 71 #[.slice p n c, .agg #[.int .i64 s0, .int .i64 s1], .int .i64 2] w fun e w' => ∃ v', e = .returned v' ∧ w'.ownsRow w.heap.size 103 2 v' (joinR 2 l (s0, s1)).length (cellsP (joinR 2 l (s0, s1))) ∧ Below w.heap.size w w' := by
  have HN := Lib.hid hn
  have HP := Lib.hid hp
  obtain ⟨R, hR⟩ : ∃ R, R = joinR 2 l (s0, s1) := ⟨_, rfl⟩
  have HR := Lib.hid (show cutJ [] l (s0, s1) = R from by rw [hR]; rfl)
  rw [← hR]
  clear hn hp hR
  go_enter Try.func71, Try.ntmps71
  go_upto_region 1 with (fail)
  obtain ⟨sb, hsb⟩ : ∃ q, q = w.heap.size := ⟨_, rfl⟩
  obtain ⟨w1, hw1⟩ : ∃ q : World, q = w.alloc (.cells #[.int .i64 s0, .int .i64 s1] 103) := ⟨_, rfl⟩
  rw [← hw1]
  (try rw [← hsb])
  have hz1 : w1.heap.size = sb + 1 := by rw [hw1, hsb]; simp
  have HB1 := Lib.hid (show Below w.heap.size w w1 from by rw [hw1]; exact below_al (Below.refl _ _) _)
  have HN1 := Lib.hid (show w1.heap[sb]? = some (.cells #[.int .i64 s0, .int .i64 s1] 103 (0, 0)) from by rw [hw1, hsb]; exact heap_alloc_new _ _)
  have HSB := Lib.hid hsb
  clear hw1 hsb
  have HSS := Lib.hid (show ∀ W : World, Below w1.heap.size w1 W → sb < W.heap.size ∧ W.cell? ⟨sb, 0, none⟩ = some (.int .i64 s0) ∧ W.cell? ⟨sb, 1, none⟩ = some (.int .i64 s1) from fun W hb => by
    have e := (hb.block sb (by omega)).trans HN1.out
    exact ⟨lt_of_block e, by rw [cell_of_row _ _ _ _ _ _ e]; rfl, by rw [cell_of_row _ _ _ _ _ _ e]; rfl⟩)
  have HPP := Lib.hid (HP.out.later HB1.out)
  go_wp2
  go_loopw [7, 9] (fun ov iv wr => ∃ (i : Nat) (out : List (Int × Int)), iv = .int .i64 i ∧ i ≤ n ∧ RowKit.Hid (cutJ out (l.drop i) (s0, s1) = R) ∧ out.length ≤ 2 * i ∧ RowKit.Hid (wr.ownsRow w1.heap.size 103 2 ov out.length (cellsP out)) ∧ RowKit.Hid (Below w1.heap.size w1 wr)) (fun _ iv _ => n - (intOf iv).toNat)
  case atStart => exact ⟨0, [], rfl, Nat.zero_le _, HR, Nat.le_refl _, Lib.hid ⟨rfl, .inl ⟨rfl, rfl⟩⟩, Lib.hid (Below.refl _ _)⟩
  case round =>
    obtain ⟨i, out, rfl, hi, HE, hlo, HO, HW⟩ := hrel
    by_cases hlt : i < n
    · have hii : (i : Int) < (n : Int) := by omega
      obtain ⟨gl, off, rfl, zl, hrc⟩ := HPP.out (by rw [← HN.out]; omega)
      obtain ⟨c0, c1⟩ := hrc i (by rw [← HN.out]; exact hlt)
      have HDR := Lib.hid (drop_getS l i (by rw [← HN.out]; exact hlt))
      generalize l.getD i (0, 0) = pr at c0 c1 HDR
      obtain ⟨pa, pb⟩ := pr
      simp only at c0 c1 HDR
      have HC := Lib.hid (And.intro zl (And.intro c0 c1))
      clear hrc c0 c1 zl
      have HSF := Lib.hid (show ∀ W : World, Below w1.heap.size w1 W → (sb < W.heap.size ∧ W.cell? ⟨sb, 0, none⟩ = some (.int .i64 s0) ∧ W.cell? ⟨sb, 1, none⟩ = some (.int .i64 s1)) ∧ gl < W.heap.size ∧ W.cell? ⟨gl, off + i * 2, none⟩ = some (.int .i64 pa) ∧ W.cell? ⟨gl, off + i * 2 + 1, none⟩ = some (.int .i64 pb) from fun W hb => by
        obtain ⟨z, c0, c1⟩ := HC.out
        have e := (bcell hb).1
        exact ⟨HSS.out W hb, by have := hb.size; omega, by rw [e _ _ z]; exact c0, by rw [e _ _ z]; exact c1⟩)
      clear HC
      have HE2 := Lib.hid (show cutJ (putS (putS out pa (min pb s0)) (max pa s1) pb) (l.drop (i + 1)) (s0, s1) = R from by have := HE.out; rw [HDR.out, cutJ] at this; exact this)
      have hlp := putS_len out pa (min pb s0)
      obtain ⟨o2, ho2⟩ : ∃ q, q = putS out pa (min pb s0) := ⟨_, rfl⟩
      rw [← ho2] at hlp HE2
      have HO2 := Lib.hid ho2
      have HLP := Lib.hid (putS_len o2 (max pa s1) pb)
      have HOD := Lib.hid (row_later HO.out (Below.drew (Below.refl wr.heap.size wr)))
      clear HE HDR ho2
      go_upto_region 12 with (fail)
      refine wp_region_noPanic ?_
      refine wp_region_lexH (fun w' => Below w1.heap.size w1 w') (by kernel_rfl) (by kernel_rfl) (fun _ _ _ _ _ h => h) (HW.out.trans (Below.drew (Below.refl _ _))) ?_
      apply lexH_run (by rfl)
      · (intro w h; clear h; go_simp; try rfl)
      (try simp only [Act.put, List.setIfInBounds_toArray, List.set_cons_zero, List.set_cons_succ])
      apply lexH_run (by rfl)
      · (intro w h; clear h; go_simp; try rfl)
      (try simp only [Act.put, List.setIfInBounds_toArray, List.set_cons_zero, List.set_cons_succ])
      apply lexH_run (by rfl)
      · (intro w h; clear h; go_simp; try rfl)
      (try simp only [Act.put, List.setIfInBounds_toArray, List.set_cons_zero, List.set_cons_succ])
      apply lexH_run (by rfl)
      · (intro w h; clear h; go_simp; try rfl)
      (try simp only [Act.put, List.setIfInBounds_toArray, List.set_cons_zero, List.set_cons_succ])
      apply lexH_run (by rfl)
      · (intro w h; clear h; go_simp; try rfl)
      (try simp only [Act.put, List.setIfInBounds_toArray, List.set_cons_zero, List.set_cons_succ])
      apply lexH_run (by rfl)
      · (intro w h; have FK := HSF.out w h; clear h; go_split_ands; go_simp; try rfl)
      (try simp only [Act.put, List.setIfInBounds_toArray, List.set_cons_zero, List.set_cons_succ])
      apply lexH_run (by rfl)
      · (intro w h; clear h; go_simp; try rfl)
      (try simp only [Act.put, List.setIfInBounds_toArray, List.set_cons_zero, List.set_cons_succ])
      apply lexH_run (by rfl)
      · (intro w h; clear h; go_simp; try rfl)
      (try simp only [Act.put, List.setIfInBounds_toArray, List.set_cons_zero, List.set_cons_succ])
      apply lexH_run (by rfl)
      · (intro w h; clear h; go_simp; try rfl)
      (try simp only [Act.put, List.setIfInBounds_toArray, List.set_cons_zero, List.set_cons_succ])
      apply lexH_run (by rfl)
      · (intro w h; clear h; go_simp; try rfl)
      (try simp only [Act.put, List.setIfInBounds_toArray, List.set_cons_zero, List.set_cons_succ])
      apply lexH_run (by rfl)
      · (intro w h; have FK := HSF.out w h; clear h; go_split_ands; go_simp; try rfl)
      (try simp only [Act.put, List.setIfInBounds_toArray, List.set_cons_zero, List.set_cons_succ])
      apply lexH_run (by rfl)
      · (intro w h; clear h; go_simp; try rfl)
      (try simp only [Act.put, List.setIfInBounds_toArray, List.set_cons_zero, List.set_cons_succ])
      apply lexH_run (by rfl)
      · (intro w h; have FK := HSF.out w h; clear h; go_split_ands; go_simp; try rfl)
      (try simp only [Act.put, List.setIfInBounds_toArray, List.set_cons_zero, List.set_cons_succ])
      apply lexH_run (by rfl)
      · (intro w h; clear h; go_simp; try rfl)
      (try simp only [Act.put, List.setIfInBounds_toArray, List.set_cons_zero, List.set_cons_succ])
      refine lexH_call (by kernel_rfl) (by rfl) (by go_simp; first | exact ⟨rfl, rfl⟩ | rfl) ?_
      intro hS
      refine (put_any w1.heap.size _ _ out _ _ HOD.out (by omega) (by have := hS.size; omega)).mono ?_
      rintro e5 w5 ⟨v5, rfl, own5, gr5, _⟩
      have HB5 := Lib.hid (Below.grown hS gr5 (by have := hS.size; omega) (fun q hq => (row_lt HOD.out q hq).2))
      have HO5 := Lib.hid own5
      refine ⟨_, rfl, HB5.out, ?_⟩
      clear own5 gr5 hS
      (try simp only [Act.put, List.setIfInBounds_toArray, List.set_cons_zero, List.set_cons_succ])
      apply lexH_run (by rfl)
      · (intro w h; clear h; go_simp; try rfl)
      (try simp only [Act.put, List.setIfInBounds_toArray, List.set_cons_zero, List.set_cons_succ])
      apply lexH_nil
      refine NoPanic.normal ?_
      rw [← HO2.out] at HO5
      obtain ⟨w6, hw6⟩ : ∃ q : World, q = w5 := ⟨_, rfl⟩
      rw [← hw6] at HO5 HB5 ⊢
      clear HO HW HOD hw6
      obtain ⟨v6, hv6⟩ : ∃ q, q = v5 := ⟨_, rfl⟩
      rw [← hv6] at HO5 ⊢
      clear hv6
      have HO6 := Lib.hid HO5.out
      have HW := Lib.hid HB5.out
      have HOD := Lib.hid (row_later HO6.out (Below.drew (Below.refl w6.heap.size w6)))
      clear HO5 HB5
      go_upto_region 13 with (fail)
      refine wp_region_noPanic ?_
      refine wp_region_lexH (fun w' => Below w1.heap.size w1 w') (by kernel_rfl) (by kernel_rfl) (fun _ _ _ _ _ h => h) (HW.out.trans (Below.drew (Below.refl _ _))) ?_
      apply lexH_run (by rfl)
      · (intro w h; clear h; go_simp; try rfl)
      (try simp only [Act.put, List.setIfInBounds_toArray, List.set_cons_zero, List.set_cons_succ])
      apply lexH_run (by rfl)
      · (intro w h; clear h; go_simp; try rfl)
      (try simp only [Act.put, List.setIfInBounds_toArray, List.set_cons_zero, List.set_cons_succ])
      apply lexH_run (by rfl)
      · (intro w h; clear h; go_simp; try rfl)
      (try simp only [Act.put, List.setIfInBounds_toArray, List.set_cons_zero, List.set_cons_succ])
      apply lexH_run (by rfl)
      · (intro w h; clear h; go_simp; try rfl)
      (try simp only [Act.put, List.setIfInBounds_toArray, List.set_cons_zero, List.set_cons_succ])
      apply lexH_run (by rfl)
      · (intro w h; clear h; go_simp; try rfl)
      (try simp only [Act.put, List.setIfInBounds_toArray, List.set_cons_zero, List.set_cons_succ])
      apply lexH_run (by rfl)
      · (intro w h; have FK := HSF.out w h; clear h; go_split_ands; go_simp; try rfl)
      (try simp only [Act.put, List.setIfInBounds_toArray, List.set_cons_zero, List.set_cons_succ])
      apply lexH_run (by rfl)
      · (intro w h; clear h; go_simp; try rfl)
      (try simp only [Act.put, List.setIfInBounds_toArray, List.set_cons_zero, List.set_cons_succ])
      apply lexH_run (by rfl)
      · (intro w h; have FK := HSF.out w h; clear h; go_split_ands; go_simp; try rfl)
      (try simp only [Act.put, List.setIfInBounds_toArray, List.set_cons_zero, List.set_cons_succ])
      apply lexH_run (by rfl)
      · (intro w h; clear h; go_simp; try rfl)
      (try simp only [Act.put, List.setIfInBounds_toArray, List.set_cons_zero, List.set_cons_succ])
      apply lexH_run (by rfl)
      · (intro w h; clear h; go_simp; try rfl)
      (try simp only [Act.put, List.setIfInBounds_toArray, List.set_cons_zero, List.set_cons_succ])
      apply lexH_run (by rfl)
      · (intro w h; clear h; go_simp; try rfl)
      (try simp only [Act.put, List.setIfInBounds_toArray, List.set_cons_zero, List.set_cons_succ])
      apply lexH_run (by rfl)
      · (intro w h; clear h; go_simp; try rfl)
      (try simp only [Act.put, List.setIfInBounds_toArray, List.set_cons_zero, List.set_cons_succ])
      apply lexH_run (by rfl)
      · (intro w h; clear h; go_simp; try rfl)
      (try simp only [Act.put, List.setIfInBounds_toArray, List.set_cons_zero, List.set_cons_succ])
      apply lexH_run (by rfl)
      · (intro w h; have FK := HSF.out w h; clear h; go_split_ands; go_simp; try rfl)
      (try simp only [Act.put, List.setIfInBounds_toArray, List.set_cons_zero, List.set_cons_succ])
      refine lexH_call (by kernel_rfl) (by rfl) (by go_simp; first | exact ⟨rfl, rfl⟩ | rfl) ?_
      intro hS
      refine (put_any w1.heap.size _ _ o2 _ _ HOD.out (by omega) (by have := hS.size; omega)).mono ?_
      rintro e5 w5 ⟨v5, rfl, own5, gr5, _⟩
      have HB5 := Lib.hid (Below.grown hS gr5 (by have := hS.size; omega) (fun q hq => (row_lt HOD.out q hq).2))
      have HO5 := Lib.hid own5
      refine ⟨_, rfl, HB5.out, ?_⟩
      clear own5 gr5 hS
      (try simp only [Act.put, List.setIfInBounds_toArray, List.set_cons_zero, List.set_cons_succ])
      apply lexH_run (by rfl)
      · (intro w h; clear h; go_simp; try rfl)
      (try simp only [Act.put, List.setIfInBounds_toArray, List.set_cons_zero, List.set_cons_succ])
      apply lexH_nil
      refine NoPanic.normal ?_
      have hlp2 := HLP.out
      clear HO6 HW HOD HSF HLP
      go_wp2
      go_roundw
      case rel => exact ⟨i + 1, _, by go_num, by omega, HE2, by omega, HO5, HB5⟩
      case measure => simp [intOf] <;> omega
    · have hii : ¬ (i : Int) < (n : Int) := by omega
      obtain rfl : n = i := by omega
      have hR : out = R := by have := HE.out; rw [List.drop_eq_nil_of_le (by rw [← HN.out]; exact Nat.le_refl _), cutJ] at this; exact this
      have HF := Lib.hid (row_baseG HO.out HB1.out.size)
      rw [hR] at HF
      have HFB := Lib.hid (HB1.out.trans (HW.out.mono HB1.out.size))
      clear hR HE
      go_wp2
      go_ret
      exact ⟨_, rfl, HF.out, HFB.out⟩
end Go.Proofs.Ytekcheccelllcaa
namespace Go.Proofs.Ytekcheccelllcaa
open Go.RowKit
set_option linter.unusedVariables false
set_option linter.unusedSimpArgs false

theorem addJ1_end (out l : List (Int × Int)) (s : Int × Int) (h : ∀ p r, l = p :: r → ¬ p.2 < s.1) : addJ1 out l s = addJ2 out l s := by
  cases l with
  | nil => rw [addJ1]
  | cons p r => rw [addJ1, if_neg (h p r rfl)]
theorem addJ2_end (out l : List (Int × Int)) (s : Int × Int) (h : ∀ p r, l = p :: r → ¬ p.1 ≤ s.2) : addJ2 out l s = addJ3 (putS out s.1 s.2) l := by
  cases l with
  | nil => rw [addJ2, addJ3]
  | cons p r => rw [addJ2, if_neg (h p r rfl)]
theorem drop_nil_or (l : List (Int × Int)) (i : Nat) (p : Int × Int) (r : List (Int × Int)) (h : l.drop i = p :: r) : i < l.length ∧ l.getD i (0, 0) = p := by
  have h1 : i < l.length := by
    rcases Nat.lt_or_ge i l.length with h2 | h2
    · exact h2
    · rw [List.drop_eq_nil_of_le h2] at h; cases h
  rw [drop_getS l i h1] at h
  injection h with h2 _
  exact ⟨h1, h2⟩
set_option maxRecDepth 100000 in
set_option maxHeartbeats 16000000 in
theorem joined_add (p : Option Addr) (n c : Nat) (l : List (Int × Int)) (s0 s1 : Int) (w : World) (hn : n = l.length) (hl : n ≤ 100000) (hp : SpAt w p l) : Calls Try.prog 71 #[.slice p n c, .agg #[.int .i64 s0, .int .i64 s1], .int .i64 1] w fun e w' => ∃ v', e = .returned v' ∧ w'.ownsRow w.heap.size 103 2 v' (joinR 1 l (s0, s1)).length (cellsP (joinR 1 l (s0, s1))) ∧ Below w.heap.size w w' := by
  have HN := Lib.hid hn
  have HP := Lib.hid hp
  obtain ⟨R, hR⟩ : ∃ R, R = joinR 1 l (s0, s1) := ⟨_, rfl⟩
  have HR := Lib.hid (show addJ1 [] l (s0, s1) = R from by rw [hR]; rfl)
  rw [← hR]
  clear hn hp hR
  go_enter Try.func71, Try.ntmps71
  go_upto_region 1 with (fail)
  obtain ⟨sb, hsb⟩ : ∃ q, q = w.heap.size := ⟨_, rfl⟩
  obtain ⟨w1, hw1⟩ : ∃ q : World, q = w.alloc (.cells #[.int .i64 s0, .int .i64 s1] 103) := ⟨_, rfl⟩
  rw [← hw1]
  (try rw [← hsb])
  have hz1 : w1.heap.size = sb + 1 := by rw [hw1, hsb]; simp
  have HB1 := Lib.hid (show Below w.heap.size w w1 from by rw [hw1]; exact below_al (Below.refl _ _) _)
  have HN1 := Lib.hid (show w1.heap[sb]? = some (.cells #[.int .i64 s0, .int .i64 s1] 103 (0, 0)) from by rw [hw1, hsb]; exact heap_alloc_new _ _)
  have HSB := Lib.hid hsb
  clear hw1 hsb
  have HSS := Lib.hid (show ∀ W : World, Below w1.heap.size w1 W → sb < W.heap.size ∧ W.cell? ⟨sb, 0, none⟩ = some (.int .i64 s0) ∧ W.cell? ⟨sb, 1, none⟩ = some (.int .i64 s1) from fun W hb => by
    have e := (hb.block sb (by omega)).trans HN1.out
    exact ⟨lt_of_block e, by rw [cell_of_row _ _ _ _ _ _ e]; rfl, by rw [cell_of_row _ _ _ _ _ _ e]; rfl⟩)
  have HPP := Lib.hid (HP.out.later HB1.out)
  go_wp2
  go_loopw [7, 10] (fun ov iv wr => ∃ (i : Nat) (out : List (Int × Int)), iv = .int .i64 i ∧ i ≤ n ∧ RowKit.Hid (addJ1 out (l.drop i) (s0, s1) = R) ∧ out.length ≤ i ∧ RowKit.Hid (wr.ownsRow w1.heap.size 103 2 ov out.length (cellsP out)) ∧ RowKit.Hid (Below w1.heap.size w1 wr)) (fun _ iv _ => n - (intOf iv).toNat)
  case atStart => exact ⟨0, [], rfl, Nat.zero_le _, HR, Nat.le_refl _, Lib.hid ⟨rfl, .inl ⟨rfl, rfl⟩⟩, Lib.hid (Below.refl _ _)⟩
  case round =>
    obtain ⟨i, out, rfl, hi, HE, hlo, HO, HW⟩ := hrel
    obtain ⟨zs, s0c, s1c⟩ := HSS.out _ HW.out
    by_cases hcd : i < n ∧ (l.getD i (0, 0)).2 < s0
    · obtain ⟨hlt, hps⟩ := hcd
      have hii : (i : Int) < (n : Int) := by omega
      obtain ⟨gl, off, rfl, zl, hrc⟩ := HPP.out (by rw [← HN.out]; omega)
      obtain ⟨c0, c1⟩ := hrc i (by rw [← HN.out]; exact hlt)
      have HDR := Lib.hid (drop_getS l i (by rw [← HN.out]; exact hlt))
      generalize l.getD i (0, 0) = pr at c0 c1 HDR hps
      obtain ⟨pa, pb⟩ := pr
      simp only at c0 c1 HDR hps
      have HC := Lib.hid (And.intro zl (And.intro c0 c1))
      clear hrc c0 c1 zl
      have HSF := Lib.hid (show ∀ W : World, Below w1.heap.size w1 W → (sb < W.heap.size ∧ W.cell? ⟨sb, 0, none⟩ = some (.int .i64 s0) ∧ W.cell? ⟨sb, 1, none⟩ = some (.int .i64 s1)) ∧ gl < W.heap.size ∧ W.cell? ⟨gl, off + i * 2, none⟩ = some (.int .i64 pa) ∧ W.cell? ⟨gl, off + i * 2 + 1, none⟩ = some (.int .i64 pb) from fun W hb => by
        obtain ⟨z, c0, c1⟩ := HC.out
        have e := (bcell hb).1
        exact ⟨HSS.out W hb, by have := hb.size; omega, by rw [e _ _ z]; exact c0, by rw [e _ _ z]; exact c1⟩)
      clear HC
      obtain ⟨_, zg, c0, c1⟩ := HSF.out _ HW.out
      go_upto_region 16 with (fail)
      go_quiet (fail)
      have HE2 := Lib.hid (show addJ1 (putS out pa pb) (l.drop (i + 1)) (s0, s1) = R from by have := HE.out; rw [HDR.out, addJ1, if_pos hps] at this; exact this)
      have HLP := Lib.hid (putS_len out pa pb)
      clear HE HDR hps c0 c1 zg zs s0c s1c
      go_upto_region 17 with (fail)
      obtain ⟨wq, hwq⟩ : ∃ q : World, q = wr.drewN nq := ⟨_, rfl⟩
      rw [← hwq]
      have HWQ := Lib.hid (show Below w1.heap.size w1 wq from by rw [hwq]; exact below_drewN HW.out _)
      have HOQ := Lib.hid (show wq.ownsRow w1.heap.size 103 2 u7 out.length (cellsP out) from by rw [hwq]; exact row_later HO.out (below_drewN (Below.refl _ _) _))
      clear hwq HO HW
      have HW := HWQ
      have HOD := Lib.hid (row_later HOQ.out (Below.drew (Below.refl wq.heap.size wq)))
      refine wp_region_noPanic ?_
      refine wp_region_lexH (fun w' => Below w1.heap.size w1 w') (by kernel_rfl) (by kernel_rfl) (fun _ _ _ _ _ h => h) (HW.out.trans (Below.drew (Below.refl _ _))) ?_
      apply lexH_run (by rfl)
      · (intro w h; clear h; go_simp; try rfl)
      (try simp only [Act.put, List.setIfInBounds_toArray, List.set_cons_zero, List.set_cons_succ])
      apply lexH_run (by rfl)
      · (intro w h; clear h; go_simp; try rfl)
      (try simp only [Act.put, List.setIfInBounds_toArray, List.set_cons_zero, List.set_cons_succ])
      apply lexH_run (by rfl)
      · (intro w h; clear h; go_simp; try rfl)
      (try simp only [Act.put, List.setIfInBounds_toArray, List.set_cons_zero, List.set_cons_succ])
      apply lexH_run (by rfl)
      · (intro w h; clear h; go_simp; try rfl)
      (try simp only [Act.put, List.setIfInBounds_toArray, List.set_cons_zero, List.set_cons_succ])
      apply lexH_run (by rfl)
      · (intro w h; clear h; go_simp; try rfl)
      (try simp only [Act.put, List.setIfInBounds_toArray, List.set_cons_zero, List.set_cons_succ])
      apply lexH_run (by rfl)
      · (intro w h; have FK := HSF.out w h; clear h; go_split_ands; go_simp; try rfl)
      (try simp only [Act.put, List.setIfInBounds_toArray, List.set_cons_zero, List.set_cons_succ])
      apply lexH_run (by rfl)
      · (intro w h; clear h; go_simp; try rfl)
      (try simp only [Act.put, List.setIfInBounds_toArray, List.set_cons_zero, List.set_cons_succ])
      apply lexH_run (by rfl)
      · (intro w h; clear h; go_simp; try rfl)
      (try simp only [Act.put, List.setIfInBounds_toArray, List.set_cons_zero, List.set_cons_succ])
      apply lexH_run (by rfl)
      · (intro w h; clear h; go_simp; try rfl)
      (try simp only [Act.put, List.setIfInBounds_toArray, List.set_cons_zero, List.set_cons_succ])
      apply lexH_run (by rfl)
      · (intro w h; clear h; go_simp; try rfl)
      (try simp only [Act.put, List.setIfInBounds_toArray, List.set_cons_zero, List.set_cons_succ])
      apply lexH_run (by rfl)
      · (intro w h; have FK := HSF.out w h; clear h; go_split_ands; go_simp; try rfl)
      (try simp only [Act.put, List.setIfInBounds_toArray, List.set_cons_zero, List.set_cons_succ])
      refine lexH_call (by kernel_rfl) (by rfl) (by go_simp; first | exact ⟨rfl, rfl⟩ | rfl) ?_
      intro hS
      refine (put_any w1.heap.size _ _ out _ _ HOD.out (by omega) (by have := hS.size; omega)).mono ?_
      rintro e5 w5 ⟨v5, rfl, own5, gr5, _⟩
      have HB5 := Lib.hid (Below.grown hS gr5 (by have := hS.size; omega) (fun q hq => (row_lt HOD.out q hq).2))
      have HO5 := Lib.hid own5
      refine ⟨_, rfl, HB5.out, ?_⟩
      clear own5 gr5 hS
      (try simp only [Act.put, List.setIfInBounds_toArray, List.set_cons_zero, List.set_cons_succ])
      apply lexH_run (by rfl)
      · (intro w h; clear h; go_simp; try rfl)
      (try simp only [Act.put, List.setIfInBounds_toArray, List.set_cons_zero, List.set_cons_succ])
      apply lexH_nil
      refine NoPanic.normal ?_
      have hlp := HLP.out
      clear HOQ HWQ HW HOD HSF HLP
      go_wp2
      go_roundw
      case rel => exact ⟨i + 1, _, by go_num, by omega, HE2, by omega, HO5, HB5⟩
      case measure => simp [intOf] <;> omega
    · have HE2 := Lib.hid (show addJ2 out (l.drop i) (s0, s1) = R from by
        rw [← addJ1_end out (l.drop i) (s0, s1) (fun p r h => by
          obtain ⟨h1, h2⟩ := drop_nil_or l i p r h
          intro h3
          exact hcd ⟨by rw [HN.out]; exact h1, by rw [h2]; exact h3⟩)]
        exact HE.out)
      clear HE
      go_upto_region 16 with (fail)
      go_cut [90] (fun s wx => s = .bool false ∧ RowKit.Hid (∃ q, wx = wr.drewN q))
      case first =>
        by_cases hlt : i < n
        · have hii : (i : Int) < (n : Int) := by omega
          obtain ⟨gl, off, rfl, zl, hrc⟩ := (HPP.out.later HW.out) (by rw [← HN.out]; omega)
          obtain ⟨c0, c1⟩ := hrc i (by rw [← HN.out]; exact hlt)
          have hps : ¬ (l.getD i (0, 0)).2 < s0 := fun h => hcd ⟨hlt, h⟩
          generalize l.getD i (0, 0) = pr at c0 c1 hps
          obtain ⟨pa, pb⟩ := pr
          simp only at c0 c1 hps
          have hpd : decide (pb < s0) = false := decide_eq_false hps
          clear hrc
          go_quiet (fail)
          go_wp2
          all_goals go_meet
          all_goals exact ⟨by simp [hps], Lib.hid (by first | exact ⟨_, rfl⟩ | exact ⟨1, rfl⟩ | exact ⟨0, rfl⟩)⟩
        · have hid : decide ((i : Int) < (n : Int)) = false := by simp; omega
          go_quiet (fail)
          go_wp2
          all_goals go_meet
          all_goals exact ⟨rfl, Lib.hid (by first | exact ⟨_, rfl⟩ | exact ⟨1, rfl⟩ | exact ⟨0, rfl⟩)⟩
      case rest =>
        obtain ⟨rfl, HQ⟩ := hcut
        obtain ⟨q, hq⟩ := HQ.out
        obtain ⟨w2, hw2⟩ : ∃ q : World, q = wc := ⟨_, rfl⟩
        rw [← hw2] at hq ⊢
        have HW2 := Lib.hid (show Below w1.heap.size w1 w2 from by rw [hq]; exact below_drewN HW.out _)
        have HO2 := Lib.hid (show w2.ownsRow w1.heap.size 103 2 u7 out.length (cellsP out) from by rw [hq]; exact row_later HO.out (below_drewN (Below.refl _ _) _))
        have HN2 := Lib.hid ((HW2.out.block sb (by omega)).trans HN1.out)
        have HBW := Lib.hid (HB1.out.trans (HW2.out.mono HB1.out.size))
        clear hw2 hq HQ HO HW zs s0c s1c hcd
        obtain ⟨v2, hv2⟩ : ∃ q, q = u7 := ⟨_, rfl⟩
        rw [← hv2] at HO2 ⊢
        clear hv2
        go_wp2
        go_loopw [10] (fun iv wr => ∃ (i : Nat) (a b : Int), iv = .int .i64 i ∧ i ≤ n ∧ RowKit.Hid (addJ2 out (l.drop i) (a, b) = R) ∧ RowKit.Hid (wr.ownsRow w1.heap.size 103 2 v2 out.length (cellsP out)) ∧ RowKit.Hid (wr.heap[sb]? = some (.cells #[.int .i64 a, .int .i64 b] 103 (0, 0))) ∧ RowKit.Hid (Below w.heap.size w wr)) (fun iv _ => n - (intOf iv).toNat)
        case atStart => exact ⟨i, s0, s1, rfl, hi, HE2, HO2, HN2, HBW⟩
        case round =>
          clear HE2 HO2 HN2 HBW HW2
          skip
          obtain ⟨j, a, b, rfl, hj, HE, HO, HNB, HW⟩ := hrel
          have HSC := Lib.hid (show ∀ W : World, W.heap[sb]? = wr.heap[sb]? → sb < W.heap.size ∧ W.cell? ⟨sb, 0, none⟩ = some (.int .i64 a) ∧ W.cell? ⟨sb, 1, none⟩ = some (.int .i64 b) from fun W hb => by
            have e := hb.trans HNB.out
            exact ⟨lt_of_block e, by rw [cell_of_row _ _ _ _ _ _ e]; rfl, by rw [cell_of_row _ _ _ _ _ _ e]; rfl⟩)
          obtain ⟨zs, s0c, s1c⟩ := HSC.out wr rfl
          by_cases hcd : j < n ∧ (l.getD j (0, 0)).1 ≤ b
          · obtain ⟨hlt, hps⟩ := hcd
            have hii : (j : Int) < (n : Int) := by omega
            obtain ⟨gl, off, rfl, zl, hrc⟩ := (HP.out.later HW.out) (by rw [← HN.out]; omega)
            obtain ⟨zl0, _⟩ : gl < w.heap.size ∧ True := by
              obtain ⟨g2, o2, e, z, _⟩ := HP.out (by rw [← HN.out]; omega)
              injection e with e; injection e with e1 e2; subst e1; exact ⟨z, trivial⟩
            obtain ⟨c0, c1⟩ := hrc j (by rw [← HN.out]; exact hlt)
            have HDR := Lib.hid (drop_getS l j (by rw [← HN.out]; exact hlt))
            generalize l.getD j (0, 0) = pr at c0 c1 HDR hps
            obtain ⟨pa, pb⟩ := pr
            simp only at c0 c1 HDR hps
            have HC := Lib.hid (And.intro zl (And.intro c0 c1))
            clear hrc
            have HS := Lib.hid (show ∀ w' : World, (w'.heap[sb]? = wr.heap[sb]? ∧ w'.heap[gl]? = wr.heap[gl]?) → (sb < w'.heap.size ∧ w'.cell? ⟨sb, 0, none⟩ = some (.int .i64 a) ∧ w'.cell? ⟨sb, 1, none⟩ = some (.int .i64 b)) ∧ w'.cell? ⟨gl, off + j * 2, none⟩ = some (.int .i64 pa) ∧ w'.cell? ⟨gl, off + j * 2 + 1, none⟩ = some (.int .i64 pb) from fun w' hk => by
              obtain ⟨z, c0, c1⟩ := HC.out
              exact ⟨HSC.out w' hk.1, by rw [World.cell?_of_block (a := ⟨gl, off + j * 2, none⟩) hk.2]; exact c0, by rw [World.cell?_of_block (a := ⟨gl, off + j * 2 + 1, none⟩) hk.2]; exact c1⟩)
            go_upto_region 19 with (fail)
            go_quiet (fail)
            have HE2 := Lib.hid (show addJ2 out (l.drop (j + 1)) (min a pa, max b pb) = R from by have := HE.out; rw [HDR.out, addJ2, if_pos hps] at this; exact this)
            clear HE HDR hps c0 c1 zl s0c s1c zs
            go_upto_region 20 with (fail)
            obtain ⟨wq, hwq⟩ : ∃ q : World, q = wr.drewN nq := ⟨_, rfl⟩
            rw [← hwq]
            have hbk : ∀ k : Nat, wq.heap[k]? = wr.heap[k]? := fun k => by rw [hwq]; rfl
            have HWQ := Lib.hid (show Below w.heap.size w wq from by rw [hwq]; exact below_drewN HW.out _)
            have HOQ := Lib.hid (show wq.ownsRow w1.heap.size 103 2 v2 out.length (cellsP out) from by rw [hwq]; exact row_later HO.out (below_drewN (Below.refl _ _) _))
            have HNQ := Lib.hid ((hbk sb).trans HNB.out)
            have HSQ := Lib.hid (And.intro (hbk sb) (hbk gl))
            clear hwq HO HW HNB hbk
            refine wp_region_noPanic ?_
            refine wp_region_Z (fun w' => w'.heap[sb]? = wr.heap[sb]? ∧ w'.heap[gl]? = wr.heap[gl]?) 17 (by kernel_rfl) ?_
            change wpAnyZ _ _ _ _ _ _ 18 (Array.replicate 18 false) _ _
            refine wpAnyZ_take [16, 7, 1] (i := 0) (v := ?vk0) (by simp only [List.getElem?_toArray, List.getElem?_cons_succ, List.getElem?_cons_zero]; rfl) (by decide +kernel) (fun _ _ _ h => h) (by rfl) ?tk0 ?sk0 ?_
            case tk0 => (intro w' h; clear h; go_simp; try rfl)
            case sk0 => exact HSQ.out
            (try simp only [Act.put, List.setIfInBounds_toArray, List.set_cons_zero, List.set_cons_succ])
            refine wpAnyZ_take [16, 7] (i := 1) (v := ?vk1) (by simp only [List.getElem?_toArray, List.getElem?_cons_succ, List.getElem?_cons_zero]; rfl) (by decide +kernel) (fun _ _ _ h => h) (by rfl) ?tk1 ?sk1 ?_
            case tk1 => (intro w' h; have FK := HS.out w' h; clear h; go_split_ands; go_simp; try rfl)
            case sk1 => exact HSQ.out
            (try simp only [Act.put, List.setIfInBounds_toArray, List.set_cons_zero, List.set_cons_succ])
            refine wpAnyZ_take [16, 7, 6, 5, 4] (i := 2) (v := ?vk2) (by simp only [List.getElem?_toArray, List.getElem?_cons_succ, List.getElem?_cons_zero]; rfl) (by decide +kernel) (fun _ _ _ h => h) (by rfl) ?tk2 ?sk2 ?_
            case tk2 => (intro w' h; clear h; go_simp; try rfl)
            case sk2 => exact HSQ.out
            (try simp only [Act.put, List.setIfInBounds_toArray, List.set_cons_zero, List.set_cons_succ])
            refine wpAnyZ_take [16, 7, 6, 5, 4] (i := 3) (v := ?vk3) (by simp only [List.getElem?_toArray, List.getElem?_cons_succ, List.getElem?_cons_zero]; rfl) (by decide +kernel) (fun _ _ _ h => h) (by rfl) ?tk3 ?sk3 ?_
            case tk3 => (intro w' h; clear h; go_simp; try rfl)
            case sk3 => exact HSQ.out
            (try simp only [Act.put, List.setIfInBounds_toArray, List.set_cons_zero, List.set_cons_succ])
            refine wpAnyZ_take [16, 7, 6, 5] (i := 4) (v := ?vk4) (by simp only [List.getElem?_toArray, List.getElem?_cons_succ, List.getElem?_cons_zero]; rfl) (by decide +kernel) (fun _ _ _ h => h) (by rfl) ?tk4 ?sk4 ?_
            case tk4 => (intro w' h; clear h; go_simp; try rfl)
            case sk4 => exact HSQ.out
            (try simp only [Act.put, List.setIfInBounds_toArray, List.set_cons_zero, List.set_cons_succ])
            refine wpAnyZ_take [16, 7, 6] (i := 5) (v := ?vk5) (by simp only [List.getElem?_toArray, List.getElem?_cons_succ, List.getElem?_cons_zero]; rfl) (by decide +kernel) (fun _ _ _ h => h) (by rfl) ?tk5 ?sk5 ?_
            case tk5 => (intro w' h; clear h; go_simp; try rfl)
            case sk5 => exact HSQ.out
            (try simp only [Act.put, List.setIfInBounds_toArray, List.set_cons_zero, List.set_cons_succ])
            refine wpAnyZ_take [16, 7] (i := 6) (v := ?vk6) (by simp only [List.getElem?_toArray, List.getElem?_cons_succ, List.getElem?_cons_zero]; rfl) (by decide +kernel) (fun _ _ _ h => h) (by rfl) ?tk6 ?sk6 ?_
            case tk6 => (intro w' h; have FK := HS.out w' h; clear h; go_split_ands; go_simp; try rfl)
            case sk6 => exact HSQ.out
            (try simp only [Act.put, List.setIfInBounds_toArray, List.set_cons_zero, List.set_cons_succ])
            refine wpAnyZ_take [16] (i := 7) (v := ?vk7) (by simp only [List.getElem?_toArray, List.getElem?_cons_succ, List.getElem?_cons_zero]; rfl) (by decide +kernel) (fun _ _ _ h => h) (by rfl) ?tk7 ?sk7 ?_
            case tk7 => (intro w' h; clear h; go_simp; try rfl)
            case sk7 => exact HSQ.out
            (try simp only [Act.put, List.setIfInBounds_toArray, List.set_cons_zero, List.set_cons_succ])
            refine wpAnyZ_take [16, 15, 9] (i := 8) (v := ?vk8) (by simp only [List.getElem?_toArray, List.getElem?_cons_succ, List.getElem?_cons_zero]; rfl) (by decide +kernel) (fun _ _ _ h => h) (by rfl) ?tk8 ?sk8 ?_
            case tk8 => (intro w' h; clear h; go_simp; try rfl)
            case sk8 => exact HSQ.out
            (try simp only [Act.put, List.setIfInBounds_toArray, List.set_cons_zero, List.set_cons_succ])
            refine wpAnyZ_take [16, 15] (i := 9) (v := ?vk9) (by simp only [List.getElem?_toArray, List.getElem?_cons_succ, List.getElem?_cons_zero]; rfl) (by decide +kernel) (fun _ _ _ h => h) (by rfl) ?tk9 ?sk9 ?_
            case tk9 => (intro w' h; have FK := HS.out w' h; clear h; go_split_ands; go_simp; try rfl)
            case sk9 => exact HSQ.out
            (try simp only [Act.put, List.setIfInBounds_toArray, List.set_cons_zero, List.set_cons_succ])
            refine wpAnyZ_take [16, 15, 14, 13, 12] (i := 10) (v := ?vk10) (by simp only [List.getElem?_toArray, List.getElem?_cons_succ, List.getElem?_cons_zero]; rfl) (by decide +kernel) (fun _ _ _ h => h) (by rfl) ?tk10 ?sk10 ?_
            case tk10 => (intro w' h; clear h; go_simp; try rfl)
            case sk10 => exact HSQ.out
            (try simp only [Act.put, List.setIfInBounds_toArray, List.set_cons_zero, List.set_cons_succ])
            refine wpAnyZ_take [16, 15, 14, 13, 12] (i := 11) (v := ?vk11) (by simp only [List.getElem?_toArray, List.getElem?_cons_succ, List.getElem?_cons_zero]; rfl) (by decide +kernel) (fun _ _ _ h => h) (by rfl) ?tk11 ?sk11 ?_
            case tk11 => (intro w' h; clear h; go_simp; try rfl)
            case sk11 => exact HSQ.out
            (try simp only [Act.put, List.setIfInBounds_toArray, List.set_cons_zero, List.set_cons_succ])
            refine wpAnyZ_take [16, 15, 14, 13] (i := 12) (v := ?vk12) (by simp only [List.getElem?_toArray, List.getElem?_cons_succ, List.getElem?_cons_zero]; rfl) (by decide +kernel) (fun _ _ _ h => h) (by rfl) ?tk12 ?sk12 ?_
            case tk12 => (intro w' h; clear h; go_simp; try rfl)
            case sk12 => exact HSQ.out
            (try simp only [Act.put, List.setIfInBounds_toArray, List.set_cons_zero, List.set_cons_succ])
            refine wpAnyZ_take [16, 15, 14] (i := 13) (v := ?vk13) (by simp only [List.getElem?_toArray, List.getElem?_cons_succ, List.getElem?_cons_zero]; rfl) (by decide +kernel) (fun _ _ _ h => h) (by rfl) ?tk13 ?sk13 ?_
            case tk13 => (intro w' h; clear h; go_simp; try rfl)
            case sk13 => exact HSQ.out
            (try simp only [Act.put, List.setIfInBounds_toArray, List.set_cons_zero, List.set_cons_succ])
            refine wpAnyZ_take [16, 15] (i := 14) (v := ?vk14) (by simp only [List.getElem?_toArray, List.getElem?_cons_succ, List.getElem?_cons_zero]; rfl) (by decide +kernel) (fun _ _ _ h => h) (by rfl) ?tk14 ?sk14 ?_
            case tk14 => (intro w' h; have FK := HS.out w' h; clear h; go_split_ands; go_simp; try rfl)
            case sk14 => exact HSQ.out
            (try simp only [Act.put, List.setIfInBounds_toArray, List.set_cons_zero, List.set_cons_succ])
            refine wpAnyZ_take [16] (i := 15) (v := ?vk15) (by simp only [List.getElem?_toArray, List.getElem?_cons_succ, List.getElem?_cons_zero]; rfl) (by decide +kernel) (fun _ _ _ h => h) (by rfl) ?tk15 ?sk15 ?_
            case tk15 => (intro w' h; clear h; go_simp; try rfl)
            case sk15 => exact HSQ.out
            (try simp only [Act.put, List.setIfInBounds_toArray, List.set_cons_zero, List.set_cons_succ])
            refine wpAnyZ_take [] (i := 16) (v := ?vk16) (by simp only [List.getElem?_toArray, List.getElem?_cons_succ, List.getElem?_cons_zero]; rfl) (by decide +kernel) (fun _ _ _ h => h) (by rfl) ?tk16 ?sk16 ?_
            case tk16 => (intro w' h; clear h; go_simp; try rfl)
            case sk16 => exact HSQ.out
            (try simp only [Act.put, List.setIfInBounds_toArray, List.set_cons_zero, List.set_cons_succ])
            obtain ⟨zq, q0, q1⟩ := HSC.out wq HSQ.out.1
            have fz0 : wq.frozen? ⟨sb, 0, none⟩ = false := frozen_of_row _ _ _ _ _ HNQ.out
            have fz1 : wq.frozen? ⟨sb, 1, none⟩ = false := frozen_of_row _ _ _ _ _ HNQ.out
            refine wpAnyZ_one (i := 17) (by decide +kernel) ?_
            refine wpOpK_skip (w' := ((wq.setCell ⟨sb, 0, none⟩ (.int .i64 (min a pa))).setCell ⟨sb, 1, none⟩ (.int .i64 (max b pb))).drew) (by simp only [List.getElem?_toArray, List.getElem?_cons_succ, List.getElem?_cons_zero]; rfl) (by rfl) ?mk17 ⟨.inl rfl, ?_⟩
            case mk17 => (go_simp; try rfl)
            (try simp only [Act.put, List.setIfInBounds_toArray, List.set_cons_zero, List.set_cons_succ])
            refine wpAnyZ_done (by kernel_rfl) (NoPanic.normal ?_) _
            obtain ⟨w8, hw8⟩ : ∃ q : World, q = ((wq.setCell ⟨sb, 0, none⟩ (.int .i64 (min a pa))).setCell ⟨sb, 1, none⟩ (.int .i64 (max b pb))).drew := ⟨_, rfl⟩
            rw [← hw8]
            have HN8 := Lib.hid (show w8.heap[sb]? = some (.cells #[.int .i64 (min a pa), .int .i64 (max b pb)] 103 (0, 0)) from by rw [hw8]; exact set_blk (set_blk HNQ.out 0 _) 1 _)
            have HO8 := Lib.hid (show w8.ownsRow w1.heap.size 103 2 v2 out.length (cellsP out) from row_keepB HOQ.out fun q hq => by
              have := (row_lt HOQ.out q hq).2
              rw [hw8]; exact (heap_setCell_other _ _ _ _ (by show q ≠ sb; omega)).trans (heap_setCell_other _ _ _ _ (by show q ≠ sb; omega)))
            have HB8 := Lib.hid (show Below w.heap.size w w8 from by rw [hw8]; exact ((HWQ.out.setCell (p := ⟨sb, 0, none⟩) (by rw [HSB.out]; exact Nat.le_refl _) _).setCell (p := ⟨sb, 1, none⟩) (by rw [HSB.out]; exact Nat.le_refl _) _).trans (Below.drew (Below.refl _ _)))
            clear hw8 HS HSC HC HSQ HNQ HOQ HWQ zq q0 q1 fz0 fz1
            go_wp2
            go_roundw
            case rel => exact ⟨j + 1, _, _, by go_num, by omega, HE2, HO8, HN8, HB8⟩
            case measure => simp [intOf] <;> omega
          · have HE2 := Lib.hid (show addJ3 (putS out a b) (l.drop j) = R from by
              rw [← addJ2_end out (l.drop j) (a, b) (fun p r h => by
                obtain ⟨h1, h2⟩ := drop_nil_or l j p r h
                intro h3
                exact hcd ⟨by rw [HN.out]; exact h1, by rw [h2]; exact h3⟩)]
              exact HE.out)
            clear HE
            go_upto_region 19 with (fail)
            go_cut [118] (fun s wx => s = .bool false ∧ RowKit.Hid (∃ q, wx = wr.drewN q))
            case first =>
              by_cases hlt : j < n
              · have hii : (j : Int) < (n : Int) := by omega
                obtain ⟨gl, off, rfl, zl, hrc⟩ := (HP.out.later HW.out) (by rw [← HN.out]; omega)
                obtain ⟨c0, c1⟩ := hrc j (by rw [← HN.out]; exact hlt)
                have hps : ¬ (l.getD j (0, 0)).1 ≤ b := fun h => hcd ⟨hlt, h⟩
                generalize l.getD j (0, 0) = pr at c0 c1 hps
                obtain ⟨pa, pb⟩ := pr
                simp only at c0 c1 hps
                have hpd : decide (pa ≤ b) = false := decide_eq_false hps
                clear hrc
                go_quiet (fail)
                go_wp2
                all_goals go_meet
                all_goals exact ⟨by (simp [hps]; try omega), Lib.hid (by first | exact ⟨_, rfl⟩ | exact ⟨1, rfl⟩ | exact ⟨0, rfl⟩)⟩
              · have hid : decide ((j : Int) < (n : Int)) = false := by simp; omega
                go_quiet (fail)
                go_wp2
                all_goals go_meet
                all_goals exact ⟨rfl, Lib.hid (by first | exact ⟨_, rfl⟩ | exact ⟨1, rfl⟩ | exact ⟨0, rfl⟩)⟩
            case rest =>
              obtain ⟨rfl, HQ⟩ := hcut
              obtain ⟨q, hq⟩ := HQ.out
              obtain ⟨w2, hw2⟩ : ∃ q : World, q = wc := ⟨_, rfl⟩
              rw [← hw2] at hq ⊢
              have HW2 := Lib.hid (show Below w.heap.size w w2 from by rw [hq]; exact below_drewN HW.out _)
              have HO2 := Lib.hid (show w2.ownsRow w1.heap.size 103 2 v2 out.length (cellsP out) from by rw [hq]; exact row_later HO.out (below_drewN (Below.refl _ _) _))
              obtain ⟨zs, s0c, s1c⟩ := HSC.out w2 (by rw [hq]; rfl)
              have hzb := HB1.out.size
              have hz12 : w1.heap.size ≤ w2.heap.size := by omega
              clear hw2 hq HQ HO HW hcd HNB HSC
              have CL := Lib.hid (put_any w1.heap.size w2 v2 out a b HO2.out (by omega) hz12)
              go_wp2_with fail
              refine CL.out.mono ?_
              rintro e5 w5 ⟨v5, rfl, own5, gr5, _⟩
              have HB5 := Lib.hid (show Below w.heap.size w w5 from Below.grown HW2.out gr5 (by have := HSB.out; omega) (fun q hq => by have := (row_lt HO2.out q hq).2; have := HSB.out; omega))
              have HO5 := Lib.hid own5
              have HLP := Lib.hid (putS_len out a b)
              have hz5 := gr5.size
              clear own5 gr5 CL HO2 HW2 zs s0c s1c
              obtain ⟨o3, ho3⟩ : ∃ q, q = putS out a b := ⟨_, rfl⟩
              rw [← ho3] at HO5 HLP HE2
              clear ho3
              have hlp := HLP.out
              go_wp2
              go_loopw [7, 10] (fun ov iv wr => ∃ (i : Nat) (out : List (Int × Int)), iv = .int .i64 i ∧ i ≤ n ∧ RowKit.Hid (addJ3 out (l.drop i) = R) ∧ out.length ≤ n + 1 + i ∧ RowKit.Hid (wr.ownsRow w1.heap.size 103 2 ov out.length (cellsP out)) ∧ RowKit.Hid (Below w.heap.size w wr) ∧ w1.heap.size ≤ wr.heap.size) (fun _ iv _ => n - (intOf iv).toNat)
              case atStart => exact ⟨j, o3, rfl, hj, HE2, by omega, HO5, HB5, by omega⟩
              case round =>
                clear HE2 HO5 HB5 HLP
                obtain ⟨k, o4, rfl, hk, HE, hlo4, HO, HW, hzw⟩ := hrel
                by_cases hlt : k < n
                · have hii : (k : Int) < (n : Int) := by omega
                  obtain ⟨gl, off, rfl, zl, hrc⟩ := HP.out (by rw [← HN.out]; omega)
                  obtain ⟨c0, c1⟩ := hrc k (by rw [← HN.out]; exact hlt)
                  have HDR := Lib.hid (drop_getS l k (by rw [← HN.out]; exact hlt))
                  generalize l.getD k (0, 0) = pr at c0 c1 HDR
                  obtain ⟨pa, pb⟩ := pr
                  simp only at c0 c1 HDR
                  have HC := Lib.hid (And.intro zl (And.intro c0 c1))
                  clear hrc c0 c1 zl
                  have HSF := Lib.hid (show ∀ W : World, (Below w.heap.size w W ∧ w1.heap.size ≤ W.heap.size) → gl < W.heap.size ∧ W.cell? ⟨gl, off + k * 2, none⟩ = some (.int .i64 pa) ∧ W.cell? ⟨gl, off + k * 2 + 1, none⟩ = some (.int .i64 pb) from fun W hb => by
                    obtain ⟨z, c0, c1⟩ := HC.out
                    have e := (bcell hb.1).1
                    exact ⟨by have := hb.1.size; omega, by rw [e _ _ z]; exact c0, by rw [e _ _ z]; exact c1⟩)
                  clear HC
                  have HE2 := Lib.hid (show addJ3 (putS o4 pa pb) (l.drop (k + 1)) = R from by have := HE.out; rw [HDR.out, addJ3] at this; exact this)
                  have HLP := Lib.hid (putS_len o4 pa pb)
                  have HOD := Lib.hid (row_later HO.out (Below.drew (Below.refl wr.heap.size wr)))
                  clear HE HDR
                  go_upto_region 24 with (fail)
                  refine wp_region_noPanic ?_
                  refine wp_region_lexH (fun w' => Below w.heap.size w w' ∧ w1.heap.size ≤ w'.heap.size) (by kernel_rfl) (by kernel_rfl) (fun _ _ _ _ _ h => h) ⟨HW.out.trans (Below.drew (Below.refl _ _)), hzw⟩ ?_
                  apply lexH_run (by rfl)
                  · (intro w h; clear h; go_simp; try rfl)
                  (try simp only [Act.put, List.setIfInBounds_toArray, List.set_cons_zero, List.set_cons_succ])
                  apply lexH_run (by rfl)
                  · (intro w h; clear h; go_simp; try rfl)
                  (try simp only [Act.put, List.setIfInBounds_toArray, List.set_cons_zero, List.set_cons_succ])
                  apply lexH_run (by rfl)
                  · (intro w h; clear h; go_simp; try rfl)
                  (try simp only [Act.put, List.setIfInBounds_toArray, List.set_cons_zero, List.set_cons_succ])
                  apply lexH_run (by rfl)
                  · (intro w h; clear h; go_simp; try rfl)
                  (try simp only [Act.put, List.setIfInBounds_toArray, List.set_cons_zero, List.set_cons_succ])
                  apply lexH_run (by rfl)
                  · (intro w h; clear h; go_simp; try rfl)
                  (try simp only [Act.put, List.setIfInBounds_toArray, List.set_cons_zero, List.set_cons_succ])
                  apply lexH_run (by rfl)
                  · (intro w h; have FK := HSF.out w h; clear h; go_split_ands; go_simp; try rfl)
                  (try simp only [Act.put, List.setIfInBounds_toArray, List.set_cons_zero, List.set_cons_succ])
                  apply lexH_run (by rfl)
                  · (intro w h; clear h; go_simp; try rfl)
                  (try simp only [Act.put, List.setIfInBounds_toArray, List.set_cons_zero, List.set_cons_succ])
                  apply lexH_run (by rfl)
                  · (intro w h; clear h; go_simp; try rfl)
                  (try simp only [Act.put, List.setIfInBounds_toArray, List.set_cons_zero, List.set_cons_succ])
                  apply lexH_run (by rfl)
                  · (intro w h; clear h; go_simp; try rfl)
                  (try simp only [Act.put, List.setIfInBounds_toArray, List.set_cons_zero, List.set_cons_succ])
                  apply lexH_run (by rfl)
                  · (intro w h; clear h; go_simp; try rfl)
                  (try simp only [Act.put, List.setIfInBounds_toArray, List.set_cons_zero, List.set_cons_succ])
                  apply lexH_run (by rfl)
                  · (intro w h; have FK := HSF.out w h; clear h; go_split_ands; go_simp; try rfl)
                  (try simp only [Act.put, List.setIfInBounds_toArray, List.set_cons_zero, List.set_cons_succ])
                  refine lexH_call (by kernel_rfl) (by rfl) (by go_simp; first | exact ⟨rfl, rfl⟩ | rfl) ?_
                  intro hS
                  refine (put_any w1.heap.size _ _ o4 _ _ HOD.out (by omega) hS.2).mono ?_
                  rintro e5 w5 ⟨v5, rfl, own5, gr5, _⟩
                  have HB5 := Lib.hid (show Below w.heap.size w w5 ∧ w1.heap.size ≤ w5.heap.size from ⟨Below.grown hS.1 gr5 (by have := hS.1.size; omega) (fun q hq => by have := (row_lt HOD.out q hq).2; have := HSB.out; omega), Nat.le_trans hS.2 gr5.size⟩)
                  have HO5 := Lib.hid own5
                  refine ⟨_, rfl, HB5.out, ?_⟩
                  clear own5 gr5 hS
                  (try simp only [Act.put, List.setIfInBounds_toArray, List.set_cons_zero, List.set_cons_succ])
                  apply lexH_run (by rfl)
                  · (intro w h; clear h; go_simp; try rfl)
                  (try simp only [Act.put, List.setIfInBounds_toArray, List.set_cons_zero, List.set_cons_succ])
                  apply lexH_nil
                  refine NoPanic.normal ?_
                  have hlp4 := HLP.out
                  have HB6 := Lib.hid HB5.out.1
                  have hz6 := HB5.out.2
                  clear HO HW HOD HSF HLP HB5
                  go_wp2
                  go_roundw
                  case rel => exact ⟨k + 1, _, by go_num, by omega, HE2, by omega, HO5, HB6, hz6⟩
                  case measure => simp [intOf] <;> omega
                · have hii : ¬ (k : Int) < (n : Int) := by omega
                  obtain rfl : n = k := by omega
                  have hR : o4 = R := by have := HE.out; rw [List.drop_eq_nil_of_le (by rw [← HN.out]; exact Nat.le_refl _), addJ3] at this; exact this
                  have HF := Lib.hid (row_baseG HO.out HB1.out.size)
                  rw [hR] at HF
                  clear hR HE
                  go_wp2
                  go_ret
                  exact ⟨_, rfl, HF.out, HW.out⟩
theorem joined_any (p : Option Addr) (n c : Nat) (l : List (Int × Int)) (s : Int × Int) (d : Nat) (w : World) (hn : n = l.length) (hl : n ≤ 100000) (hp : SpAt w p l) (hd : d = 1 ∨ d = 2 ∨ d = 3) : Calls Try.prog 71 #[.slice p n c, .agg #[.int .i64 s.1, .int .i64 s.2], .int .i64 d] w fun e w' => ∃ v', e = .returned v' ∧ w'.ownsRow w.heap.size 103 2 v' (joinR d l s).length (cellsP (joinR d l s)) ∧ Below w.heap.size w w' := by
  obtain ⟨s0, s1⟩ := s
  rcases hd with rfl | rfl | rfl
  · exact joined_add p n c l s0 s1 w hn hl hp
  · exact joined_cut p n c l s0 s1 w hn hl hp
  · exact joined_clip p n c l s0 s1 w hn hl hp
end Go.Proofs.Ytekcheccelllcaa
namespace Go.Proofs.Ytekcheccelllcaa
open Go.RowKit
set_option linter.unusedVariables false
set_option linter.unusedSimpArgs false

theorem wrap_sm (x : Int) (h : -4611686018427387904 ≤ x ∧ x ≤ 4611686018427387904) : IntKind.i64.wrap x = x := by
  unfold IntKind.wrap
  simp [IntKind.signed, IntKind.bits]
  omega
theorem infoInt7 : (Try.prog.info? 3).map (fun i => (i.zero, i.size, i.bytes)) = some (some (.int .i64 0), 1, 8) := by kernel_rfl
theorem upD_lt2 {l : List Int} (h : Up l) {i k : Nat} (hik : i < k) (hk : k < l.length) : l.getD i 0 < l.getD k 0 := by
  rw [List.getD_eq_getElem?_getD, List.getD_eq_getElem?_getD, List.getElem?_eq_getElem (by omega), List.getElem?_eq_getElem hk]
  exact List.pairwise_iff_getElem.1 h i k (by omega) hk hik
theorem memD {l : List Int} {i : Nat} (h : i < l.length) : l.getD i 0 ∈ l := by
  rw [List.getD_eq_getElem?_getD, List.getElem?_eq_getElem h]; exact List.getElem_mem h
theorem takeD (l : List Int) (i : Nat) (h : i < l.length) (x : Int) : x ∈ l.take (i + 1) ↔ x ∈ l.take i ∨ x = l.getD i 0 := by
  rw [List.take_succ_eq_append_getElem h, List.mem_append, List.mem_singleton, List.getD_eq_getElem?_getD, List.getElem?_eq_getElem h]; rfl
/-- one number put in at its place -/
theorem put_in {out R : List Int} {a : Int} {k : Nat} (hu : Up out) (hk : k ≤ out.length) (hR : R.length = out.length + 1) (h1 : ∀ t, t < k → R.getD t 0 = out.getD t 0) (h2 : R.getD k 0 = a) (h3 : ∀ t, k < t → t ≤ out.length → R.getD t 0 = out.getD (t - 1) 0) (hl : ∀ j, j < k → out.getD j 0 < a) (hg : ∀ j, k ≤ j → j < out.length → a < out.getD j 0) : Up R ∧ ∀ x, x ∈ R ↔ x ∈ out ∨ x = a := by
  have e : R = out.take k ++ a :: out.drop k := by
    refine List.ext_getElem (by simp; omega) fun i i1 i2 => ?_
    have g : R.getD i 0 = R[i] := by rw [List.getD_eq_getElem?_getD, List.getElem?_eq_getElem i1]; rfl
    rw [← g]
    rcases Nat.lt_trichotomy i k with h | h | h
    · rw [List.getElem_append_left (by simp; omega), List.getElem_take, h1 i h, List.getD_eq_getElem?_getD, List.getElem?_eq_getElem (by omega)]; rfl
    · subst h
      rw [List.getElem_append_right (by simp; omega), h2]
      have e0 : i - (out.take i).length = 0 := by rw [List.length_take]; omega
      simp only [e0, List.getElem_cons_zero]
    · rw [List.getElem_append_right (by simp; omega), h3 i h (by omega)]
      have e1 : i - (out.take k).length = (i - 1 - k) + 1 := by simp; omega
      have hlt : i - 1 < out.length := by omega
      simp only [e1, List.getElem_cons_succ, List.getElem_drop]
      rw [List.getD_eq_getElem?_getD, List.getElem?_eq_getElem hlt]
      simp only [Option.getD_some]
      congr 1
      omega
  subst e
  have hs : out.take k ++ out.drop k = out := List.take_append_drop k out
  have hT : ∀ x ∈ out.take k, x < a := fun x hx => by
    obtain ⟨i, hi, rfl⟩ := List.getElem_of_mem hx
    have := hl i (by simp at hi; omega)
    rw [List.getD_eq_getElem?_getD, List.getElem?_eq_getElem (by simp at hi; omega)] at this
    rw [List.getElem_take]; exact this
  have hD : ∀ x ∈ out.drop k, a < x := fun x hx => by
    obtain ⟨i, hi, rfl⟩ := List.getElem_of_mem hx
    have := hg (k + i) (by omega) (by simp at hi; omega)
    rw [List.getD_eq_getElem?_getD, List.getElem?_eq_getElem (by simp at hi; omega)] at this
    rw [List.getElem_drop]; exact this
  have hu2 : Up (out.take k ++ out.drop k) := by rw [hs]; exact hu
  have h4 := List.pairwise_append.1 hu2
  refine ⟨List.pairwise_append.2 ⟨h4.1, List.pairwise_cons.2 ⟨hD, h4.2.1⟩, fun x hx y hy => ?_⟩, fun x => ?_⟩
  · rcases List.mem_cons.1 hy with rfl | hy
    · exact hT x hx
    · exact h4.2.2 x hx y hy
  · rw [List.mem_append, List.mem_cons]
    conv => rhs; rw [← hs, List.mem_append]
    constructor
    · rintro (h | h | h)
      · exact .inl (.inl h)
      · exact .inr h
      · exact .inl (.inr h)
    · rintro ((h | h) | h)
      · exact .inl h
      · exact .inr (.inr h)
      · exact .inr (.inl h)
theorem setD (xs : List Int) (j t : Nat) (b : Int) (h : j < xs.length) : (xs.set j b).getD t 0 = if j = t then b else xs.getD t 0 := by
  rw [List.getD_eq_getElem?_getD, List.getD_eq_getElem?_getD, List.getElem?_set]
  split
  · first | rfl | (rw [if_pos (by omega)]; rfl)
  · rfl
theorem vI_set (xs : List Int) (j : Nat) (b : Int) : vI (xs.set j b) = (vI xs).set j (.int .i64 b) := by unfold vI; rw [List.map_set]
set_option maxRecDepth 100000 in
set_option maxHeartbeats 16000000 in
theorem sorted_any (p : Option Addr) (n c : Nat) (l : List Int) (w : World) (hn : n = l.length) (hl : n ≤ 100000) (hp : RdI w p l) : Calls Try.prog 69 #[.slice p n c] w fun e w' => ∃ v', e = .returned v' ∧ w'.ownsRow w.heap.size 3 1 v' (srtU l).length (vI (srtU l)) ∧ Below w.heap.size w w' := by
  obtain ⟨i0, hi0, hz0, hz1, hz2⟩ := info_parts infoInt7
  have HI0 := Lib.hid (And.intro hi0 (And.intro hz0 (And.intro hz1 hz2)))
  clear hi0 hz0 hz1 hz2
  have HN := Lib.hid hn
  have HP := Lib.hid hp
  clear hn hp
  go_enter Try.func69, Try.ntmps69
  go_wp2
  go_loopw [3, 4] (fun ov iv wr => ∃ (i : Nat) (out : List Int), iv = .int .i64 i ∧ i ≤ n ∧ out.length ≤ i ∧ RowKit.Hid (Up out ∧ ∀ x, x ∈ out ↔ x ∈ l.take i) ∧ RowKit.Hid (wr.ownsRow w.heap.size 3 1 ov out.length (vI out)) ∧ RowKit.Hid (Below w.heap.size w wr)) (fun _ iv _ => n - (intOf iv).toNat)
  case atStart => exact ⟨0, [], rfl, Nat.zero_le _, Nat.le_refl _, Lib.hid ⟨List.Pairwise.nil, fun x => Iff.rfl⟩, Lib.hid ⟨rfl, .inl ⟨rfl, rfl⟩⟩, Lib.hid (Below.refl _ _)⟩
  case round =>
    obtain ⟨wo, rfl⟩ : ∃ wo : World, wo = wr := ⟨_, rfl⟩
    obtain ⟨i, out, rfl, hi, hlo, HU, HO, HW⟩ := hrel
    by_cases hlt : i < n
    · have hii : (i : Int) < (n : Int) := by omega
      obtain ⟨a, ha⟩ : ∃ q, q = l.getD i 0 := ⟨_, rfl⟩
      have HTK := Lib.hid (takeD l i (by rw [← HN.out]; exact hlt))
      rw [← ha] at HTK
      have HA := Lib.hid ha
      obtain ⟨gl, off, rfl, zl, hrc⟩ := HP.out (by rw [← HN.out]; omega)
      have ca0 := hrc i (by rw [← HN.out]; exact hlt)
      rw [← ha] at ca0
      have HCA := Lib.hid (show ∀ W : World, Below w.heap.size w W → gl < W.heap.size ∧ W.cell? ⟨gl, off + i, none⟩ = some (.int .i64 a) from fun W hb => ⟨by have := hb.size; omega, by rw [(bcell hb).1 _ _ zl]; exact ca0⟩)
      clear ha hrc ca0
      obtain ⟨m, hm⟩ : ∃ m, m = out.length := ⟨_, rfl⟩
      rw [← hm] at HO hlo
      have HM := Lib.hid hm
      clear hm
      obtain ⟨po, co, hov⟩ := row_slice HO.out
      subst hov
      have hrd := rdI_own HO.out HM.out
      obtain ⟨p2, c2, he2, _, hrd⟩ := hrd
      injection he2 with e1 _ e3
      subst e1 e3
      have HRD := Lib.hid hrd
      clear hrd
      go_wp2
      go_loopw [5] (fun kv wr => ∃ k : Nat, kv = .int .i64 k ∧ k ≤ m ∧ RowKit.Hid (∀ j, k ≤ j → j < m → a < out.getD j 0) ∧ RowKit.Hid (∃ q, wr = wo.drewN q)) (fun kv _ => (intOf kv).toNat)
      case atStart => exact ⟨m, rfl, Nat.le_refl _, Lib.hid (fun j h1 h2 => by omega), Lib.hid ⟨0, rfl⟩⟩
      case round =>
        obtain ⟨k, rfl, hkm, HG, HQ⟩ := hrel
        have HWR := Lib.hid (show Below wo.heap.size wo wr from by obtain ⟨q, hq⟩ := HQ.out; rw [hq]; exact below_drewN (Below.refl _ _) _)
        have HWW := Lib.hid (below_via HWR.out HW.out)
        obtain ⟨za, ca⟩ := HCA.out wr HWW.out
        go_upto_region 6 with (fail)
        go_cut [28] (fun s wx => s = .bool (decide (0 < k ∧ a < out.getD (k - 1) 0)) ∧ RowKit.Hid (∃ q, wx = wr.drewN q))
        case first =>
          by_cases hk : 0 < k
          · obtain ⟨r, hr⟩ : ∃ r, r + 1 = k := ⟨k - 1, by omega⟩
            have hk1 : k - 1 = r := by omega
            obtain ⟨go, oo, rfl, zo, hoc⟩ := (HRD.out.later HWR.out (Nat.le_refl _)) (by rw [← HM.out]; omega)
            have cb := hoc r (by rw [← HM.out]; omega)
            generalize hbq : out.getD r 0 = b at cb
            have HBQ := Lib.hid (show out.getD (k - 1) 0 = b from by rw [hk1]; exact hbq)
            clear hbq hk1
            have hk0 : (0 : Int) < (k : Int) := by omega
            have hkr : (k : Int) - 1 = (r : Int) := by omega
            have hwr : IntKind.i64.wrap (r : Int) = (r : Int) := wrap_sm _ (by omega)
            have hrm : (r : Int) < (m : Int) := by omega
            have hr0 : (0 : Int) ≤ (r : Int) := by omega
            clear hoc
            by_cases hab : a < b
            · go_quiet (fail)
              go_wp2
              all_goals go_meet
              all_goals exact ⟨by rw [HBQ.out]; simp [hab, hk], Lib.hid (by first | exact ⟨_, rfl⟩ | exact ⟨1, rfl⟩ | exact ⟨0, rfl⟩)⟩
            · have hbd : decide (a < b) = false := decide_eq_false hab
              go_quiet (fail)
              go_wp2
              all_goals go_meet
              all_goals exact ⟨by rw [HBQ.out]; (simp [hab]; try (intros; omega)), Lib.hid (by first | exact ⟨_, rfl⟩ | exact ⟨1, rfl⟩ | exact ⟨0, rfl⟩)⟩
          · obtain rfl : k = 0 := by omega
            have hkd : decide ((0 : Int) < ((0 : Nat) : Int)) = false := by simp
            go_quiet (fail)
            go_wp2
            all_goals go_meet
            all_goals exact ⟨by simp, Lib.hid (by first | exact ⟨_, rfl⟩ | exact ⟨1, rfl⟩ | exact ⟨0, rfl⟩)⟩
        case rest =>
          obtain ⟨rfl, HQ2⟩ := hcut
          have HQ3 := Lib.hid (show ∃ q, wc = wo.drewN q from by obtain ⟨q, hq⟩ := HQ.out; obtain ⟨q2, hq2⟩ := HQ2.out; exact ⟨q + q2, by rw [hq2, hq]; simp [World.drewN, Nat.add_assoc]⟩)
          obtain ⟨w3, hw3⟩ : ∃ q : World, q = wc := ⟨_, rfl⟩
          rw [← hw3] at HQ3 ⊢
          clear hw3 HQ HQ2 HWR HWW za ca
          by_cases hc : 0 < k ∧ a < out.getD (k - 1) 0
          · rw [decide_eq_true hc]
            obtain ⟨r, hr⟩ : ∃ r, r + 1 = k := ⟨k - 1, by omega⟩
            have hkr : (k : Int) - 1 = (r : Int) := by omega
            have hwr : IntKind.i64.wrap (r : Int) = (r : Int) := wrap_sm _ (by omega)
            have HG2 := Lib.hid (show ∀ j, r ≤ j → j < m → a < out.getD j 0 from fun j h1 h2 => by
              by_cases e : j = r
              · have h3 := hc.2; rw [show k - 1 = r by omega] at h3; rw [e]; exact h3
              · exact HG.out j (by omega) h2)
            have hrm : r ≤ m := by omega
            clear HG hc
            go_wp2
            go_roundw
            case rel => exact ⟨r, by (first | rfl | go_num), hrm, HG2, HQ3⟩
            case measure => simp [intOf] <;> omega
          · rw [decide_eq_false hc]
            have HWR := Lib.hid (show Below wo.heap.size wo w3 from by obtain ⟨q, hq⟩ := HQ3.out; rw [hq]; exact below_drewN (Below.refl _ _) _)
            have HWW := Lib.hid (below_via HWR.out HW.out)
            obtain ⟨za, ca⟩ := HCA.out w3 HWW.out
            go_upto_region 8 with (fail)
            go_cut [44] (fun s wx => s = .bool (decide (0 < k ∧ out.getD (k - 1) 0 = a)) ∧ RowKit.Hid (∃ q, wx = w3.drewN q))
            case first =>
              by_cases hk : 0 < k
              · obtain ⟨r, hr⟩ : ∃ r, r + 1 = k := ⟨k - 1, by omega⟩
                have hk1 : k - 1 = r := by omega
                obtain ⟨go, oo, rfl, zo, hoc⟩ := (HRD.out.later HWR.out (Nat.le_refl _)) (by rw [← HM.out]; omega)
                have cb := hoc r (by rw [← HM.out]; omega)
                generalize hbq : out.getD r 0 = b at cb
                have HBQ := Lib.hid (show out.getD (k - 1) 0 = b from by rw [hk1]; exact hbq)
                clear hbq hk1
                have hk0 : (0 : Int) < (k : Int) := by omega
                have hkr : (k : Int) - 1 = (r : Int) := by omega
                have hwr : IntKind.i64.wrap (r : Int) = (r : Int) := wrap_sm _ (by omega)
                have hrm : (r : Int) < (m : Int) := by omega
                have hr0 : (0 : Int) ≤ (r : Int) := by omega
                clear hoc
                by_cases hab : b = a
                · have hbd : (b == a) = true := by simpa using hab
                  go_quiet (fail)
                  go_wp2
                  all_goals go_meet
                  all_goals exact ⟨by rw [HBQ.out]; simp [hab, hk], Lib.hid (by first | exact ⟨_, rfl⟩ | exact ⟨1, rfl⟩ | exact ⟨0, rfl⟩)⟩
                · have hbd : (b == a) = false := by simpa using hab
                  go_quiet (fail)
                  go_wp2
                  all_goals go_meet
                  all_goals exact ⟨by rw [HBQ.out]; simp [hab], Lib.hid (by first | exact ⟨_, rfl⟩ | exact ⟨1, rfl⟩ | exact ⟨0, rfl⟩)⟩
              · obtain rfl : k = 0 := by omega
                have hkd : decide ((0 : Int) < ((0 : Nat) : Int)) = false := by simp
                go_quiet (fail)
                go_wp2
                all_goals go_meet
                all_goals exact ⟨by simp, Lib.hid (by first | exact ⟨_, rfl⟩ | exact ⟨1, rfl⟩ | exact ⟨0, rfl⟩)⟩
            case rest =>
              obtain ⟨rfl, HQ2⟩ := hcut
              have HQ4 := Lib.hid (show Below wo.heap.size wo wc from by obtain ⟨q2, hq2⟩ := HQ2.out; rw [hq2]; exact below_drewN HWR.out _)
              obtain ⟨w4, hw4⟩ : ∃ q : World, q = wc := ⟨_, rfl⟩
              rw [← hw4] at HQ4 ⊢
              clear hw4 HQ3 HQ2 HWR HWW za ca
              have HO4 := Lib.hid (row_later HO.out HQ4.out)
              have HW4 := Lib.hid (below_via HQ4.out HW.out)
              by_cases hd : 0 < k ∧ out.getD (k - 1) 0 = a
              · rw [decide_eq_true hd]
                have HU2 := Lib.hid (show Up out ∧ ∀ x, x ∈ out ↔ x ∈ l.take (i + 1) from ⟨HU.out.1, fun x => by
                  rw [HTK.out, ← HU.out.2]
                  refine ⟨.inl, fun h => h.elim id fun h => ?_⟩
                  rw [h, ← hd.2]
                  exact memD (by rw [← HM.out]; omega)⟩)
                clear hd hc HG HU
                go_wp2
                go_roundw
                case rel => exact ⟨i + 1, out, by go_num, by omega, by rw [← HM.out]; omega, HU2, (by rw [← HM.out]; exact HO4), HW4⟩
                case measure => simp [intOf] <;> omega
              · rw [decide_eq_false hd]
                have HL := Lib.hid (show ∀ j, j < k → out.getD j 0 < a from fun j hj => by
                  have h1 : out.getD (k - 1) 0 < a := by
                    have h2 : ¬ a < out.getD (k - 1) 0 := fun h => hc ⟨by omega, h⟩
                    have h3 : ¬ out.getD (k - 1) 0 = a := fun h => hd ⟨by omega, h⟩
                    omega
                  by_cases e : j = k - 1
                  · rw [e]; exact h1
                  · have := upD_lt2 HU.out.1 (i := j) (k := k - 1) (by omega) (by rw [← HM.out]; omega)
                    omega)
                clear hc hd
                have HOX := Lib.hid (row_later HO4.out (below_al (Below.refl w4.heap.size w4) (.cells #[.int .i64 0] 3)))
                have hzw := HW4.out.size
                go_wp2_with (at_builtin; go_must (refine append_keep rfl (.tmp 45) (.tmp 46) 46 rfl w.heap.size 3 i0 (.int .i64 0) 1 8 Try.underlying46 HI0.out.1 HI0.out.2.1 HI0.out.2.2.1 HI0.out.2.2.2 rfl (by decide) _ m _ rfl HOX.out ⟨w4.heap.size, 0, none⟩ 1 1 [.int .i64 0] rfl rfl ?e0 ?e1 ?e2 ?e3 ?e4 ?_))
                (try case e0 => exact World.news_of_block (cs := #[.int .i64 0]) (t := 3) (fr := (0, 0)) (heap_alloc_new _ _))
                (try case e1 => first | exact rfl | (intro u hu; simp at hu; subst hu; rfl))
                (try case e2 => unfold maxLen; omega)
                (try case e3 => omega)
                (try case e4 => first | omega | (simp; omega))
                intro v6 w6 own6 gr6 loc6
                have HW6 := Lib.hid (show Below w.heap.size w w6 from Below.grown (below_al HW4.out _) gr6 (by simp; omega) (fun q hq => (row_lt HOX.out q hq).2))
                obtain ⟨xs, hxs⟩ : ∃ q, q = out ++ [0] := ⟨_, rfl⟩
                have hxl : xs.length = m + 1 := by rw [hxs, List.length_append, ← HM.out]; rfl
                have own7 : w6.ownsRow w.heap.size 3 1 v6 (m + 1) (vI xs) := by rw [hxs, vI_app]; exact own6
                obtain ⟨g, cap, rfl⟩ : ∃ g cap, v6 = .slice (some ⟨g, 0, none⟩) (m + 1) cap := by
                  rcases row_form own7 with ⟨_, h, _⟩ | ⟨g, c, h, _⟩
                  · omega
                  · exact ⟨g, c, h⟩
                have HX := Lib.hid (show xs.length = m + 1 ∧ (∀ t, t < m → xs.getD t 0 = out.getD t 0) ∧ ∀ t, m < t → t ≤ m → xs.getD t 0 = out.getD (t - 1) 0 from ⟨hxl, fun t ht => by rw [hxs, List.getD_eq_getElem?_getD, List.getElem?_append_left (by rw [← HM.out]; exact ht), List.getD_eq_getElem?_getD], fun t h1 h2 => by omega⟩)
                have HO7 := Lib.hid own7
                clear own6 own7 gr6 loc6 HOX hxs hxl HO4 HO HRD HQ4 hzw HW4
                obtain ⟨n1, hn1⟩ : ∃ q : Nat, q = m + 1 := ⟨_, rfl⟩
                rw [← hn1] at HO7 HX
                have HN1 := Lib.hid hn1
                have hmi : (n1 : Int) - 1 = (m : Int) := by omega
                have hwm : IntKind.i64.wrap (m : Int) = (m : Int) := wrap_sm _ (by omega)
                (try rw [← hn1])
                (try simp only [← hn1])
                go_wp2
                go_loopw [6] (fun jv wr => ∃ (j : Nat) (xs : List Int), jv = .int .i64 j ∧ k ≤ j ∧ j ≤ m ∧ RowKit.Hid (xs.length = n1 ∧ (∀ t, t < j → xs.getD t 0 = out.getD t 0) ∧ ∀ t, j < t → t ≤ m → xs.getD t 0 = out.getD (t - 1) 0) ∧ RowKit.Hid (wr.ownsRow w.heap.size 3 1 (.slice (some ⟨g, 0, none⟩) n1 cap) n1 (vI xs)) ∧ RowKit.Hid (Below w.heap.size w wr)) (fun jv _ => (intOf jv).toNat)
                case atStart => exact ⟨m, xs, rfl, hkm, Nat.le_refl _, HX, HO7, HW6⟩
                case round =>
                  clear HX HO7 HW6
                  obtain ⟨j, ys, rfl, hkj, hjm, HX, HO, HW⟩ := hrel
                  have hn1 := HN1.out
                  by_cases hjk : k < j
                  · have hjj : (k : Int) < (j : Int) := by omega
                    obtain ⟨r, hr⟩ : ∃ r, r + 1 = j := ⟨j - 1, by omega⟩
                    have hkr : (j : Int) - 1 = (r : Int) := by omega
                    have hwr : IntKind.i64.wrap (r : Int) = (r : Int) := wrap_sm _ (by omega)
                    have hrn : (r : Int) < (n1 : Int) := by omega
                    have hr0 : (0 : Int) ≤ (r : Int) := by omega
                    have hjn : (j : Int) < (n1 : Int) := by omega
                    have kr := row_cells HO.out r _ (vI_get (by rw [HX.out.1]; omega))
                    have kj := row_cells HO.out j _ (vI_get (by rw [HX.out.1]; omega))
                    rw [Nat.zero_add] at kr kj
                    have zg := (row_lt HO.out g rfl).1
                    have fz := HO.out.frozenAt j
                    obtain ⟨b, hb⟩ : ∃ b, b = ys.getD r 0 := ⟨_, rfl⟩
                    rw [← hb] at kr
                    have HXN := Lib.hid (show (ys.set j b).length = n1 ∧ (∀ t, t < r → (ys.set j b).getD t 0 = out.getD t 0) ∧ ∀ t, r < t → t ≤ m → (ys.set j b).getD t 0 = out.getD (t - 1) 0 from by
                      obtain ⟨x1, x2, x3⟩ := HX.out
                      refine ⟨by rw [List.length_set]; exact x1, fun t ht => ?_, fun t h1 h2 => ?_⟩
                      · rw [setD _ _ _ _ (by omega), if_neg (by omega)]; exact x2 t (by omega)
                      · rw [setD _ _ _ _ (by omega)]
                        by_cases e : j = t
                        · rw [if_pos e, hb, x2 r (by omega)]; congr 1; omega
                        · rw [if_neg e]; exact x3 t (by omega) h2)
                    have HON := Lib.hid (show (wr.setCell ⟨g, j, none⟩ (.int .i64 b)).ownsRow w.heap.size 3 1 (.slice (some ⟨g, 0, none⟩) n1 cap) n1 (vI (ys.set j b)) from by rw [vI_set]; exact (HO.out.stored j (.int .i64 b)).1)
                    have HWN := Lib.hid (show Below w.heap.size w (wr.setCell ⟨g, j, none⟩ (.int .i64 b)) from HW.out.setCell (p := ⟨g, j, none⟩) (row_lt HO.out g rfl).2 _)
                    clear HX HO HW hb
                    go_wp2
                    go_roundw
                    case rel => exact ⟨r, _, by (first | rfl | go_num), by omega, by omega, HXN, HON, HWN⟩
                    case measure => simp [intOf] <;> omega
                  · have hjj : ¬ (k : Int) < (j : Int) := by omega
                    obtain rfl : j = k := by omega
                    have hjn : (j : Int) < (n1 : Int) := by omega
                    have kj := row_cells HO.out j _ (vI_get (by rw [HX.out.1]; omega))
                    rw [Nat.zero_add] at kj
                    have zg := (row_lt HO.out g rfl).1
                    have fz := HO.out.frozenAt j
                    obtain ⟨za, ca⟩ := HCA.out wr HW.out
                    have HUN := Lib.hid (show Up (ys.set j a) ∧ ∀ x, x ∈ ys.set j a ↔ x ∈ l.take (i + 1) from by
                      obtain ⟨x1, x2, x3⟩ := HX.out
                      obtain ⟨u1, u2⟩ := put_in (R := ys.set j a) (a := a) (k := j) HU.out.1 (by rw [← HM.out]; exact hkm) (by rw [List.length_set, x1, hn1, HM.out]) (fun t ht => by rw [setD _ _ _ _ (by omega), if_neg (by omega)]; exact x2 t ht) (by rw [setD _ _ _ _ (by omega), if_pos rfl]) (fun t h1 h2 => by rw [setD _ _ _ _ (by omega), if_neg (by omega)]; exact x3 t h1 (by rw [HM.out]; exact h2)) HL.out (fun q h1 h2 => HG.out q h1 (by rw [HM.out]; exact h2))
                      exact ⟨u1, fun x => by rw [u2, HTK.out, HU.out.2]⟩)
                    have HON := Lib.hid (show (wr.setCell ⟨g, j, none⟩ (.int .i64 a)).ownsRow w.heap.size 3 1 (.slice (some ⟨g, 0, none⟩) n1 cap) (ys.set j a).length (vI (ys.set j a)) from by rw [vI_set, List.length_set, HX.out.1]; exact (HO.out.stored j (.int .i64 a)).1)
                    have HWN := Lib.hid (show Below w.heap.size w (wr.setCell ⟨g, j, none⟩ (.int .i64 a)) from HW.out.setCell (p := ⟨g, j, none⟩) (row_lt HO.out g rfl).2 _)
                    have hyl : (ys.set j a).length ≤ i + 1 := by rw [List.length_set, HX.out.1]; omega
                    clear HX HO HW HU HTK HL HG
                    go_wp2
                    go_roundw
                    case rel => exact ⟨i + 1, _, by go_num, by omega, hyl, HUN, HON, HWN⟩
                    case measure => simp [intOf] <;> omega
    · have hii : ¬ (i : Int) < (n : Int) := by omega
      obtain rfl : n = i := by omega
      have hR : out = srtU l := up_uniq HU.out.1 (srtU_up l) fun x => by rw [HU.out.2, srtU_mem, List.take_of_length_le (by rw [← HN.out]; exact Nat.le_refl _)]
      rw [hR] at HO
      clear hR HU
      go_wp2
      go_ret
      exact ⟨_, rfl, HO.out, HW.out⟩
end Go.Proofs.Ytekcheccelllcaa
namespace Go.Proofs.Ytekcheccelllcaa
open Go.RowKit
set_option linter.unusedVariables false
set_option linter.unusedSimpArgs false

theorem clipJ_lenq : ∀ (l out : List (Int × Int)) (s : Int × Int), (clipJ out l s).length ≤ out.length + l.length
  | [], out, s => by rw [clipJ]; simp
  | p :: l, out, s => by
    rw [clipJ]
    have h1 := clipJ_lenq l (putS out (max p.1 s.1) (min p.2 s.2)) s
    have h2 := putS_len out (max p.1 s.1) (min p.2 s.2)
    rw [List.length_cons]; omega
theorem cutJ_lenq : ∀ (l out : List (Int × Int)) (s : Int × Int), (cutJ out l s).length ≤ out.length + 2 * l.length
  | [], out, s => by rw [cutJ]; simp
  | p :: l, out, s => by
    rw [cutJ]
    have h1 := cutJ_lenq l (putS (putS out p.1 (min p.2 s.1)) (max p.1 s.2) p.2) s
    have h2 := putS_len out p.1 (min p.2 s.1)
    have h3 := putS_len (putS out p.1 (min p.2 s.1)) (max p.1 s.2) p.2
    rw [List.length_cons]; omega
theorem addJ3_lenq : ∀ (l out : List (Int × Int)), (addJ3 out l).length ≤ out.length + l.length
  | [], out => by rw [addJ3]; simp
  | p :: l, out => by
    rw [addJ3]
    have h1 := addJ3_lenq l (putS out p.1 p.2)
    have h2 := putS_len out p.1 p.2
    rw [List.length_cons]; omega
theorem addJ2_lenq : ∀ (l out : List (Int × Int)) (s : Int × Int), (addJ2 out l s).length ≤ out.length + l.length + 1
  | [], out, s => by rw [addJ2]; have := putS_len out s.1 s.2; simp; omega
  | p :: l, out, s => by
    rw [addJ2]
    split
    · have := addJ2_lenq l out (min s.1 p.1, max s.2 p.2)
      rw [List.length_cons]; omega
    · have h1 := addJ3_lenq (p :: l) (putS out s.1 s.2)
      have h2 := putS_len out s.1 s.2
      omega
theorem addJ1_lenq : ∀ (l out : List (Int × Int)) (s : Int × Int), (addJ1 out l s).length ≤ out.length + l.length + 1
  | [], out, s => by rw [addJ1]; have := addJ2_lenq [] out s; simpa using this
  | p :: l, out, s => by
    rw [addJ1]
    split
    · have h1 := addJ1_lenq l (putS out p.1 p.2) s
      have h2 := putS_len out p.1 p.2
      rw [List.length_cons]; omega
    · exact addJ2_lenq (p :: l) out s
theorem joinR_lenq (d : Nat) (l : List (Int × Int)) (s : Int × Int) : (joinR d l s).length ≤ 2 * l.length + 1 := by
  unfold joinR
  split
  · have := clipJ_lenq l [] s; simp at this; omega
  · split
    · have := cutJ_lenq l [] s; simp at this; omega
    · have := addJ1_lenq l [] s; simp at this; omega
theorem refRow_cnt (L : List R4) (y : Int) : (refRow L y).length ≤ L.length := by
  unfold refRow; rw [List.length_map]; exact List.length_filter_le _ _
theorem nextR_lenq (d : Nat) (L : List R4) (b : Bx) (y : Int) : (nextR d L b y).length ≤ 2 * L.length + 1 := by
  have h := refRow_cnt L y
  have key : ∀ s : Int × Int, (if s.1 < s.2 ∨ d = 3 then joinR d (refRow L y) s else refRow L y).length ≤ 2 * L.length + 1 := fun s => by
    split
    · have := joinR_lenq d (refRow L y) s; omega
    · omega
  exact key _
theorem prs_inq : ∀ (l : List Int) (p : Int × Int), p ∈ prs l → p.1 ∈ l ∧ p.2 ∈ l
  | [], p, h => by cases h
  | [a], p, h => by cases h
  | a :: b :: l, p, h => by
    rw [prs] at h
    rcases List.mem_cons.1 h with rfl | h
    · simp
    · have := prs_inq l p h; simp [this.1, this.2]
/-- numbers of the plane -/
def InP (x : Int) : Prop := -1048576 ≤ x ∧ x ≤ 1048576
theorem next_inP (d : Nat) {bs : List Bd} {b : Bx} (h : RegOk bs) (hb : BxOk b) (hi : BxIn b) (y : Int) : ∀ p ∈ nextR d (rctsB bs) b y, InP p.1 ∧ InP p.2 := by
  intro p hp
  rw [nextR_is d h.can hb] at hp
  obtain ⟨h1, h2⟩ := prs_inq _ _ hp
  have key : ∀ x ∈ fRow (opD d) bs b y, InP x := fRow_in (opD d) h.pl hi y
  exact ⟨key _ h1, key _ h2⟩
theorem ys_inP {bs : List Bd} {b : Bx} (h : RegOk bs) (hi : BxIn b) {x : Int} (hx : x ∈ srtU (ysOf bs b.y0 b.y1)) : InP x := by
  exact ysOf_in h.pl hi x ((srtU_mem _ x).1 hx)
/-- rectangles that begin at one row are as tall -/
theorem same_h {bs : List Bd} (h : Can bs) {r q : R4} (hr : r ∈ rctsB bs) (hq : q ∈ rctsB bs) (e : r.y = q.y) : r.h = q.h := by
  obtain ⟨b, hb, hr⟩ := List.mem_flatMap.1 hr
  obtain ⟨c, hc, hq⟩ := List.mem_flatMap.1 hq
  obtain ⟨p, _, rfl⟩ := List.mem_map.1 hr
  obtain ⟨p2, _, rfl⟩ := List.mem_map.1 hq
  simp only at e ⊢
  have key : ∀ {bs : List Bd}, Can bs → ∀ b ∈ bs, ∀ c ∈ bs, b.y0 = c.y0 → b = c := by
    intro bs
    induction bs with
    | nil => intro _ b hb; cases hb
    | cons a bs ih =>
      intro h b hb c hc e
      have hlt := h.lt
      have hy := h.1.yy
      rcases List.mem_cons.1 hb with h1 | hb <;> rcases List.mem_cons.1 hc with h2 | hc
      · rw [h1, h2]
      · have := hlt c hc; rw [h1] at e; omega
      · have := hlt b hb; rw [h2] at e; omega
      · exact ih h.2.2 b hb c hc e
  rw [key h b hb c hc e]
/-- the bounds of the bands are those of the rectangles -/
theorem ys_rects {bs : List Bd} (h : Can bs) (y0 y1 : Int) {Y : List Int} (hY : ∀ x, x ∈ Y ↔ x = y0 ∨ x = y1 ∨ ∃ j, j < (rctsB bs).length ∧ (x = ((rctsB bs).getD j zR).y ∨ x = ((rctsB bs).getD j zR).y + ((rctsB bs).getD j zR).h)) : srtU Y = srtU (ysOf bs y0 y1) := by
  refine up_uniq (srtU_up _) (srtU_up _) fun x => ?_
  rw [srtU_mem, srtU_mem, hY, ysOf_mem]
  refine or_congr Iff.rfl (or_congr Iff.rfl ?_)
  constructor
  · rintro ⟨j, hj, e⟩
    have hm : (rctsB bs).getD j zR ∈ rctsB bs := by rw [List.getD_eq_getElem?_getD, List.getElem?_eq_getElem hj]; exact List.getElem_mem hj
    obtain ⟨b, hb, hr⟩ := List.mem_flatMap.1 hm
    obtain ⟨p, _, hp⟩ := List.mem_map.1 hr
    refine ⟨b, hb, ?_⟩
    rw [← hp] at e
    simp only at e
    rcases e with e | e
    · exact .inl e
    · exact .inr (by omega)
  · rintro ⟨b, hb, e⟩
    have hk := h.ok b hb
    have hl : 0 < (prs b.es).length := by
      rw [prs_len]
      have h1 := hk.ok.2
      have h2 := List.length_pos_iff.2 hk.ne
      omega
    obtain ⟨p, hp⟩ : ∃ p, p ∈ prs b.es := ⟨_, List.getElem_mem hl⟩
    have hm : (⟨p.1, b.y0, p.2 - p.1, b.y1 - b.y0⟩ : R4) ∈ rctsB bs := List.mem_flatMap.2 ⟨b, hb, List.mem_map.2 ⟨p, hp, rfl⟩⟩
    obtain ⟨j, hj, he⟩ := List.getElem_of_mem hm
    refine ⟨j, hj, ?_⟩
    rw [List.getD_eq_getElem?_getD, List.getElem?_eq_getElem hj, Option.getD_some, he]
    simp only
    rcases e with e | e
    · exact .inl e
    · exact .inr (by omega)
theorem refL_step (nx : Int → List (Int × Int)) (y : Int) (rest : List Int) (O : List R4) (top : Int) (N : List (Int × Int)) : refL nx (y :: rest) O top N = if N = (if rest = [] then [] else nx y) then refL nx rest O top N else refL nx rest (O ++ rectSp top y N) y (if rest = [] then [] else nx y) := by
  cases rest with
  | nil => simp only [if_true, refL]
  | cons z rest => rw [refL]; simp only [if_neg (List.cons_ne_nil z rest)]
theorem rectSp_take (top y : Int) (N : List (Int × Int)) (k : Nat) (h : k < N.length) : rectSp top y (N.take (k + 1)) = rectSp top y (N.take k) ++ [⟨(N.getD k (0, 0)).1, top, (N.getD k (0, 0)).2 - (N.getD k (0, 0)).1, y - top⟩] := by
  unfold rectSp
  rw [List.take_succ_eq_append_getElem h, List.map_append, List.getD_eq_getElem?_getD, List.getElem?_eq_getElem h]
  rfl
theorem rectSp_len (top y : Int) (N : List (Int × Int)) : (rectSp top y N).length = N.length := by unfold rectSp; rw [List.length_map]
end Go.Proofs.Ytekcheccelllcaa
