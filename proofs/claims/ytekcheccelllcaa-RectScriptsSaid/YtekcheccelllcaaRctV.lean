/- Lists of rectangles of the call's own; the walk of RectBound. -/
import Derived.Test.YtekcheccelllcaaRctU
import Derived.Laws.AppendOwnNone
namespace Go.Proofs.Ytekcheccelllcaa
open Go.RowKit
set_option linter.unusedVariables false
set_option linter.unusedSimpArgs false

theorem cellsR_len (L : List R4) : (cellsR L).length = L.length * 4 := by
  induction L with
  | nil => rfl
  | cons r L ih => simp [cellsR] at ih ⊢; omega
theorem cellsR_at (L : List R4) (i : Nat) (h : i < L.length) : (cellsR L)[i * 4]? = some (.int .i64 (L.getD i zR).x) ∧ (cellsR L)[i * 4 + 1]? = some (.int .i64 (L.getD i zR).y) ∧ (cellsR L)[i * 4 + 2]? = some (.int .i64 (L.getD i zR).w) ∧ (cellsR L)[i * 4 + 3]? = some (.int .i64 (L.getD i zR).h) := by
  induction L generalizing i with
  | nil => simp at h
  | cons r L ih =>
    have e : cellsR (r :: L) = .int .i64 r.x :: .int .i64 r.y :: .int .i64 r.w :: .int .i64 r.h :: cellsR L := by simp [cellsR]
    rw [e]
    cases i with
    | zero => simp
    | succ i =>
      have := ih i (by simpa using h)
      rw [show (i + 1) * 4 = i * 4 + 1 + 1 + 1 + 1 by omega]
      simpa using this
theorem cellsR_one (L : List R4) : ∀ u ∈ cellsR L, u.oneCell' = true := by
  intro u hu
  simp [cellsR] at hu
  obtain ⟨r, _, rfl | rfl | rfl | rfl⟩ := hu <;> rfl
theorem cellsR_append (L M : List R4) : cellsR (L ++ M) = cellsR L ++ cellsR M := by simp [cellsR]
/-- what an address holds, read as append reads its source -/
theorem SlAt.news {w : World} {ad : Addr} {L : List R4} (h : SlAt w (some ad) L) : ∀ j u, (cellsR L)[j]? = some u → w.cell? (ad.add j) = some u := by
  intro j u hj
  have hlt : j < (cellsR L).length := by
    rcases Nat.lt_or_ge j (cellsR L).length with h' | h'
    · exact h'
    · rw [List.getElem?_eq_none h'] at hj; cases hj
  rw [cellsR_len] at hlt
  obtain ⟨b, off, hp, hb, hc⟩ := h (by omega)
  cases hp
  have hi : j / 4 < L.length := by omega
  obtain ⟨c0, c1, c2, c3⟩ := hc (j / 4) hi
  obtain ⟨d0, d1, d2, d3⟩ := cellsR_at L (j / 4) hi
  have ha : (⟨b, off, none⟩ : Addr).add j = ⟨b, off + j, none⟩ := by unfold Addr.add; split <;> simp_all
  rw [ha]
  rcases (show j = j / 4 * 4 ∨ j = j / 4 * 4 + 1 ∨ j = j / 4 * 4 + 2 ∨ j = j / 4 * 4 + 3 by omega) with e | e | e | e
  · rw [← e] at c0 d0; rw [hj] at d0; rw [c0]; exact d0.symm
  · rw [Nat.add_assoc, ← e] at c1; rw [← e] at d1; rw [hj] at d1; rw [c1]; exact d1.symm
  · rw [Nat.add_assoc, ← e] at c2; rw [← e] at d2; rw [hj] at d2; rw [c2]; exact d2.symm
  · rw [Nat.add_assoc, ← e] at c3; rw [← e] at d3; rw [hj] at d3; rw [c3]; exact d3.symm
/-- a list of the call's own, as a slice -/
theorem own_sl {w : World} {base : Nat} {v : Value} {L : List R4} {n : Nat} (h : w.ownsRow base 23 4 v n (cellsR L)) (hn : n = L.length) : ∃ p c, v = .slice p n c ∧ n ≤ c ∧ SlAt w p L ∧ (p = none → n = 0 ∧ c = 0) ∧ (n ≠ 0 → ∃ g, p = some ⟨g, 0, none⟩ ∧ base ≤ g ∧ g < w.heap.size) := by
  have hc := h.cells (g := v.ownBlock.getD 0)
  rcases h.2 with ⟨rfl, h0⟩ | ⟨g, cap, cur, rfl, hb, hg, hcap, _, hsz, _⟩
  · exact ⟨none, 0, by rw [h0], by omega, fun h => by omega, fun _ => ⟨h0, rfl⟩, fun h => by omega⟩
  · have hgs : g < w.heap.size := by
      rcases Nat.lt_or_ge g w.heap.size with h' | h'
      · exact h'
      · rw [Array.getElem?_eq_none h'] at hg; cases hg
    have hc := hc (by simp [Value.ownBlock])
    simp only [Value.ownBlock, Option.getD_some, addr_add] at hc
    refine ⟨some ⟨g, 0, none⟩, cap, rfl, hcap, fun _ => ⟨g, 0, rfl, hgs, fun i hi => ?_⟩, fun h => by (cases h), fun _ => ⟨g, rfl, hb, hgs⟩⟩
    obtain ⟨d0, d1, d2, d3⟩ := cellsR_at L i hi
    have hk := cellsR_len L
    refine ⟨?_, ?_, ?_, ?_⟩
    · rw [Nat.zero_add]; exact hc _ _ d0
    · rw [Nat.zero_add]; exact hc _ _ d1
    · rw [Nat.zero_add]; exact hc _ _ d2
    · rw [Nat.zero_add]; exact hc _ _ d3
theorem getD_left (L M : List R4) (i : Nat) (h : i < L.length) : (L ++ M).getD i zR = L.getD i zR := by
  simp [List.getD_eq_getElem?_getD, List.getElem?_append_left h]
theorem RectsAt.left {w : World} {b off : Nat} {L M : List R4} (h : RectsAt w b off (L ++ M)) : RectsAt w b off L := by
  intro i hi
  have := h i (by simp; omega)
  rwa [getD_left L M i hi] at this

theorem append_none {P : Program} {w : World} {ops : Array Oper} {rest : List Oper} {o : Oper} {a : Act} {Q : Exit → Act → World → Prop} (hgd : o.guard = none) (s x : Operand) (t : TypeId)
    (ho : o.op = .call { callee := .builtin .append, args := #[s, x], argTypes := #[t, t] })
    (base : Nat) (e : TypeId) (i : TypeInfo) (size : Nat) (ht : P.underlying t = some (.slice e)) (hi : P.info? e = some i)
    (v : Value) (n : Nat) (xs : List Value) (hs : a.eval s = v) (hown : w.ownsRow base e size v n xs) (hx : a.eval x = .slice none 0 0)
    (h : RowKit.Hid (wpList P ops Q rest (a.put o.dst v) w)) : wpList P ops Q (o :: rest) a w := wpList_append_own_none hgd s x t ho base e i size ht hi v n xs hs hown hx h.out

set_option maxHeartbeats 16000000 in
theorem RectBound_walk (p : Option Addr) (len cap : Nat) (L : List R4) (w : World) (hL : L.length = len) (hlen : len * 32 ≤ 140737488351232) (hp : SlAt w p L) (hnil : p = none → len = 0 ∧ cap = 0) (hr : ∀ r ∈ L, isR r) : Calls Try.prog 4 #[.slice p len cap] w fun e w' => e = .returned (.bool true) ∧ Below w.heap.size w w' := by
  have HC := Lib.hid hp
  have HR := Lib.hid hr
  have HL := Lib.hid hL
  have HN := Lib.hid hnil
  clear hp hr hL hnil
  obtain ⟨i0, hi, hz0, hz1, hz2⟩ := info_parts infoRect
  have own0 : w.ownsRow w.heap.size 23 4 (.slice none 0 0) 0 [] := ⟨rfl, .inl ⟨rfl, rfl⟩⟩
  go_enter Try.func4, Try.ntmps4
  rcases p with _ | ad
  · obtain ⟨rfl, rfl⟩ := HN.out rfl
    have eL := Lib.hid (List.eq_nil_of_length_eq_zero HL.out)
    go_wp2_with (at_builtin; go_must (refine append_none rfl (.tmp 8) (.tmp 9) 26 rfl w.heap.size 23 i0 4 Try.underlying26 hi _ _ _ rfl own0 rfl ?_))
    refine Lib.hid ?_
    go_wp2_with (at_builtin; go_must (refine wpList_append_own _ rfl (.tmp 11) (.tmp 14) 26 rfl w.heap.size 23 i0 (.agg #[.int .i64 0, .int .i64 0, .int .i64 0, .int .i64 0]) 4 32 Try.underlying26 hi hz0 hz1 hz2 rfl (by decide) _ _ _ rfl (own0.alloc _) ⟨w.heap.size, 0, none⟩ 2 2 (cellsR [⟨-71, 0, 1, 1⟩, ⟨-72, 0, 1, 1⟩]) rfl rfl ?c1 ?c2 ?c3 ?c4 ?c5 ?_))
    case c1 =>
      intro j u hj
      simp [cellsR] at hj
      match j, hj with
      | 0, hj => simp at hj; subst hj; simp [Addr.add, go_sem]
      | 1, hj => simp at hj; subst hj; simp [Addr.add, go_sem]
      | 2, hj => simp at hj; subst hj; simp [Addr.add, go_sem]
      | 3, hj => simp at hj; subst hj; simp [Addr.add, go_sem]
      | 4, hj => simp at hj; subst hj; simp [Addr.add, go_sem]
      | 5, hj => simp at hj; subst hj; simp [Addr.add, go_sem]
      | 6, hj => simp at hj; subst hj; simp [Addr.add, go_sem]
      | 7, hj => simp at hj; subst hj; simp [Addr.add, go_sem]
    case c2 => exact cellsR_one _
    case c3 => unfold maxLen; omega
    case c4 => omega
    case c5 => first | (simp; done) | (simp; omega)
    intro v2 w2 own2 gr2 _
    have B2 : Below w.heap.size w w2 := Below.grown (below_al (Below.refl _ _) _) gr2 (by simp) (fun k hk => by simp [Value.ownBlock] at hk)
    have own2' := Lib.hid (show w2.ownsRow w.heap.size 23 4 v2 (0 + 2) (cellsR (L ++ [⟨-71, 0, 1, 1⟩, ⟨-72, 0, 1, 1⟩])) by rw [eL.out]; exact own2)
    clear own2 gr2 eL
    have S2 := B2.size
    obtain ⟨p2, c2, rfl, hc2, sl2, _, hg2⟩ := own_sl own2'.out (by rw [List.length_append, HL.out]; rfl)
    obtain ⟨g, rfl, hbg, hgw⟩ := hg2 (by omega)
    have RA : RectsAt w2 g 0 (L ++ [⟨-71, 0, 1, 1⟩, ⟨-72, 0, 1, 1⟩]) := by
      obtain ⟨b, off, h1, _, h2⟩ := sl2 (by simp)
      cases h1
      exact h2
    have SK := Lib.hid (show SlAt w2 (some ⟨g, 0, none⟩) L from fun _ => ⟨g, 0, rfl, hgw, RA.left⟩)
    have X2 : w2.cell? ⟨g, 0 * 4, none⟩ = some (.int .i64 (-71)) ∧ w2.cell? ⟨g, (0 + 1) * 4, none⟩ = some (.int .i64 (-72)) := by
      constructor
      · have := (RA 0 (by simp [HL.out])).1
        simpa [List.getD_eq_getElem?_getD, List.getElem?_append_right, HL.out] using this
      · have := (RA (0 + 1) (by simp [HL.out])).1
        simpa [List.getD_eq_getElem?_getD, List.getElem?_append_right, HL.out] using this
    clear RA own2' sl2 hg2
    go_wp2_with fail
    refine (ref_Bound_any _ _ _ L _ HL.out (by omega) (HC.out.later B2) HR.out).mono ?_
    rintro e w3 ⟨rfl, hb3⟩
    have B3 : Below w.heap.size w w3 := below_via hb3 B2
    have G3 : Below w2.heap.size w2 w3 := below_via hb3 (Below.refl _ _)
    have S3 := B3.size
    have S3' := G3.size
    have X3 : g < w3.heap.size ∧ w3.cell? ⟨g, 0 * 4, none⟩ = some (.int .i64 (-71)) ∧ w3.cell? ⟨g, (0 + 1) * 4, none⟩ = some (.int .i64 (-72)) := by
      obtain ⟨hc, hf⟩ := bcell hb3
      have hz := hb3.size
      (try simp only [World.size_alloc, World.size_drew, World.size_setCell] at hz)
      (repeat' apply And.intro) <;> (first | omega | (rw [hc _ _ (by first | omega | (simp only [World.size_alloc, World.size_drew, World.size_setCell]; omega))]; first | (simp [go_sem, X2]; done) | (simp [*]; done)) | (rw [hf _ _ (by first | omega | (simp only [World.size_alloc, World.size_drew, World.size_setCell]; omega))]; first | (simp [go_sem, X2]; done) | (simp [*]; done)))
    clear hb3 X2
    go_wp2_with fail
    refine (rect_Bound_any _ _ _ L _ HL.out (by omega) (SK.out.later (by go_grown)) HR.out).mono ?_
    rintro e w4 ⟨rfl, hb4⟩
    have B4 : Below w.heap.size w w4 := below_via hb4 (by go_grown)
    have G4 : Below w2.heap.size w2 w4 := below_via hb4 (by go_grown)
    have S4 := B4.size
    have S4' := G4.size
    have X4 : g < w4.heap.size ∧ w3.heap.size < w4.heap.size ∧ w4.cell? ⟨g, 0 * 4, none⟩ = some (.int .i64 (-71)) ∧ w4.cell? ⟨g, (0 + 1) * 4, none⟩ = some (.int .i64 (-72)) ∧ w4.cell? ⟨w3.heap.size, 0, none⟩ = some (.int .i64 (boundR L).x) ∧ w4.cell? ⟨w3.heap.size, 1, none⟩ = some (.int .i64 (boundR L).y) ∧ w4.cell? ⟨w3.heap.size, 2, none⟩ = some (.int .i64 (boundR L).w) ∧ w4.cell? ⟨w3.heap.size, 3, none⟩ = some (.int .i64 (boundR L).h) := by
      obtain ⟨hc, hf⟩ := bcell hb4
      have hz := hb4.size
      (try simp only [World.size_alloc, World.size_drew, World.size_setCell] at hz)
      (repeat' apply And.intro) <;> (first | omega | (rw [hc _ _ (by first | omega | (simp only [World.size_alloc, World.size_drew, World.size_setCell]; omega))]; first | (simp [go_sem, X3]; done) | (simp [*]; done)) | (rw [hf _ _ (by first | omega | (simp only [World.size_alloc, World.size_drew, World.size_setCell]; omega))]; first | (simp [go_sem, X3]; done) | (simp [*]; done)))
    clear hb4 X3
    go_wp2_with fail
    refine (rect_Bound_any _ _ _ L _ HL.out (by omega) (SK.out.later (by go_grown)) HR.out).mono ?_
    rintro e w5 ⟨rfl, hb5⟩
    have B5 : Below w.heap.size w w5 := below_via hb5 (by go_grown)
    have G5 : Below w2.heap.size w2 w5 := below_via hb5 (by go_grown)
    have S5 := B5.size
    have S5' := G5.size
    have X5 : g < w5.heap.size ∧ w3.heap.size < w5.heap.size ∧ w4.heap.size < w5.heap.size ∧ w5.cell? ⟨g, 0 * 4, none⟩ = some (.int .i64 (-71)) ∧ w5.cell? ⟨g, (0 + 1) * 4, none⟩ = some (.int .i64 (-72)) ∧ w5.cell? ⟨w3.heap.size, 0, none⟩ = some (.int .i64 (boundR L).x) ∧ w5.cell? ⟨w3.heap.size, 1, none⟩ = some (.int .i64 (boundR L).y) ∧ w5.cell? ⟨w3.heap.size, 2, none⟩ = some (.int .i64 (boundR L).w) ∧ w5.cell? ⟨w3.heap.size, 3, none⟩ = some (.int .i64 (boundR L).h) ∧ w5.cell? ⟨w4.heap.size, 0, none⟩ = some (.int .i64 (boundR L).x) ∧ w5.cell? ⟨w4.heap.size, 1, none⟩ = some (.int .i64 (boundR L).y) ∧ w5.cell? ⟨w4.heap.size, 2, none⟩ = some (.int .i64 (boundR L).w) ∧ w5.cell? ⟨w4.heap.size, 3, none⟩ = some (.int .i64 (boundR L).h) := by
      obtain ⟨hc, hf⟩ := bcell hb5
      have hz := hb5.size
      (try simp only [World.size_alloc, World.size_drew, World.size_setCell] at hz)
      (repeat' apply And.intro) <;> (first | omega | (rw [hc _ _ (by first | omega | (simp only [World.size_alloc, World.size_drew, World.size_setCell]; omega))]; first | (simp [go_sem, X4]; done) | (simp [*]; done)) | (rw [hf _ _ (by first | omega | (simp only [World.size_alloc, World.size_drew, World.size_setCell]; omega))]; first | (simp [go_sem, X4]; done) | (simp [*]; done)))
    clear hb5 X4
    go_wp2_with fail
    refine (ref_Same_any _ _ _ _ _ _ L L _ HL.out HL.out (by omega) (SK.out.later (by go_grown)) (HC.out.later (by go_grown))).mono ?_
    rintro e w6 ⟨b6, rfl, hs6, hb6⟩
    obtain rfl : b6 = true := hs6.2 rfl
    clear hs6
    have B6 : Below w.heap.size w w6 := below_via hb6 (by go_grown)
    have S6 := B6.size
    have X6 : g < w6.heap.size ∧ w6.cell? ⟨g, 0 * 4, none⟩ = some (.int .i64 (-71)) ∧ w6.cell? ⟨g, (0 + 1) * 4, none⟩ = some (.int .i64 (-72)) := by
      obtain ⟨hc, hf⟩ := bcell hb6
      have hz := hb6.size
      (try simp only [World.size_alloc, World.size_drew, World.size_setCell] at hz)
      (repeat' apply And.intro) <;> (first | omega | (rw [hc _ _ (by first | omega | (simp only [World.size_alloc, World.size_drew, World.size_setCell]; omega))]; first | (simp [go_sem, X5]; done) | (simp [*]; done)) | (rw [hf _ _ (by first | omega | (simp only [World.size_alloc, World.size_drew, World.size_setCell]; omega))]; first | (simp [go_sem, X5]; done) | (simp [*]; done)))
    clear hb6 X5
    go_wp2_with fail
    refine (wakes_any _).mono ?_
    rintro e w7 ⟨rfl, hb7⟩
    go_wp2
    go_ret
    exact ⟨rfl, below_via hb7 B6⟩
  · go_wp2_with (at_builtin; go_must (refine wpList_append_own _ rfl (.tmp 8) (.tmp 9) 26 rfl w.heap.size 23 i0 (.agg #[.int .i64 0, .int .i64 0, .int .i64 0, .int .i64 0]) 4 32 Try.underlying26 hi hz0 hz1 hz2 rfl (by decide) _ _ _ rfl own0 ad len cap (cellsR L) rfl (by rw [cellsR_len, HL.out]) HC.out.news (cellsR_one L) (by unfold maxLen; omega) (by omega) (Nat.le_refl _) ?_))
    intro v1 w1 own1 gr1 _
    have B1 : Below w.heap.size w w1 := Below.grown (Below.refl _ _) gr1 (Nat.le_refl _) (fun k hk => by simp [Value.ownBlock] at hk)
    have S1 := B1.size
    have own1' := Lib.hid (show w1.ownsRow w.heap.size 23 4 v1 len (cellsR L) by simpa using own1)
    clear own1 gr1
    go_wp2_with (at_builtin; go_must (refine wpList_append_own _ rfl (.tmp 11) (.tmp 14) 26 rfl w.heap.size 23 i0 (.agg #[.int .i64 0, .int .i64 0, .int .i64 0, .int .i64 0]) 4 32 Try.underlying26 hi hz0 hz1 hz2 rfl (by decide) _ _ _ rfl (own1'.out.alloc _) ⟨w1.heap.size, 0, none⟩ 2 2 (cellsR [⟨-71, 0, 1, 1⟩, ⟨-72, 0, 1, 1⟩]) rfl rfl ?c1 ?c2 ?c3 ?c4 ?c5 ?_))
    case c1 =>
      intro j u hj
      simp [cellsR] at hj
      match j, hj with
      | 0, hj => simp at hj; subst hj; simp [Addr.add, go_sem]
      | 1, hj => simp at hj; subst hj; simp [Addr.add, go_sem]
      | 2, hj => simp at hj; subst hj; simp [Addr.add, go_sem]
      | 3, hj => simp at hj; subst hj; simp [Addr.add, go_sem]
      | 4, hj => simp at hj; subst hj; simp [Addr.add, go_sem]
      | 5, hj => simp at hj; subst hj; simp [Addr.add, go_sem]
      | 6, hj => simp at hj; subst hj; simp [Addr.add, go_sem]
      | 7, hj => simp at hj; subst hj; simp [Addr.add, go_sem]
    case c2 => exact cellsR_one _
    case c3 => unfold maxLen; omega
    case c4 => omega
    case c5 => first | (simp; done) | (simp; omega)
    intro v2 w2 own2 gr2 _
    have B2 : Below w.heap.size w w2 := Below.grown (below_al B1 _) gr2 (by simp; omega) (fun k hk => by have := (own1'.out.lt k hk).1; omega)
    have own2' := Lib.hid (show w2.ownsRow w.heap.size 23 4 v2 (len + 2) (cellsR (L ++ [⟨-71, 0, 1, 1⟩, ⟨-72, 0, 1, 1⟩])) by rw [cellsR_append]; exact own2)
    clear own2 gr2 own1'
    have S2 := B2.size
    obtain ⟨p2, c2, rfl, hc2, sl2, _, hg2⟩ := own_sl own2'.out (by rw [List.length_append, HL.out]; rfl)
    obtain ⟨g, rfl, hbg, hgw⟩ := hg2 (by omega)
    have RA : RectsAt w2 g 0 (L ++ [⟨-71, 0, 1, 1⟩, ⟨-72, 0, 1, 1⟩]) := by
      obtain ⟨b, off, h1, _, h2⟩ := sl2 (by simp)
      cases h1
      exact h2
    have SK := Lib.hid (show SlAt w2 (some ⟨g, 0, none⟩) L from fun _ => ⟨g, 0, rfl, hgw, RA.left⟩)
    have X2 : w2.cell? ⟨g, len * 4, none⟩ = some (.int .i64 (-71)) ∧ w2.cell? ⟨g, (len + 1) * 4, none⟩ = some (.int .i64 (-72)) := by
      constructor
      · have := (RA len (by simp [HL.out])).1
        simpa [List.getD_eq_getElem?_getD, List.getElem?_append_right, HL.out] using this
      · have := (RA (len + 1) (by simp [HL.out])).1
        simpa [List.getD_eq_getElem?_getD, List.getElem?_append_right, HL.out] using this
    clear RA own2' sl2 hg2
    go_wp2_with fail
    refine (ref_Bound_any _ _ _ L _ HL.out (by omega) (HC.out.later B2) HR.out).mono ?_
    rintro e w3 ⟨rfl, hb3⟩
    have B3 : Below w.heap.size w w3 := below_via hb3 B2
    have G3 : Below w2.heap.size w2 w3 := below_via hb3 (Below.refl _ _)
    have S3 := B3.size
    have S3' := G3.size
    have X3 : g < w3.heap.size ∧ w3.cell? ⟨g, len * 4, none⟩ = some (.int .i64 (-71)) ∧ w3.cell? ⟨g, (len + 1) * 4, none⟩ = some (.int .i64 (-72)) := by
      obtain ⟨hc, hf⟩ := bcell hb3
      have hz := hb3.size
      (try simp only [World.size_alloc, World.size_drew, World.size_setCell] at hz)
      (repeat' apply And.intro) <;> (first | omega | (rw [hc _ _ (by first | omega | (simp only [World.size_alloc, World.size_drew, World.size_setCell]; omega))]; first | (simp [go_sem, X2]; done) | (simp [*]; done)) | (rw [hf _ _ (by first | omega | (simp only [World.size_alloc, World.size_drew, World.size_setCell]; omega))]; first | (simp [go_sem, X2]; done) | (simp [*]; done)))
    clear hb3 X2
    go_wp2_with fail
    refine (rect_Bound_any _ _ _ L _ HL.out (by omega) (SK.out.later (by go_grown)) HR.out).mono ?_
    rintro e w4 ⟨rfl, hb4⟩
    have B4 : Below w.heap.size w w4 := below_via hb4 (by go_grown)
    have G4 : Below w2.heap.size w2 w4 := below_via hb4 (by go_grown)
    have S4 := B4.size
    have S4' := G4.size
    have X4 : g < w4.heap.size ∧ w3.heap.size < w4.heap.size ∧ w4.cell? ⟨g, len * 4, none⟩ = some (.int .i64 (-71)) ∧ w4.cell? ⟨g, (len + 1) * 4, none⟩ = some (.int .i64 (-72)) ∧ w4.cell? ⟨w3.heap.size, 0, none⟩ = some (.int .i64 (boundR L).x) ∧ w4.cell? ⟨w3.heap.size, 1, none⟩ = some (.int .i64 (boundR L).y) ∧ w4.cell? ⟨w3.heap.size, 2, none⟩ = some (.int .i64 (boundR L).w) ∧ w4.cell? ⟨w3.heap.size, 3, none⟩ = some (.int .i64 (boundR L).h) := by
      obtain ⟨hc, hf⟩ := bcell hb4
      have hz := hb4.size
      (try simp only [World.size_alloc, World.size_drew, World.size_setCell] at hz)
      (repeat' apply And.intro) <;> (first | omega | (rw [hc _ _ (by first | omega | (simp only [World.size_alloc, World.size_drew, World.size_setCell]; omega))]; first | (simp [go_sem, X3]; done) | (simp [*]; done)) | (rw [hf _ _ (by first | omega | (simp only [World.size_alloc, World.size_drew, World.size_setCell]; omega))]; first | (simp [go_sem, X3]; done) | (simp [*]; done)))
    clear hb4 X3
    go_wp2_with fail
    refine (rect_Bound_any _ _ _ L _ HL.out (by omega) (SK.out.later (by go_grown)) HR.out).mono ?_
    rintro e w5 ⟨rfl, hb5⟩
    have B5 : Below w.heap.size w w5 := below_via hb5 (by go_grown)
    have G5 : Below w2.heap.size w2 w5 := below_via hb5 (by go_grown)
    have S5 := B5.size
    have S5' := G5.size
    have X5 : g < w5.heap.size ∧ w3.heap.size < w5.heap.size ∧ w4.heap.size < w5.heap.size ∧ w5.cell? ⟨g, len * 4, none⟩ = some (.int .i64 (-71)) ∧ w5.cell? ⟨g, (len + 1) * 4, none⟩ = some (.int .i64 (-72)) ∧ w5.cell? ⟨w3.heap.size, 0, none⟩ = some (.int .i64 (boundR L).x) ∧ w5.cell? ⟨w3.heap.size, 1, none⟩ = some (.int .i64 (boundR L).y) ∧ w5.cell? ⟨w3.heap.size, 2, none⟩ = some (.int .i64 (boundR L).w) ∧ w5.cell? ⟨w3.heap.size, 3, none⟩ = some (.int .i64 (boundR L).h) ∧ w5.cell? ⟨w4.heap.size, 0, none⟩ = some (.int .i64 (boundR L).x) ∧ w5.cell? ⟨w4.heap.size, 1, none⟩ = some (.int .i64 (boundR L).y) ∧ w5.cell? ⟨w4.heap.size, 2, none⟩ = some (.int .i64 (boundR L).w) ∧ w5.cell? ⟨w4.heap.size, 3, none⟩ = some (.int .i64 (boundR L).h) := by
      obtain ⟨hc, hf⟩ := bcell hb5
      have hz := hb5.size
      (try simp only [World.size_alloc, World.size_drew, World.size_setCell] at hz)
      (repeat' apply And.intro) <;> (first | omega | (rw [hc _ _ (by first | omega | (simp only [World.size_alloc, World.size_drew, World.size_setCell]; omega))]; first | (simp [go_sem, X4]; done) | (simp [*]; done)) | (rw [hf _ _ (by first | omega | (simp only [World.size_alloc, World.size_drew, World.size_setCell]; omega))]; first | (simp [go_sem, X4]; done) | (simp [*]; done)))
    clear hb5 X4
    go_wp2_with fail
    refine (ref_Same_any _ _ _ _ _ _ L L _ HL.out HL.out (by omega) (SK.out.later (by go_grown)) (HC.out.later (by go_grown))).mono ?_
    rintro e w6 ⟨b6, rfl, hs6, hb6⟩
    obtain rfl : b6 = true := hs6.2 rfl
    clear hs6
    have B6 : Below w.heap.size w w6 := below_via hb6 (by go_grown)
    have S6 := B6.size
    have X6 : g < w6.heap.size ∧ w6.cell? ⟨g, len * 4, none⟩ = some (.int .i64 (-71)) ∧ w6.cell? ⟨g, (len + 1) * 4, none⟩ = some (.int .i64 (-72)) := by
      obtain ⟨hc, hf⟩ := bcell hb6
      have hz := hb6.size
      (try simp only [World.size_alloc, World.size_drew, World.size_setCell] at hz)
      (repeat' apply And.intro) <;> (first | omega | (rw [hc _ _ (by first | omega | (simp only [World.size_alloc, World.size_drew, World.size_setCell]; omega))]; first | (simp [go_sem, X5]; done) | (simp [*]; done)) | (rw [hf _ _ (by first | omega | (simp only [World.size_alloc, World.size_drew, World.size_setCell]; omega))]; first | (simp [go_sem, X5]; done) | (simp [*]; done)))
    clear hb6 X5
    go_wp2_with fail
    refine (wakes_any _).mono ?_
    rintro e w7 ⟨rfl, hb7⟩
    go_wp2
    go_ret
    exact ⟨rfl, below_via hb7 B6⟩
end Go.Proofs.Ytekcheccelllcaa
