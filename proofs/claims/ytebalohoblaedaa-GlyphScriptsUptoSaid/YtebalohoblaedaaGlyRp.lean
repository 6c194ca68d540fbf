/- Layer 13: the reference's plan: its state, Line and Box. -/
import Derived.Test.YtebalohoblaedaaGlyOb
import Derived.Test.YtebalohoblaedaaGrtE
namespace Go.Proofs.Ytebalohoblaedaa
open Go.RowKit
set_option linter.unusedVariables false
set_option linter.unusedSimpArgs false

theorem infoLine_ : (Try.prog.info? 114).map (fun i => (i.zero, i.size, i.bytes)) = some (some (.agg #[.int .i64 0, .int .i64 0, .int .i64 0, .int .i64 0, .int .i8 0]), 5, 40) := by kernel_rfl
/-- a line with its ends in order -/
def nln (t : Ln) : Ln := ⟨min t.x0 t.x1, min t.y0 t.y1, max t.x0 t.x1, max t.y0 t.y1, t.k⟩
theorem con_nln (x y : Nat) (t : Ln) : con x y (nln t) = con x y t := by
  unfold con nln
  simp only [show min (min t.x0 t.x1) (max t.x0 t.x1) = min t.x0 t.x1 by omega, show max (min t.x0 t.x1) (max t.x0 t.x1) = max t.x0 t.x1 by omega, show min (min t.y0 t.y1) (max t.y0 t.y1) = min t.y0 t.y1 by omega, show max (min t.y0 t.y1) (max t.y0 t.y1) = max t.y0 t.y1 by omega]
def lnV (t : Ln) : List Value := [.int .i64 t.x0, .int .i64 t.y0, .int .i64 t.x1, .int .i64 t.y1, .int .i8 t.k]
def lnsV (ts : List Ln) : List Value := ts.flatMap lnV
theorem lnsV_app (s t : List Ln) : lnsV (s ++ t) = lnsV s ++ lnsV t := by unfold lnsV; rw [List.flatMap_append]
theorem lnsV_len (ts : List Ln) : (lnsV ts).length = ts.length * 5 := by
  induction ts with
  | nil => rfl
  | cons t ts ih => unfold lnsV at *; rw [List.flatMap_cons, List.length_append, ih, List.length_cons]; simp [lnV]; omega
theorem lnsV_at (ts : List Ln) (i : Nat) (hi : i < ts.length) (j : Nat) (hj : j < 5) : (lnsV ts)[i * 5 + j]? = (lnV (ts.getD i ⟨0, 0, 0, 0, 0⟩))[j]? := by
  induction ts generalizing i with
  | nil => simp at hi
  | cons t ts ih =>
    unfold lnsV at *
    rw [List.flatMap_cons]
    cases i with
    | zero => rw [List.getElem?_append_left (by simp [lnV]; omega)]; simp
    | succ i =>
      rw [List.getElem?_append_right (by simp [lnV]; omega)]
      have := ih i (by simpa using hi)
      simp only [lnV, List.length_cons, List.length_nil, List.getD_cons_succ]
      rw [show (i + 1) * 5 + j - (0 + 1 + 1 + 1 + 1 + 1) = i * 5 + j by omega]
      exact this
/-- the reference's plan in memory, with its lines; lv: the slice that it holds -/
structure RPl (base : Nat) (w : World) (g W H : Nat) (lv : Value) (ts : List Ln) : Prop where
  pl : w.heap[g]? = some (.cells #[.int .i64 (W : Int), .int .i64 (H : Int), lv] 87 (0, 0))
  own : w.ownsRow base 114 5 lv ts.length (lnsV ts)
  bg : base ≤ g
theorem RPl.ne {base : Nat} {w : World} {g W H : Nat} {lv : Value} {ts : List Ln} (h : RPl base w g W H lv ts) : lv.ownBlock ≠ some g := by
  intro e
  rcases h.own.2 with ⟨rfl, _⟩ | ⟨g', cap, cur, rfl, _, hh, _⟩
  · simp [Value.ownBlock] at e
  · simp only [Value.ownBlock, Option.some.injEq] at e
    subst e
    have := h.pl
    rw [hh] at this
    injection this with this
    injection this with _ ht
    exact absurd ht (by decide)
theorem RPl.cells {base : Nat} {w : World} {g W H : Nat} {lv : Value} {ts : List Ln} (h : RPl base w g W H lv ts) : g < w.heap.size ∧ w.cell? ⟨g, 0, none⟩ = some (.int .i64 (W : Int)) ∧ w.cell? ⟨g, 1, none⟩ = some (.int .i64 (H : Int)) ∧ w.cell? ⟨g, 2, none⟩ = some lv ∧ w.frozen? ⟨g, 2, none⟩ = false := by
  refine ⟨lt_of_block h.pl, ?_, ?_, ?_, ?_⟩ <;> simp [World.cell?, World.frozen?, h.pl]
theorem RPl.later {base : Nat} {w w' : World} {g W H : Nat} {lv : Value} {ts : List Ln} (h : RPl base w g W H lv ts) (hb : Below w.heap.size w w') : RPl base w' g W H lv ts := ⟨(hb.block _ (lt_of_block h.pl)).trans h.pl, row_later h.own hb, h.bg⟩
/-- what a world may have turned to: all blocks but those named, and new ones, stand -/
structure Chg (w w' : World) (S : Nat → Prop) : Prop where
  os : w'.os = w.os
  tape : w'.tape = w.tape
  output : w'.output = w.output
  size : w.heap.size ≤ w'.heap.size
  block : ∀ k, k < w.heap.size → ¬ S k → w'.heap[k]? = w.heap[k]?
theorem Chg.refl (w : World) (S : Nat → Prop) : Chg w w S := ⟨rfl, rfl, rfl, Nat.le_refl _, fun _ _ _ => rfl⟩
theorem Chg.of_below {w w' : World} (h : Below w.heap.size w w') (S : Nat → Prop) : Chg w w' S := ⟨h.os, h.tape, h.output, h.size, fun k hk _ => h.block k hk⟩
theorem Chg.of_grown {w w' : World} {row : Option Nat} (h : w.grownBy w' row) {S : Nat → Prop} (hS : ∀ k, row = some k → S k ∨ w.heap.size ≤ k) : Chg w w' S := ⟨h.os, h.tape, h.output, h.size, fun k hk hn => h.block k hk (fun e => (hS k e.symm).elim hn (fun h2 => absurd hk (by omega)))⟩
/-- one behind the other: what the second one turned was turned by the first one's leave, or new -/
theorem Chg.trans {w w1 w2 : World} {S T : Nat → Prop} (h : Chg w w1 S) (h2 : Chg w1 w2 T) (hT : ∀ k, T k → S k ∨ w.heap.size ≤ k) : Chg w w2 S :=
  ⟨h2.os.trans h.os, h2.tape.trans h.tape, h2.output.trans h.output, Nat.le_trans h.size h2.size, fun k hk hn => (h2.block k (Nat.lt_of_lt_of_le hk h.size) (fun ht => (hT k ht).elim hn (fun h3 => absurd hk (by omega)))).trans (h.block k hk hn)⟩
/-- the blocks of a plan of the reference's -/
def SR (g : Nat) (lv : Value) : Nat → Prop := fun k => k = g ∨ lv.ownBlock = some k
theorem row_ne_blk {w : World} {base : Nat} {t t' : TypeId} {k n g : Nat} {v : Value} {xs : List Value} {cs : Array Value} {fr : Nat × Nat} (h : w.ownsRow base t k v n xs) (hg : w.heap[g]? = some (.cells cs t' fr)) (hne : t ≠ t') : v.ownBlock ≠ some g := by
  intro e
  rcases h.2 with ⟨rfl, _⟩ | ⟨g', cap, cur, rfl, _, hh, _⟩
  · simp [Value.ownBlock] at e
  · simp only [Value.ownBlock, Option.some.injEq] at e
    subst e
    rw [hh] at hg
    injection hg with hg
    injection hg with _ ht
    exact hne ht
theorem rline_end {base g W H : Nat} {lv v4 : Value} {ts : List Ln} {w w4 : World} {o : Obj} {E : List Value} {t : Ln} (hg4 : w4.heap[g]? = some (.cells #[.int .i64 (W : Int), .int .i64 (H : Int), lv] 87 (0, 0))) (hp : RPl base w g W H lv ts) (own4 : w4.ownsRow base 114 5 v4 (ts.length + 1) (lnsV ts ++ E)) (gr4 : (w.alloc o).grownBy w4 lv.ownBlock) (pl4 : v4.ownBlock = lv.ownBlock ∨ ∃ b, v4.ownBlock = some b ∧ w.heap.size ≤ b) (hE : E = lnV t) :
    ∃ lv', RPl base (w4.setCell ⟨g, 2, none⟩ v4) g W H lv' (ts ++ [t]) ∧ Chg w (w4.setCell ⟨g, 2, none⟩ v4) (SR g lv) ∧ (lv'.ownBlock = lv.ownBlock ∨ ∃ b, lv'.ownBlock = some b ∧ w.heap.size ≤ b) := by
  have hs : w4.grownBy (w4.setCell ⟨g, 2, none⟩ v4) (some g) := only_setCell (only_refl w4 (some g)) (p := ⟨g, 2, none⟩) (.inl rfl) v4
  refine ⟨v4, ⟨?_, ?_, hp.bg⟩, ?_, ?_⟩
  · exact set_blk hg4 2 v4
  · rw [lnsV_app, List.length_append]
    refine World.ownsRow.kept (w := w4) ?_ hs (.inr (row_ne_blk own4 hg4 (by decide)))
    have : lnsV [t] = E := by rw [hE]; simp [lnsV]
    rw [this]
    exact own4
  · refine Chg.trans (Chg.trans (Chg.of_below (below_al (Below.refl w.heap.size w) o) (SR g lv)) (Chg.of_grown gr4 (S := SR g lv) (fun k hk => .inl (.inr hk))) (fun k hk => .inl hk)) (Chg.of_grown hs (S := SR g lv) (fun k hk => .inl (.inl (by injection hk with hk; exact hk.symm)))) (fun k hk => .inl hk)
  · exact pl4
set_option maxRecDepth 100000 in
set_option maxHeartbeats 8000000 in
theorem rline_ok (base g W H : Nat) (lv : Value) (ts : List Ln) (x0 y0 x1 y1 k : Int) (h : 0 ≤ k ∧ k ≤ 4 ∧ (x0 = x1 ∨ y0 = y1)) (w : World) (hp : RPl base w g W H lv ts) (hn : ts.length ≤ 1073741824) : Calls Try.prog 46 #[.pointer (some ⟨g, 0, none⟩), .int .i64 x0, .int .i64 y0, .int .i64 x1, .int .i64 y1, .int .i8 k] w fun e w' => e = .returned (.int .i64 0) ∧ ∃ lv', RPl base w' g W H lv' (ts ++ [nln ⟨x0, y0, x1, y1, k⟩]) ∧ Chg w w' (SR g lv) ∧ (lv'.ownBlock = lv.ownBlock ∨ ∃ b, lv'.ownBlock = some b ∧ w.heap.size ≤ b) := by
  obtain ⟨i0, hi, hz0, hz1, hz2⟩ := info_parts infoLine_
  have HI := Lib.hid (And.intro hi (And.intro hz0 (And.intro hz1 hz2)))
  clear hi hz0 hz1 hz2
  obtain ⟨zg, c0, c1, c2, fz⟩ := hp.cells
  have HP := Lib.hid hp
  obtain ⟨h1, h2, h3⟩ := h
  have n1 : ¬ k < 0 := by omega
  have n2 : ¬ 4 < k := by omega
  clear hp
  rcases (show x0 = x1 ∨ (x0 ≠ x1 ∧ y0 = y1) by omega) with rfl | ⟨n3, rfl⟩
  · go_enter Try.func46, Try.ntmps46
    go_wp2_with (at_builtin; go_must (refine append_keep rfl (.tmp 35) (.tmp 50) 85 rfl base 114 i0 _ 5 40 Try.underlying85 HI.out.1 HI.out.2.1 HI.out.2.2.1 HI.out.2.2.2 rfl (by decide) _ ts.length _ rfl (HP.out.own.alloc _) ⟨w.heap.size, 0, none⟩ 1 1 [.int .i64 x0, .int .i64 (min y0 y1), .int .i64 x0, .int .i64 (max y0 y1), .int .i8 k] rfl rfl ?b1 ?b2 ?b3 ?b4 ?b5 ?_))
    (try case b1 => exact World.news_of_block (cs := #[.int .i64 x0, .int .i64 (min y0 y1), .int .i64 x0, .int .i64 (max y0 y1), .int .i8 k]) (t := 114) (fr := (0, 0)) (heap_alloc_new _ _))
    case b2 => first | exact ⟨rfl, rfl, rfl, rfl, rfl⟩ | (intro u hu; simp only [List.mem_cons, List.not_mem_nil, or_false] at hu; rcases hu with rfl | rfl | rfl | rfl | rfl <;> rfl)
    case b3 => unfold maxLen; omega
    case b4 => omega
    case b5 => have := HP.out.bg; simp; omega
    intro v4 w4 own4 gr4 pl4
    obtain ⟨g5, c5, rfl⟩ : ∃ g c, v4 = .slice (some ⟨g, 0, none⟩) (ts.length + 1) c := by
      rcases row_form own4 with ⟨_, h, _⟩ | ⟨g, c, h, _⟩
      · omega
      · exact ⟨g, c, h⟩
    have hg4 : w4.heap[g]? = some (.cells #[.int .i64 (W : Int), .int .i64 (H : Int), lv] 87 (0, 0)) := by
      rw [gr4.block g (by simp; omega) (fun e => HP.out.ne e.symm)]
      exact (heap_alloc_old _ _ zg).trans HP.out.pl
    have zg4 : g < w4.heap.size := lt_of_block hg4
    have fz4 : w4.frozen? ⟨g, 2, none⟩ = false := by simp [World.frozen?, hg4]
    have d4 : w4.cell? ⟨g, 2, none⟩ = some lv := by simp [World.cell?, hg4]
    have HZ := Lib.hid (rline_end (t := nln ⟨x0, y0, x0, y1, k⟩) hg4 HP.out own4 gr4 (pl4.imp id fun h => ⟨_, h.1, by omega⟩) (by simp [lnV, nln]))
    clear own4 gr4 pl4 hg4 c0 c1 c2 fz zg
    go_wp2
    go_ret
    exact ⟨rfl, HZ.out⟩
  · go_enter Try.func46, Try.ntmps46
    go_wp2_with (at_builtin; go_must (refine append_keep rfl (.tmp 35) (.tmp 50) 85 rfl base 114 i0 _ 5 40 Try.underlying85 HI.out.1 HI.out.2.1 HI.out.2.2.1 HI.out.2.2.2 rfl (by decide) _ ts.length _ rfl (HP.out.own.alloc _) ⟨w.heap.size, 0, none⟩ 1 1 [.int .i64 (min x0 x1), .int .i64 y0, .int .i64 (max x0 x1), .int .i64 y0, .int .i8 k] rfl rfl ?d1 ?d2 ?d3 ?d4 ?d5 ?_))
    (try case d1 => exact World.news_of_block (cs := #[.int .i64 (min x0 x1), .int .i64 y0, .int .i64 (max x0 x1), .int .i64 y0, .int .i8 k]) (t := 114) (fr := (0, 0)) (heap_alloc_new _ _))
    case d2 => first | exact ⟨rfl, rfl, rfl, rfl, rfl⟩ | (intro u hu; simp only [List.mem_cons, List.not_mem_nil, or_false] at hu; rcases hu with rfl | rfl | rfl | rfl | rfl <;> rfl)
    case d3 => unfold maxLen; omega
    case d4 => omega
    case d5 => have := HP.out.bg; simp; omega
    intro v4 w4 own4 gr4 pl4
    obtain ⟨g5, c5, rfl⟩ : ∃ g c, v4 = .slice (some ⟨g, 0, none⟩) (ts.length + 1) c := by
      rcases row_form own4 with ⟨_, h, _⟩ | ⟨g, c, h, _⟩
      · omega
      · exact ⟨g, c, h⟩
    have hg4 : w4.heap[g]? = some (.cells #[.int .i64 (W : Int), .int .i64 (H : Int), lv] 87 (0, 0)) := by
      rw [gr4.block g (by simp; omega) (fun e => HP.out.ne e.symm)]
      exact (heap_alloc_old _ _ zg).trans HP.out.pl
    have zg4 : g < w4.heap.size := lt_of_block hg4
    have fz4 : w4.frozen? ⟨g, 2, none⟩ = false := by simp [World.frozen?, hg4]
    have d4 : w4.cell? ⟨g, 2, none⟩ = some lv := by simp [World.cell?, hg4]
    have HZ := Lib.hid (rline_end (t := nln ⟨x0, y0, x1, y0, k⟩) hg4 HP.out own4 gr4 (pl4.imp id fun h => ⟨_, h.1, by omega⟩) (by simp [lnV, nln]))
    clear own4 gr4 pl4 hg4 c0 c1 c2 fz zg
    go_wp2
    go_ret
    exact ⟨rfl, HZ.out⟩
/-- what a call on the reference's plan does -/
def RStep (base : Nat) (w w' : World) (g W H : Nat) (lv : Value) (ts ns : List Ln) : Prop := ∃ lv', RPl base w' g W H lv' (ts ++ ns.map nln) ∧ Chg w w' (SR g lv) ∧ (lv'.ownBlock = lv.ownBlock ∨ ∃ b, lv'.ownBlock = some b ∧ w.heap.size ≤ b)
theorem RStep.none {base : Nat} {w w' : World} {g W H : Nat} {lv : Value} {ts : List Ln} (hp : RPl base w g W H lv ts) (hb : Below w.heap.size w w') : RStep base w w' g W H lv ts [] := ⟨lv, by rw [List.map_nil, List.append_nil]; exact hp.later hb, Chg.of_below hb _, .inl rfl⟩
theorem RStep.trans {base : Nat} {w w1 w2 : World} {g W H : Nat} {lv lv1 : Value} {ts ns ms : List Ln} (h1 : RPl base w1 g W H lv1 (ts ++ ns.map nln)) (c1 : Chg w w1 (SR g lv)) (p1 : lv1.ownBlock = lv.ownBlock ∨ ∃ b, lv1.ownBlock = some b ∧ w.heap.size ≤ b) (h2 : RStep base w1 w2 g W H lv1 (ts ++ ns.map nln) ms) : RStep base w w2 g W H lv ts (ns ++ ms) := by
  obtain ⟨lv2, r2, c2, p2⟩ := h2
  refine ⟨lv2, by rw [List.map_append, ← List.append_assoc]; exact r2, c1.trans c2 (fun k hk => ?_), ?_⟩
  · rcases hk with rfl | hk
    · exact .inl (.inl rfl)
    · rcases p1 with e | ⟨b, e, hb⟩
      · exact .inl (.inr (e ▸ hk))
      · rw [e] at hk; injection hk with hk; exact .inr (by omega)
  · rcases p2 with e | ⟨b, e, hb⟩
    · rw [e]; exact p1
    · exact .inr ⟨b, e, Nat.le_trans c1.size hb⟩
/-- what Line tells -/
def lineV (x0 y0 x1 y1 k : Int) : Int := if lineOk x0 y0 x1 y1 k = true then 0 else 2
/-- what Box tells -/
def boxV (a b c d k : Int) : Int := if 0 ≤ k ∧ k ≤ 4 then (if okB a b c d = true then 0 else 160) else 2
set_option maxRecDepth 100000 in
theorem rline_gen (base g W H : Nat) (lv : Value) (ts : List Ln) (x0 y0 x1 y1 k : Int) (w : World) (hp : RPl base w g W H lv ts) (hn : ts.length ≤ 1073741824) : Calls Try.prog 46 #[.pointer (some ⟨g, 0, none⟩), .int .i64 x0, .int .i64 y0, .int .i64 x1, .int .i64 y1, .int .i8 k] w fun e w' => e = .returned (.int .i64 (lineV x0 y0 x1 y1 k)) ∧ RStep base w w' g W H lv ts (lnsL x0 y0 x1 y1 k) := by
  by_cases h : 0 ≤ k ∧ k ≤ 4 ∧ (x0 = x1 ∨ y0 = y1)
  · have e1 : lineOk x0 y0 x1 y1 k = true := by unfold lineOk; simpa using h
    have e2 : lnsL x0 y0 x1 y1 k = [⟨x0, y0, x1, y1, k⟩] := by unfold lnsL; rw [if_pos h]
    rw [show lineV x0 y0 x1 y1 k = 0 by unfold lineV; rw [e1]; rfl, e2]
    exact (rline_ok base g W H lv ts x0 y0 x1 y1 k h w hp hn).mono fun e w' h => h
  · have e1 : lineOk x0 y0 x1 y1 k = false := by unfold lineOk; simpa using h
    have e2 : lnsL x0 y0 x1 y1 k = [] := by unfold lnsL; rw [if_neg h]
    rw [show lineV x0 y0 x1 y1 k = 2 by unfold lineV; rw [e1]; rfl, e2]
    have HZ := Lib.hid (RStep.none hp (Below.refl w.heap.size w))
    clear hp e1 e2
    rcases (show k < 0 ∨ (¬ k < 0 ∧ 4 < k) ∨ (¬ k < 0 ∧ ¬ 4 < k ∧ ¬ x0 = x1 ∧ ¬ y0 = y1) by omega) with h1 | ⟨h1, h2⟩ | ⟨h1, h2, h3, h4⟩
    all_goals
      clear h
      (try have b1 : (x0 != x1) = true := by simpa using h3)
      (try have b2 : (y0 != y1) = true := by simpa using h4)
      go_enter Try.func46, Try.ntmps46
      go_wp2
      go_ret
      exact ⟨rfl, HZ.out⟩
theorem box_sel (a b c d : Int) (ha : i64B a) (hb : i64B b) (hc : i64B c) (hd : i64B d) (h : okB a b c d = true) : (selfR ⟨a, b, c, d⟩).w ≠ 0 ∧ (selfR ⟨a, b, c, d⟩).x = rlo a ∧ (selfR ⟨a, b, c, d⟩).y = rlo b ∧ (selfR ⟨a, b, c, d⟩).x + (selfR ⟨a, b, c, d⟩).w = rhi a c ∧ (selfR ⟨a, b, c, d⟩).y + (selfR ⟨a, b, c, d⟩).h = rhi b d := by
  rw [selfR_ok (r := ⟨a, b, c, d⟩) h]
  unfold okB at h
  simp only [Bool.and_eq_true, decide_eq_true_eq] at h
  have l1 := rlo_bd a; have l2 := rlo_bd b; have l3 := rhi_bd a c; have l4 := rhi_bd b d
  unfold mkR
  rw [if_pos (by simp only; omega)]
  simp only
  omega
theorem four_setsG {w : World} {b : Nat} {x y z u : Value} {t : TypeId} (h : w.heap[b]? = some (.cells #[x, y, z, u] t (0, 0))) (v0 v1 v2 v3 : Value) : ((((w.setCell ⟨b, 0, none⟩ v0).setCell ⟨b, 1, none⟩ v1).setCell ⟨b, 2, none⟩ v2).setCell ⟨b, 3, none⟩ v3).heap[b]? = some (.cells #[v0, v1, v2, v3] t (0, 0)) := set_blk (set_blk (set_blk (set_blk h 0 v0) 1 v1) 2 v2) 3 v3
theorem lnsL_pos {x0 y0 x1 y1 k : Int} (h : 0 ≤ k ∧ k ≤ 4 ∧ (x0 = x1 ∨ y0 = y1)) : lnsL x0 y0 x1 y1 k = [⟨x0, y0, x1, y1, k⟩] := by unfold lnsL; rw [if_pos h]
set_option maxRecDepth 100000 in
set_option maxHeartbeats 8000000 in
theorem rbox_gen (base g W H : Nat) (lv : Value) (ts : List Ln) (a b c d k : Int) (w : World) (hp : RPl base w g W H lv ts) (ha : i64B a) (hb : i64B b) (hc : i64B c) (hd : i64B d) (hn : ts.length + 4 ≤ 1073741824) : Calls Try.prog 47 #[.pointer (some ⟨g, 0, none⟩), .agg #[.int .i64 a, .int .i64 b, .int .i64 c, .int .i64 d], .int .i8 k] w fun e w' => e = .returned (.int .i64 (boxV a b c d k)) ∧ RStep base w w' g W H lv ts (lnsB a b c d k) := by
  by_cases hk : 0 ≤ k ∧ k ≤ 4
  · obtain ⟨w1, hw1⟩ : ∃ x, x = w.alloc (.cells #[.int .i64 a, .int .i64 b, .int .i64 c, .int .i64 d] 52) := ⟨_, rfl⟩
    have B1 : Below w.heap.size w w1 := by rw [hw1]; exact below_al (Below.refl _ _) _
    have x1 : w1.heap[w.heap.size]? = some (.cells #[.int .i64 a, .int .i64 b, .int .i64 c, .int .i64 d] 52 (0, 0)) := by rw [hw1]; exact heap_alloc_new _ _
    have z1 := lt_of_block x1
    have c0 : w1.cell? ⟨w.heap.size, 0, none⟩ = some (.int .i64 a) := by rw [cell_of_row _ _ _ _ _ _ x1]; rfl
    have c1 : w1.cell? ⟨w.heap.size, 1, none⟩ = some (.int .i64 b) := by rw [cell_of_row _ _ _ _ _ _ x1]; rfl
    have c2 : w1.cell? ⟨w.heap.size, 2, none⟩ = some (.int .i64 c) := by rw [cell_of_row _ _ _ _ _ _ x1]; rfl
    have c3 : w1.cell? ⟨w.heap.size, 3, none⟩ = some (.int .i64 d) := by rw [cell_of_row _ _ _ _ _ _ x1]; rfl
    have HP := Lib.hid hp
    have HX1 := Lib.hid x1
    have HB1 := Lib.hid B1
    have n1 : ¬ k < 0 := by omega
    have n2 : ¬ 4 < k := by omega
    clear hp x1 B1
    go_enter Try.func47, Try.ntmps47
    go_upto_region 1 with (fail)
    rw [← hw1]
    clear hw1
    go_wp2_with fail
    refine (ref_Own_any a b c d w1 ha hb hc hd).mono ?_
    obtain ⟨R, hR⟩ : ∃ R, R = selfR ⟨a, b, c, d⟩ := ⟨_, rfl⟩
    have HR := Lib.hid hR
    rw [← hR]
    clear hR
    obtain ⟨X, Y, RW, RH⟩ := R
    rintro e w2 ⟨rfl, hb2⟩
    have x2 : w2.heap[w.heap.size]? = some (.cells #[.int .i64 a, .int .i64 b, .int .i64 c, .int .i64 d] 52 (0, 0)) := (hb2.block _ z1).trans HX1.out
    have z2 := lt_of_block x2
    have f0 : w2.frozen? ⟨w.heap.size, 0, none⟩ = false := frozen_of_row _ _ _ _ _ x2
    have f1 : w2.frozen? ⟨w.heap.size, 1, none⟩ = false := frozen_of_row _ _ _ _ _ x2
    have f2 : w2.frozen? ⟨w.heap.size, 2, none⟩ = false := frozen_of_row _ _ _ _ _ x2
    have f3 : w2.frozen? ⟨w.heap.size, 3, none⟩ = false := frozen_of_row _ _ _ _ _ x2
    have d0 : w2.cell? ⟨w.heap.size, 0, none⟩ = some (.int .i64 a) := by rw [cell_of_row _ _ _ _ _ _ x2]; rfl
    have d1 : w2.cell? ⟨w.heap.size, 1, none⟩ = some (.int .i64 b) := by rw [cell_of_row _ _ _ _ _ _ x2]; rfl
    have d2 : w2.cell? ⟨w.heap.size, 2, none⟩ = some (.int .i64 c) := by rw [cell_of_row _ _ _ _ _ _ x2]; rfl
    have d3 : w2.cell? ⟨w.heap.size, 3, none⟩ = some (.int .i64 d) := by rw [cell_of_row _ _ _ _ _ _ x2]; rfl
    have HX2 := Lib.hid x2
    have HB2 := Lib.hid (below_via hb2 HB1.out)
    clear x2 hb2 c0 c1 c2 c3 z1
    go_upto_region 6 with (fail)
    obtain ⟨w3, hw3⟩ : ∃ x, x = (((w2.setCell ⟨w.heap.size, 0, none⟩ (.int .i64 X)).setCell ⟨w.heap.size, 1, none⟩ (.int .i64 Y)).setCell ⟨w.heap.size, 2, none⟩ (.int .i64 RW)).setCell ⟨w.heap.size, 3, none⟩ (.int .i64 RH) := ⟨_, rfl⟩
    have x3 : w3.heap[w.heap.size]? = some (.cells #[.int .i64 X, .int .i64 Y, .int .i64 RW, .int .i64 RH] 52 (0, 0)) := by rw [hw3]; exact four_setsG HX2.out _ _ _ _
    have B3 : Below w.heap.size w w3 := by
      rw [hw3]
      exact (((HB2.out.setCell (p := ⟨w.heap.size, 0, none⟩) (Nat.le_refl _) _).setCell (p := ⟨w.heap.size, 1, none⟩) (Nat.le_refl _) _).setCell (p := ⟨w.heap.size, 2, none⟩) (Nat.le_refl _) _).setCell (p := ⟨w.heap.size, 3, none⟩) (Nat.le_refl _) _
    rw [← hw3]
    have HX3 := Lib.hid x3
    have HB3 := Lib.hid B3
    have HP3 := Lib.hid (HP.out.later B3)
    have z3 : w.heap.size < w3.heap.size := lt_of_block x3
    have c0 : w3.cell? ⟨w.heap.size, 0, none⟩ = some (.int .i64 X) := by rw [cell_of_row _ _ _ _ _ _ x3]; rfl
    have c1 : w3.cell? ⟨w.heap.size, 1, none⟩ = some (.int .i64 Y) := by rw [cell_of_row _ _ _ _ _ _ x3]; rfl
    have c2 : w3.cell? ⟨w.heap.size, 2, none⟩ = some (.int .i64 RW) := by rw [cell_of_row _ _ _ _ _ _ x3]; rfl
    have c3 : w3.cell? ⟨w.heap.size, 3, none⟩ = some (.int .i64 RH) := by rw [cell_of_row _ _ _ _ _ _ x3]; rfl
    clear x3 B3 hw3 d0 d1 d2 d3 f0 f1 f2 f3 z2
    cases ok : okB a b c d
    · have hz : RW = 0 := by
        have := HR.out
        rw [selfR_no (r := ⟨a, b, c, d⟩) ok] at this
        unfold zR at this
        injection this
      subst hz
      have HZ := Lib.hid (show RStep base w w3 g W H lv ts (lnsB a b c d k) from by
        rw [show lnsB a b c d k = [] by unfold lnsB; rw [if_neg (by rw [ok]; simp)]]
        exact RStep.none HP.out HB3.out)
      have EV := Lib.hid (show boxV a b c d k = 160 by unfold boxV; rw [if_pos hk, ok]; rfl)
      go_wp2
      go_ret
      exact ⟨by rw [EV.out]; rfl, HZ.out⟩
    · have EV := Lib.hid (show boxV a b c d k = 0 by unfold boxV; rw [if_pos hk, ok]; rfl)
      have hsel := box_sel a b c d ha hb hc hd ok
      rw [← HR.out] at hsel
      simp only at hsel
      obtain ⟨hz, hx, hy, hex, hey⟩ := hsel
      have hz' : (RW == 0) = false := by simpa using hz
      have l1 := rlo_bd a; have l2 := rlo_bd b; have l3 := rhi_bd a c; have l4 := rhi_bd b d
      have hok := ok
      unfold okB at hok
      simp only [Bool.and_eq_true, decide_eq_true_eq] at hok
      obtain ⟨ex, hEX⟩ : ∃ v, v = rhi a c := ⟨_, rfl⟩
      obtain ⟨ey, hEY⟩ : ∃ v, v = rhi b d := ⟨_, rfl⟩
      have e2 : lnsB a b c d k = [⟨X, Y, ex - 1, Y, k⟩, ⟨X, ey - 1, ex - 1, ey - 1, k⟩, ⟨X, Y, X, ey - 1, k⟩, ⟨ex - 1, Y, ex - 1, ey - 1, k⟩] := by
        unfold lnsB
        rw [if_pos ⟨hk.1, hk.2, ok⟩, hx, hy, hEX, hEY]
      have E2 := Lib.hid e2
      have q1 : IntKind.i64.wrap (X + RW) = ex := by rw [hex, ← hEX]; exact IntWalk.i64_in _ (by omega)
      have q2 : IntKind.i64.wrap (ex - 1) = ex - 1 := IntWalk.i64_in _ (by omega)
      have q3 : IntKind.i64.wrap (Y + RH) = ey := by rw [hey, ← hEY]; exact IntWalk.i64_in _ (by omega)
      have q4 : IntKind.i64.wrap (ey - 1) = ey - 1 := IntWalk.i64_in _ (by omega)
      have hrb : ¬ SR g lv w.heap.size := by
        rintro (h | h)
        · have := lt_of_block HP.out.pl; omega
        · have := (row_lt HP.out.own _ h).1; omega
      clear hx hy hex hey hEX hEY e2 hok l1 l2 l3 l4 ok hz
      go_upto_region 8 with (fail)
      go_quiet (fail)
      obtain ⟨w3q, hw3q⟩ : ∃ x, x = w3.drewN nq := ⟨_, rfl⟩
      rw [← hw3q]
      have BQ : Below w3.heap.size w3 w3q := by rw [hw3q]; exact below_drewN (Below.refl _ _) _
      have xq := (BQ.block _ z3).trans HX3.out
      have HXQ := Lib.hid xq
      have zq : w.heap.size < w3q.heap.size := lt_of_block xq
      have zq3 := zq
      have RQ := Lib.hid (HP3.out.later BQ)
      have HBQ := Lib.hid (show Below w.heap.size w w3q from below_via BQ HB3.out)
      clear c0 c1 c2 c3 hw3q BQ
      have c0 : w3q.cell? ⟨w.heap.size, 0, none⟩ = some (.int .i64 X) := by rw [cell_of_row _ _ _ _ _ _ xq]; rfl
      have c1 : w3q.cell? ⟨w.heap.size, 1, none⟩ = some (.int .i64 Y) := by rw [cell_of_row _ _ _ _ _ _ xq]; rfl
      have c2 : w3q.cell? ⟨w.heap.size, 2, none⟩ = some (.int .i64 RW) := by rw [cell_of_row _ _ _ _ _ _ xq]; rfl
      have c3 : w3q.cell? ⟨w.heap.size, 3, none⟩ = some (.int .i64 RH) := by rw [cell_of_row _ _ _ _ _ _ xq]; rfl
      clear xq z3
      go_wp2_with fail
      refine (rline_gen base g W H lv _ X Y (ex - 1) Y k w3q RQ.out (by first | omega | (simp; omega))).mono ?_
      rintro e w4 ⟨rfl, h4⟩
      rw [lnsL_pos ⟨hk.1, hk.2, .inr rfl⟩] at h4
      obtain ⟨lv4, r4, k4, p4⟩ := h4
      have R4 := Lib.hid r4
      have K4 := Lib.hid k4
      have P4 := Lib.hid p4
      have x4 := (k4.block w.heap.size zq3 hrb).trans HXQ.out
      have y4 := lt_of_block x4
      clear c0 c1 c2 c3 zq
      have e0 : w4.cell? ⟨w.heap.size, 0, none⟩ = some (.int .i64 X) := by rw [cell_of_row _ _ _ _ _ _ x4]; rfl
      have e1 : w4.cell? ⟨w.heap.size, 1, none⟩ = some (.int .i64 Y) := by rw [cell_of_row _ _ _ _ _ _ x4]; rfl
      clear x4 r4 k4 p4
      go_wp2_with fail
      refine (rline_gen base g W H lv4 _ X (ey - 1) (ex - 1) (ey - 1) k w4 R4.out (by first | omega | (simp; omega))).mono ?_
      rintro e w5 ⟨rfl, h5⟩
      rw [lnsL_pos ⟨hk.1, hk.2, .inr rfl⟩] at h5
      obtain ⟨lv5, r5, k5, p5⟩ := RStep.trans R4.out K4.out P4.out h5
      have R5 := Lib.hid r5
      have K5 := Lib.hid k5
      have P5 := Lib.hid p5
      have x5 := (k5.block w.heap.size zq3 hrb).trans HXQ.out
      have y5 := lt_of_block x5
      clear e0 e1 y4
      have e0 : w5.cell? ⟨w.heap.size, 0, none⟩ = some (.int .i64 X) := by rw [cell_of_row _ _ _ _ _ _ x5]; rfl
      have e1 : w5.cell? ⟨w.heap.size, 1, none⟩ = some (.int .i64 Y) := by rw [cell_of_row _ _ _ _ _ _ x5]; rfl
      clear x5 r5 k5 p5
      go_wp2_with fail
      refine (rline_gen base g W H lv5 _ X Y X (ey - 1) k w5 R5.out (by first | omega | (simp; omega))).mono ?_
      rintro e w6 ⟨rfl, h6⟩
      rw [lnsL_pos ⟨hk.1, hk.2, .inl rfl⟩] at h6
      obtain ⟨lv6, r6, k6, p6⟩ := RStep.trans R5.out K5.out P5.out h6
      have R6 := Lib.hid r6
      have K6 := Lib.hid k6
      have P6 := Lib.hid p6
      have x6 := (k6.block w.heap.size zq3 hrb).trans HXQ.out
      have y6 := lt_of_block x6
      clear e0 e1 y5
      have e0 : w6.cell? ⟨w.heap.size, 0, none⟩ = some (.int .i64 X) := by rw [cell_of_row _ _ _ _ _ _ x6]; rfl
      have e1 : w6.cell? ⟨w.heap.size, 1, none⟩ = some (.int .i64 Y) := by rw [cell_of_row _ _ _ _ _ _ x6]; rfl
      clear x6 r6 k6 p6
      go_wp2_with fail
      refine (rline_gen base g W H lv6 _ (ex - 1) Y (ex - 1) (ey - 1) k w6 R6.out (by first | omega | (simp; omega))).mono ?_
      rintro e w7 ⟨rfl, h7⟩
      rw [lnsL_pos ⟨hk.1, hk.2, .inl rfl⟩] at h7
      obtain ⟨lv7, r7, k7, p7⟩ := RStep.trans R6.out K6.out P6.out h7
      have R7 := Lib.hid r7
      have K7 := Lib.hid k7
      have P7 := Lib.hid p7
      clear e0 e1 y6 r7 k7 p7
      have HZ := Lib.hid (show RStep base w w7 g W H lv ts (lnsB a b c d k) from by
        have T7 : RStep base w3q w7 g W H lv ts _ := ⟨lv7, R7.out, K7.out, P7.out⟩
        have T := RStep.trans (ns := []) (lv1 := lv) (by rw [List.map_nil, List.append_nil]; exact RQ.out) (Chg.of_below HBQ.out _) (.inl rfl) (by rw [List.map_nil, List.append_nil]; exact T7)
        rw [E2.out]
        exact T)
      go_wp2
      go_ret
      exact ⟨by rw [EV.out]; rfl, HZ.out⟩
  · have ev : boxV a b c d k = 2 := by unfold boxV; rw [if_neg hk]
    rw [ev]
    have e2 : lnsB a b c d k = [] := by unfold lnsB; rw [if_neg (fun h => hk ⟨h.1, h.2.1⟩)]
    rw [e2]
    have HZ := Lib.hid (fun w' (h : Below w.heap.size w w') => RStep.none hp h)
    clear hp e2 ev
    rcases (show k < 0 ∨ (¬ k < 0 ∧ 4 < k) by omega) with h1 | ⟨h1, h2⟩
    all_goals
      clear hk
      go_enter Try.func47, Try.ntmps47
      go_wp2
      go_ret
      exact ⟨rfl, HZ.out _ (by go_grown)⟩
end Go.Proofs.Ytebalohoblaedaa
