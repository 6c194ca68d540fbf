/- GlyPz: GlyPa GlyPb GlyPc GlyPd GlyPe GlyPf in one text. -/
import Derived.Test.YtebalohoblaedaaGlyRr
import Derived.Test.YtebalohoblaedaaAnyH
import Derived.Test.YtebalohoblaedaaFamG
import Derived.Test.YtebalohoblaedaaAnyZ
namespace Go.Proofs.Ytebalohoblaedaa
open Go.RowKit
set_option linter.unusedVariables false
set_option linter.unusedSimpArgs false

/-- all are texts -/
def Txt (xs : List Value) : Prop := ∀ i, i < xs.length → ∃ s, xs[i]? = some (.string s)
/-- one list that was told: the program's, the reference's, the texts -/
structure Tld where
  t : Value
  k : Value
  x : List Value
/-- a pair's state -/
structure PairS where
  g : Nat
  gc : Nat
  rg : Nat
  W : Nat
  H : Nat
  ts : List Ln
  lv : Value
  tv : Value
  wv : Value
  told : List Tld
/-- the blocks of a pair -/
def SP (pb : Nat) (s : PairS) : Nat → Prop := fun k => k = pb ∨ k = s.g ∨ k = s.gc ∨ k = s.rg ∨ s.lv.ownBlock = some k ∨ s.tv.ownBlock = some k ∨ s.wv.ownBlock = some k ∨ ∃ e ∈ s.told, e.t.ownBlock = some k ∨ e.k.ownBlock = some k
structure PairAt (base : Nat) (w : World) (pb : Nat) (s : PairS) : Prop where
  pr : w.heap[pb]? = some (.cells #[.pointer (some ⟨s.g, 0, none⟩), .pointer (some ⟨s.rg, 0, none⟩), s.tv, s.wv] 94 (0, 0))
  pl : PlanAt w s.g s.gc s.W s.H (layL s.W s.H s.ts (List.replicate (s.W * s.H) zA))
  rp : RPl base w s.rg s.W s.H s.lv (s.ts.map nln)
  tor : w.ownsRow base 67 1 s.tv s.told.length (s.told.map (·.t))
  wor : w.ownsRow base 67 1 s.wv s.told.length (s.told.map (·.k))
  te : ∀ e ∈ s.told, w.ownsRow base 9 1 e.t e.x.length e.x
  we : ∀ e ∈ s.told, w.ownsRow base 9 1 e.k e.x.length e.x
  dt : s.told.Pairwise fun a b => a.t.ownBlock = none ∨ a.t.ownBlock ≠ b.t.ownBlock
  dw : ∀ a ∈ s.told, ∀ b ∈ s.told, a.t.ownBlock = none ∨ a.t.ownBlock ≠ b.k.ownBlock
  tx : ∀ e ∈ s.told, Txt e.x ∧ e.x.length ≤ 4096
  tw : s.tv.ownBlock = none ∨ s.tv.ownBlock ≠ s.wv.ownBlock
  bp : base ≤ pb
  bg : base ≤ s.g
  bc : base ≤ s.gc
theorem row_keepB {w w' : World} {base : Nat} {t : TypeId} {k n : Nat} {v : Value} {xs : List Value} (h : w.ownsRow base t k v n xs) (hk : ∀ g, v.ownBlock = some g → w'.heap[g]? = w.heap[g]?) : w'.ownsRow base t k v n xs := by
  refine ⟨h.1, ?_⟩
  rcases h.2 with hn | ⟨g, cap, cur, rfl, hb, hgg, rest⟩
  · exact .inl hn
  · exact .inr ⟨g, cap, cur, rfl, hb, (hk g rfl).trans hgg, rest⟩
/-- where its blocks stand, a pair stands -/
theorem PairAt.keep {base : Nat} {w w' : World} {pb : Nat} {s : PairS} (h : PairAt base w pb s) (hk : ∀ k, SP pb s k → w'.heap[k]? = w.heap[k]?) : PairAt base w' pb s where
  pr := (hk pb (.inl rfl)).trans h.pr
  pl := ⟨(hk _ (.inr (.inl rfl))).trans h.pl.pl, (hk _ (.inr (.inr (.inl rfl)))).trans h.pl.ce, h.pl.len, h.pl.bw, h.pl.bh, h.pl.bn⟩
  rp := ⟨(hk _ (.inr (.inr (.inr (.inl rfl))))).trans h.rp.pl, row_keepB h.rp.own fun g hg => hk g (.inr (.inr (.inr (.inr (.inl hg))))), h.rp.bg⟩
  tor := row_keepB h.tor fun g hg => hk g (.inr (.inr (.inr (.inr (.inr (.inl hg))))))
  wor := row_keepB h.wor fun g hg => hk g (.inr (.inr (.inr (.inr (.inr (.inr (.inl hg)))))))
  te := fun e he => row_keepB (h.te e he) fun g hg => hk g (.inr (.inr (.inr (.inr (.inr (.inr (.inr ⟨e, he, .inl hg⟩)))))))
  we := fun e he => row_keepB (h.we e he) fun g hg => hk g (.inr (.inr (.inr (.inr (.inr (.inr (.inr ⟨e, he, .inr hg⟩)))))))
  dt := h.dt
  dw := h.dw
  tx := h.tx
  tw := h.tw
  bp := h.bp
  bg := h.bg
  bc := h.bc
/-- all its blocks lie in the world -/
theorem PairAt.lt {base : Nat} {w : World} {pb : Nat} {s : PairS} (h : PairAt base w pb s) : ∀ k, SP pb s k → k < w.heap.size ∧ base ≤ k := by
  rintro k (rfl | rfl | rfl | rfl | hk | hk | hk | ⟨e, he, hk | hk⟩)
  · exact ⟨lt_of_block h.pr, h.bp⟩
  · exact ⟨lt_of_block h.pl.pl, h.bg⟩
  · exact ⟨lt_of_block h.pl.ce, h.bc⟩
  · exact ⟨lt_of_block h.rp.pl, h.rp.bg⟩
  · exact row_lt h.rp.own _ hk
  · exact row_lt h.tor _ hk
  · exact row_lt h.wor _ hk
  · exact row_lt (h.te e he) _ hk
  · exact row_lt (h.we e he) _ hk
theorem PairAt.later {base : Nat} {w w' : World} {pb : Nat} {s : PairS} (h : PairAt base w pb s) (hb : Below w.heap.size w w') : PairAt base w' pb s := h.keep fun k hk => hb.block k (h.lt k hk).1
/-- another pair's work leaves it -/
theorem PairAt.other {base : Nat} {w w' : World} {pb : Nat} {s : PairS} {S : Nat → Prop} (h : PairAt base w pb s) (c : Chg w w' S) (hd : ∀ k, SP pb s k → ¬ S k) : PairAt base w' pb s := h.keep fun k hk => c.block k (h.lt k hk).1 (hd k hk)
/-- what begun tells -/
def BegunR (base : Nat) (w : World) (W0 H0 : Int) (e : Ending) (w' : World) : Prop :=
  (e = .returned (.tuple #[.pointer none, .bool true]) ∧ Below w.heap.size w w') ∨
  ∃ (pb : Nat) (s : PairS), e = .returned (.tuple #[.pointer (some ⟨pb, 0, none⟩), .bool true]) ∧ PairAt w.heap.size w' pb s ∧ s.ts = [] ∧ s.told = [] ∧ s.W ≤ 4096 ∧ s.H ≤ 4096 ∧ Below w.heap.size w w'
set_option maxRecDepth 100000 in
set_option maxHeartbeats 8000000 in
theorem begun_any (W0 H0 : Int) (v : Value) (w : World) : Calls Try.prog 26 #[.agg #[.int .i64 W0, .int .i64 H0, v]] w fun e w' => BegunR w.heap.size w W0 H0 e w' := by
  obtain ⟨w1, hw1⟩ : ∃ x, x = w.alloc (.cells #[.int .i64 W0, .int .i64 H0, v] 58) := ⟨_, rfl⟩
  have B1 : Below w.heap.size w w1 := by rw [hw1]; exact below_al (Below.refl _ _) _
  have x1 : w1.heap[w.heap.size]? = some (.cells #[.int .i64 W0, .int .i64 H0, v] 58 (0, 0)) := by rw [hw1]; exact heap_alloc_new _ _
  have z1 := lt_of_block x1
  have c0 : w1.cell? ⟨w.heap.size, 0, none⟩ = some (.int .i64 W0) := by rw [cell_of_row _ _ _ _ _ _ x1]; rfl
  have c1 : w1.cell? ⟨w.heap.size, 1, none⟩ = some (.int .i64 H0) := by rw [cell_of_row _ _ _ _ _ _ x1]; rfl
  have HX1 := Lib.hid x1
  have HB1 := Lib.hid B1
  clear x1 B1
  cases ok : sizeOk W0 H0
  · have HOK := Lib.hid ok
    clear ok
    go_enter Try.func26, Try.ntmps26
    go_upto_region 1 with (fail)
    rw [← hw1]
    clear hw1
    go_wp2_with fail
    refine (new_no W0 H0 HOK.out w1).mono ?_
    rintro e w2 ⟨rfl, rfl⟩
    go_wp2_with fail
    refine (rnew_no W0 H0 HOK.out w1).mono ?_
    rintro e w3 ⟨rfl, rfl⟩
    go_wp2
    go_ret2
    exact .inl ⟨rfl, HB1.out⟩
  · obtain ⟨W, H, rfl, rfl, hW, hH, hWH⟩ := sizeOk_nat ok
    have HWH := Lib.hid hWH
    clear ok hWH
    go_enter Try.func26, Try.ntmps26
    go_upto_region 1 with (fail)
    rw [← hw1]
    clear hw1
    go_wp2_with fail
    refine (new_yes W H hW hH HWH.out w1).mono ?_
    rintro e w2 ⟨rfl, hb2, hp2⟩
    have x2 := (hb2.block _ z1).trans HX1.out
    have z2 := lt_of_block x2
    have d0 : w2.cell? ⟨w.heap.size, 0, none⟩ = some (.int .i64 (W : Int)) := by rw [cell_of_row _ _ _ _ _ _ x2]; rfl
    have d1 : w2.cell? ⟨w.heap.size, 1, none⟩ = some (.int .i64 (H : Int)) := by rw [cell_of_row _ _ _ _ _ _ x2]; rfl
    have HP2 := Lib.hid hp2
    have HB2 := Lib.hid (below_via hb2 HB1.out)
    have hsz := hb2.size
    clear x2 hb2 hp2 c0 c1
    go_wp2_with fail
    refine (rnew_yes W H hW hH HWH.out w2).mono ?_
    rintro e w3 ⟨rfl, hw3⟩
    have x3 : w3.heap[w2.heap.size]? = some (.cells #[.int .i64 (W : Int), .int .i64 (H : Int), .slice none 0 0] 87 (0, 0)) := by rw [hw3]; exact heap_alloc_new _ _
    have B3 : Below w2.heap.size w2 w3 := by rw [hw3]; exact below_al (Below.refl _ _) _
    have HX3 := Lib.hid x3
    have HB3 := Lib.hid B3
    have hs3 := B3.size
    clear x3 B3 hw3 d0 d1 z2
    go_wp2
    go_ret2
    refine .inr ⟨w3.heap.size, ⟨w1.heap.size + 1, w1.heap.size, w2.heap.size, W, H, [], .slice none 0 0, .slice none 0 0, .slice none 0 0, []⟩, rfl, ?_, rfl, rfl, hW, hH, below_al (below_via HB3.out HB2.out) _⟩
    have hpl := (HP2.out.later HB3.out (heap_lt HP2.out.pl) (heap_lt HP2.out.ce)).alloc (.cells #[.pointer (some ⟨w1.heap.size + 1, 0, none⟩), .pointer (some ⟨w2.heap.size, 0, none⟩), .slice none 0 0, .slice none 0 0] 94)
    have nil : ∀ (t : TypeId) (k : Nat) (W' : World), W'.ownsRow w.heap.size t k (.slice none 0 0) 0 [] := fun t k W' => ⟨by simp, .inl ⟨rfl, rfl⟩⟩
    exact { pr := heap_alloc_new _ _, pl := hpl, rp := ⟨(heap_alloc_old _ _ (lt_of_block HX3.out)).trans HX3.out, nil _ _ _, by simp only; omega⟩, tor := nil _ _ _, wor := nil _ _ _, te := (fun e he => by cases he), we := (fun e he => by cases he), dt := List.Pairwise.nil, dw := (fun a ha => by cases ha), tx := (fun e he => by cases he), tw := .inl rfl, bp := by omega, bg := by simp only; omega, bc := by simp only; omega }
end Go.Proofs.Ytebalohoblaedaa
namespace Go.Proofs.Ytebalohoblaedaa
open Go.RowKit
set_option linter.unusedVariables false
set_option linter.unusedSimpArgs false

theorem line_gen2 (g gc W H : Nat) (L : List A4) (x0 y0 x1 y1 k : Int) (w : World) (hp : PlanAt w g gc W H L) : Calls Try.prog 29 #[.pointer (some ⟨g, 0, none⟩), .int .i64 x0, .int .i64 y0, .int .i64 x1, .int .i64 y1, .int .i8 k] w fun e w' => e = .returned (.int .i64 (lineV x0 y0 x1 y1 k)) ∧ LaidAt w w' g gc W H L (lnsL x0 y0 x1 y1 k) := by
  unfold lineV
  cases h : lineOk x0 y0 x1 y1 k
  · refine (line_arg ⟨g, 0, none⟩ x0 y0 x1 y1 k h w).mono ?_
    rintro e w' ⟨rfl, rfl⟩
    have e : lnsL x0 y0 x1 y1 k = [] := by
      unfold lnsL lineOk at *
      rw [if_neg (by simpa using h)]
    exact ⟨rfl, only_refl _ _, by rw [e]; exact hp⟩
  · refine (line_ok g gc W H L x0 y0 x1 y1 k h w hp).mono ?_
    rintro e w' ⟨rfl, h1, h2⟩
    have e : lnsL x0 y0 x1 y1 k = [⟨x0, y0, x1, y1, k⟩] := by
      unfold lnsL lineOk at *
      rw [if_pos (by simpa using h)]
    exact ⟨rfl, h1, by rw [e]; exact h2⟩
theorem box_gen2 (g gc W H : Nat) (L : List A4) (a b c d k : Int) (w : World) (ha : i64B a) (hb : i64B b) (hc : i64B c) (hd : i64B d) (hp : PlanAt w g gc W H L) : Calls Try.prog 24 #[.pointer (some ⟨g, 0, none⟩), .agg #[.int .i64 a, .int .i64 b, .int .i64 c, .int .i64 d], .int .i8 k] w fun e w' => e = .returned (.int .i64 (boxV a b c d k)) ∧ LaidAt w w' g gc W H L (lnsB a b c d k) := by
  unfold boxV
  by_cases hk : 0 ≤ k ∧ k ≤ 4
  · rw [if_pos hk]
    cases h : okB a b c d
    · refine (box_no ⟨g, 0, none⟩ a b c d k hk ha hb hc hd h w).mono ?_
      rintro e w' ⟨rfl, hb⟩
      have e : lnsB a b c d k = [] := by unfold lnsB; rw [if_neg (by rw [h]; simp)]
      exact ⟨rfl, only_of_below hb _, by rw [e]; exact hp.later hb (heap_lt hp.pl) (heap_lt hp.ce)⟩
    · refine (box_ok g gc W H L a b c d k hk ha hb hc hd h w hp).mono ?_
      rintro e w' ⟨rfl, h1, h2⟩
      have e : lnsB a b c d k = [⟨rlo a, rlo b, rhi a c - 1, rlo b, k⟩, ⟨rlo a, rhi b d - 1, rhi a c - 1, rhi b d - 1, k⟩, ⟨rlo a, rlo b, rlo a, rhi b d - 1, k⟩, ⟨rhi a c - 1, rlo b, rhi a c - 1, rhi b d - 1, k⟩] := by
        unfold lnsB; rw [if_pos ⟨hk.1, hk.2, h⟩]
      exact ⟨rfl, h1, by rw [e]; exact h2⟩
  · rw [if_neg hk]
    refine (box_arg ⟨g, 0, none⟩ a b c d k (by omega) w).mono ?_
    rintro e w' ⟨rfl, hb⟩
    have e : lnsB a b c d k = [] := by unfold lnsB; rw [if_neg (fun h => hk ⟨h.1, h.2.1⟩)]
    exact ⟨rfl, only_of_below hb _, by rw [e]; exact hp.later hb (heap_lt hp.pl) (heap_lt hp.ce)⟩
theorem row_blk {w : World} {base : Nat} {t : TypeId} {k n g : Nat} {v : Value} {xs : List Value} (h : w.ownsRow base t k v n xs) (hg : v.ownBlock = some g) : ∃ cs fr, w.heap[g]? = some (.cells cs t fr) := by
  rcases h.2 with ⟨rfl, _⟩ | ⟨g', cap, cur, rfl, _, hh, _⟩
  · simp [Value.ownBlock] at hg
  · simp only [Value.ownBlock, Option.some.injEq] at hg
    subst hg
    exact ⟨_, _, hh⟩
theorem blk_ne {w : World} {a b : Nat} {cs cs' : Array Value} {t t' : TypeId} {fr fr' : Nat × Nat} (h : w.heap[a]? = some (.cells cs t fr)) (h' : w.heap[b]? = some (.cells cs' t' fr')) (hne : t ≠ t') : a ≠ b := by
  rintro rfl
  rw [h] at h'
  injection h' with h'
  injection h' with _ ht
  exact hne ht
/-- a block of another type is none of those that a call on the plans turns -/
theorem PairAt.free {base : Nat} {w : World} {pb : Nat} {s : PairS} (h : PairAt base w pb s) {k : Nat} {cs : Array Value} {t : TypeId} {fr : Nat × Nat} (hk : w.heap[k]? = some (.cells cs t fr)) (h1 : t ≠ 25) (h2 : t ≠ 87) (h3 : t ≠ 114) : ¬ (k = s.gc ∨ SR s.rg s.lv k) := by
  rintro (rfl | rfl | e)
  · exact blk_ne hk h.pl.ce h1 rfl
  · exact blk_ne hk h.rp.pl h2 rfl
  · obtain ⟨cs', fr', h4⟩ := row_blk h.rp.own e
    exact blk_ne hk h4 h3 rfl
/-- the pair behind a call on both plans -/
theorem PairAt.turn {base : Nat} {w w' : World} {pb : Nat} {s : PairS} (h : PairAt base w pb s) {lv' : Value} {ts' : List Ln} (c : Chg w w' (fun k => k = s.gc ∨ SR s.rg s.lv k)) (pl' : PlanAt w' s.g s.gc s.W s.H (layL s.W s.H ts' (List.replicate (s.W * s.H) zA))) (rp' : RPl base w' s.rg s.W s.H lv' (ts'.map nln)) : PairAt base w' pb { s with ts := ts', lv := lv' } where
  pr := (c.block _ (lt_of_block h.pr) (h.free h.pr (by decide) (by decide) (by decide))).trans h.pr
  pl := pl'
  rp := rp'
  tor := row_keepB h.tor fun g hg => by obtain ⟨cs, fr, hb⟩ := row_blk h.tor hg; exact c.block g (lt_of_block hb) (h.free hb (by decide) (by decide) (by decide))
  wor := row_keepB h.wor fun g hg => by obtain ⟨cs, fr, hb⟩ := row_blk h.wor hg; exact c.block g (lt_of_block hb) (h.free hb (by decide) (by decide) (by decide))
  te := fun e he => row_keepB (h.te e he) fun g hg => by obtain ⟨cs, fr, hb⟩ := row_blk (h.te e he) hg; exact c.block g (lt_of_block hb) (h.free hb (by decide) (by decide) (by decide))
  we := fun e he => row_keepB (h.we e he) fun g hg => by obtain ⟨cs, fr, hb⟩ := row_blk (h.we e he) hg; exact c.block g (lt_of_block hb) (h.free hb (by decide) (by decide) (by decide))
  dt := h.dt
  dw := h.dw
  tx := h.tx
  tw := h.tw
  bp := h.bp
  bg := h.bg
  bc := h.bc
/-- what a step tells -/
def StepR (base : Nat) (w : World) (pb : Nat) (s : PairS) (e : Ending) (w' : World) : Prop :=
  e = .returned (.bool true) ∧ ∃ s', PairAt base w' pb s' ∧ Chg w w' (SP pb s) ∧ (∀ k, SP pb s' k → SP pb s k ∨ w.heap.size ≤ k) ∧ s'.W = s.W ∧ s'.H = s.H ∧ s'.ts.length ≤ s.ts.length + 4 ∧ s'.told.length ≤ s.told.length + 1
/-- both plans turned in the same way -/
theorem PairAt.both {base : Nat} {w w2 w3 : World} {pb : Nat} {s : PairS} (h : PairAt base w pb s) {ns : List Ln} (l : LaidAt w w2 s.g s.gc s.W s.H (layL s.W s.H s.ts (List.replicate (s.W * s.H) zA)) ns) (r : RStep base w2 w3 s.rg s.W s.H s.lv (s.ts.map nln) ns) (hn : ns.length ≤ 4) : StepR base w pb s (.returned (.bool true)) w3 := by
  obtain ⟨l1, l2⟩ := l
  obtain ⟨lv', r1, r2, r3⟩ := r
  have c : Chg w w3 (fun k => k = s.gc ∨ SR s.rg s.lv k) := (Chg.of_grown l1 (S := fun k => k = s.gc ∨ SR s.rg s.lv k) (fun k hk => .inl (.inl (by injection hk with hk; exact hk.symm)))).trans r2 (fun k hk => .inl (.inr hk))
  have hg : ¬ SR s.rg s.lv s.g := fun e => h.free h.pl.pl (by decide) (by decide) (by decide) (.inr e)
  have hgc : ¬ SR s.rg s.lv s.gc := by
    rintro (e | e)
    · exact blk_ne h.pl.ce h.rp.pl (by decide) e
    · obtain ⟨cs', fr', h4⟩ := row_blk h.rp.own e
      exact blk_ne h.pl.ce h4 (by decide) rfl
  have pl' : PlanAt w3 s.g s.gc s.W s.H (layL s.W s.H (s.ts ++ ns) (List.replicate (s.W * s.H) zA)) := by
    rw [layL_append]
    exact ⟨(r2.block _ (heap_lt l2.pl) hg).trans l2.pl, (r2.block _ (heap_lt l2.ce) hgc).trans l2.ce, l2.len, l2.bw, l2.bh, l2.bn⟩
  refine ⟨rfl, _, h.turn c pl' (by rw [List.map_append]; exact r1), ⟨c.os, c.tape, c.output, c.size, fun k hk hns => c.block k hk fun e => hns ?_⟩, fun k hk => ?_, rfl, rfl, by simp only [List.length_append]; omega, Nat.le_succ _⟩
  · rcases e with e | e | e
    · exact .inr (.inr (.inl e))
    · exact .inr (.inr (.inr (.inl e)))
    · exact .inr (.inr (.inr (.inr (.inl e))))
  · rcases hk with e | e | e | e | e | e
    · exact .inl (.inl e)
    · exact .inl (.inr (.inl e))
    · exact .inl (.inr (.inr (.inl e)))
    · exact .inl (.inr (.inr (.inr (.inl e))))
    · simp only at e
      rcases r3 with h3 | ⟨b, h3, hb⟩
      · exact .inl (.inr (.inr (.inr (.inr (.inl (h3 ▸ e))))))
      · rw [h3] at e; injection e with e; exact .inr (by have := l1.size; omega)
    · exact .inl (.inr (.inr (.inr (.inr (.inr e)))))
/-- a step told from the world behind the step's own box -/
theorem StepR.from_ {base : Nat} {w w1 w' : World} {pb : Nat} {s : PairS} {e : Ending} (h : StepR base w1 pb s e w') (hp : PairAt base w pb s) (hb : Below w.heap.size w w1) : StepR base w pb s e w' := by
  obtain ⟨he, s', h1, h2, h3, h4⟩ := h
  exact ⟨he, s', h1, (Chg.of_below hb (SP pb s)).trans h2 (fun k hk => .inl hk), fun k hk => (h3 k hk).imp id fun h => Nat.le_trans hb.size h, h4⟩
theorem PairAt.same {base : Nat} {w w' : World} {pb : Nat} {s : PairS} (h : PairAt base w pb s) (hb : Below w.heap.size w w') : StepR base w pb s (.returned (.bool true)) w' := ⟨rfl, s, h.later hb, Chg.of_below hb _, fun k hk => .inl hk, rfl, rfl, by omega, Nat.le_succ _⟩
set_option maxRecDepth 100000 in
set_option maxHeartbeats 16000000 in
theorem step_any (base : Nat) (w : World) (pb : Nat) (s : PairS) (hp : PairAt base w pb s) (hW : s.W ≤ 4096) (hH : s.H ≤ 4096) (hn : s.ts.length + 8 ≤ 1073741824) (o x0 y0 x1 y1 a b c d k : Int) (ha : i64B a) (hb : i64B b) (hc : i64B c) (hd : i64B d) (ho : o ≠ 3 ∧ o ≠ 4) : Calls Try.prog 27 #[.pointer (some ⟨pb, 0, none⟩), .agg #[.int .i64 o, .int .i64 x0, .int .i64 y0, .int .i64 x1, .int .i64 y1, .int .i64 a, .int .i64 b, .int .i64 c, .int .i64 d, .int .i8 k]] w fun e w' => StepR base w pb s e w' := by
  obtain ⟨w1, hw1⟩ : ∃ z, z = w.alloc (.cells #[.int .i64 o, .int .i64 x0, .int .i64 y0, .int .i64 x1, .int .i64 y1, .int .i64 a, .int .i64 b, .int .i64 c, .int .i64 d, .int .i8 k] 64) := ⟨_, rfl⟩
  have B1 : Below w.heap.size w w1 := by rw [hw1]; exact below_al (Below.refl _ _) _
  have xs1 : w1.heap[w.heap.size]? = some (.cells #[.int .i64 o, .int .i64 x0, .int .i64 y0, .int .i64 x1, .int .i64 y1, .int .i64 a, .int .i64 b, .int .i64 c, .int .i64 d, .int .i8 k] 64 (0, 0)) := by rw [hw1]; exact heap_alloc_new _ _
  have HP := Lib.hid hp
  have HP1 := Lib.hid (hp.later B1)
  have HXS := Lib.hid xs1
  have HB1 := Lib.hid B1
  have HSS := Lib.hid (show ∀ w' : World, w'.heap[pb]? = w1.heap[pb]? ∧ w'.heap[w.heap.size]? = w1.heap[w.heap.size]? → (pb < w'.heap.size ∧ w.heap.size < w'.heap.size ∧ w'.cell? ⟨pb, 0, none⟩ = some (.pointer (some ⟨s.g, 0, none⟩)) ∧ w'.cell? ⟨pb, 1, none⟩ = some (.pointer (some ⟨s.rg, 0, none⟩)) ∧ w'.cell? ⟨w.heap.size, 0, none⟩ = some (.int .i64 o) ∧ w'.cell? ⟨w.heap.size, 1, none⟩ = some (.int .i64 x0) ∧ w'.cell? ⟨w.heap.size, 2, none⟩ = some (.int .i64 y0) ∧ w'.cell? ⟨w.heap.size, 3, none⟩ = some (.int .i64 x1) ∧ w'.cell? ⟨w.heap.size, 4, none⟩ = some (.int .i64 y1) ∧ w'.cell? ⟨w.heap.size, 5, none⟩ = some (.int .i64 a) ∧ w'.cell? ⟨w.heap.size, 6, none⟩ = some (.int .i64 b) ∧ w'.cell? ⟨w.heap.size, 7, none⟩ = some (.int .i64 c) ∧ w'.cell? ⟨w.heap.size, 8, none⟩ = some (.int .i64 d) ∧ w'.cell? ⟨w.heap.size, 9, none⟩ = some (.int .i8 k)) from fun w' h => by
    have h1 := h.1.trans HP1.out.pr
    have h2 := h.2.trans xs1
    refine ⟨lt_of_block h1, lt_of_block h2, ?_, ?_, ?_, ?_, ?_, ?_, ?_, ?_, ?_, ?_, ?_, ?_⟩ <;> first | (rw [cell_of_row _ _ _ _ _ _ h1]; rfl) | (rw [cell_of_row _ _ _ _ _ _ h2]; rfl))
  have z0 : w.heap.size < w1.heap.size := lt_of_block xs1
  have q0 : w1.cell? ⟨w.heap.size, 0, none⟩ = some (.int .i64 o) := by rw [cell_of_row _ _ _ _ _ _ xs1]; rfl
  clear hp xs1 B1
  by_cases h1 : o = 1
  · subst h1
    go_enter Try.func27, Try.ntmps27
    go_upto_region 1 with (fail)
    rw [← hw1]
    clear hw1
    go_upto_region 3 with (fail)
    clear q0 z0
    have HS1 := Lib.hid (show w1.heap[pb]? = w1.heap[pb]? ∧ w1.heap[w.heap.size]? = w1.heap[w.heap.size]? from ⟨rfl, rfl⟩)
    have HSD := Lib.hid (show w1.drew.heap[pb]? = w1.heap[pb]? ∧ w1.drew.heap[w.heap.size]? = w1.heap[w.heap.size]? from ⟨rfl, rfl⟩)
    refine wp_region_noPanic ?_
    refine wp_region_held (S := fun w' => w'.heap[pb]? = w1.heap[pb]? ∧ w'.heap[w.heap.size]? = w1.heap[w.heap.size]?) (by kernel_rfl) ?_
    change wpAnyH _ _ _ _ _ 32 (Array.replicate 32 false) _ _
    refine wpAnyH_take (i := 0) (v := ?vl0) (by simp only [List.getElem?_toArray, List.getElem?_cons_succ, List.getElem?_cons_zero]; rfl) (by kernel_rfl) (by kernel_rfl) (by kernel_rfl) (fun _ _ _ h => h) (.inl ⟨by rfl, ?tl0⟩) ?sl0 ?_
    case tl0 => (intro w' h; clear h; go_simp; try rfl)
    case sl0 => exact HSD.out
    (try simp only [Act.put, List.setIfInBounds_toArray, List.set_cons_zero, List.set_cons_succ])
    refine wpAnyH_take (i := 1) (v := ?vl1) (by simp only [List.getElem?_toArray, List.getElem?_cons_succ, List.getElem?_cons_zero]; rfl) (by kernel_rfl) (by kernel_rfl) (by kernel_rfl) (fun _ _ _ h => h) (.inl ⟨by rfl, ?tl1⟩) ?sl1 ?_
    case tl1 => (intro w' h; clear h; go_simp; try rfl)
    case sl1 => exact HSD.out
    (try simp only [Act.put, List.setIfInBounds_toArray, List.set_cons_zero, List.set_cons_succ])
    refine wpAnyH_take (i := 2) (v := ?vl2) (by simp only [List.getElem?_toArray, List.getElem?_cons_succ, List.getElem?_cons_zero]; rfl) (by kernel_rfl) (by kernel_rfl) (by kernel_rfl) (fun _ _ _ h => h) (.inl ⟨by rfl, ?tl2⟩) ?sl2 ?_
    case tl2 => (intro w' h; clear h; go_simp; try rfl)
    case sl2 => exact HSD.out
    (try simp only [Act.put, List.setIfInBounds_toArray, List.set_cons_zero, List.set_cons_succ])
    refine wpAnyH_take (i := 3) (v := ?vl3) (by simp only [List.getElem?_toArray, List.getElem?_cons_succ, List.getElem?_cons_zero]; rfl) (by kernel_rfl) (by kernel_rfl) (by kernel_rfl) (fun _ _ _ h => h) (.inl ⟨by rfl, ?tl3⟩) ?sl3 ?_
    case tl3 => (intro w' h; have FK := HSS.out w' h; clear h; go_split_ands; go_simp; try rfl)
    case sl3 => exact HSD.out
    (try simp only [Act.put, List.setIfInBounds_toArray, List.set_cons_zero, List.set_cons_succ])
    refine wpAnyH_take (i := 4) (v := ?vl4) (by simp only [List.getElem?_toArray, List.getElem?_cons_succ, List.getElem?_cons_zero]; rfl) (by kernel_rfl) (by kernel_rfl) (by kernel_rfl) (fun _ _ _ h => h) (.inl ⟨by rfl, ?tl4⟩) ?sl4 ?_
    case tl4 => (intro w' h; clear h; go_simp; try rfl)
    case sl4 => exact HSD.out
    (try simp only [Act.put, List.setIfInBounds_toArray, List.set_cons_zero, List.set_cons_succ])
    refine wpAnyH_take (i := 5) (v := ?vl5) (by simp only [List.getElem?_toArray, List.getElem?_cons_succ, List.getElem?_cons_zero]; rfl) (by kernel_rfl) (by kernel_rfl) (by kernel_rfl) (fun _ _ _ h => h) (.inl ⟨by rfl, ?tl5⟩) ?sl5 ?_
    case tl5 => (intro w' h; have FK := HSS.out w' h; clear h; go_split_ands; go_simp; try rfl)
    case sl5 => exact HSD.out
    (try simp only [Act.put, List.setIfInBounds_toArray, List.set_cons_zero, List.set_cons_succ])
    refine wpAnyH_take (i := 6) (v := ?vl6) (by simp only [List.getElem?_toArray, List.getElem?_cons_succ, List.getElem?_cons_zero]; rfl) (by kernel_rfl) (by kernel_rfl) (by kernel_rfl) (fun _ _ _ h => h) (.inl ⟨by rfl, ?tl6⟩) ?sl6 ?_
    case tl6 => (intro w' h; clear h; go_simp; try rfl)
    case sl6 => exact HSD.out
    (try simp only [Act.put, List.setIfInBounds_toArray, List.set_cons_zero, List.set_cons_succ])
    refine wpAnyH_take (i := 7) (v := ?vl7) (by simp only [List.getElem?_toArray, List.getElem?_cons_succ, List.getElem?_cons_zero]; rfl) (by kernel_rfl) (by kernel_rfl) (by kernel_rfl) (fun _ _ _ h => h) (.inl ⟨by rfl, ?tl7⟩) ?sl7 ?_
    case tl7 => (intro w' h; have FK := HSS.out w' h; clear h; go_split_ands; go_simp; try rfl)
    case sl7 => exact HSD.out
    (try simp only [Act.put, List.setIfInBounds_toArray, List.set_cons_zero, List.set_cons_succ])
    refine wpAnyH_take (i := 8) (v := ?vl8) (by simp only [List.getElem?_toArray, List.getElem?_cons_succ, List.getElem?_cons_zero]; rfl) (by kernel_rfl) (by kernel_rfl) (by kernel_rfl) (fun _ _ _ h => h) (.inl ⟨by rfl, ?tl8⟩) ?sl8 ?_
    case tl8 => (intro w' h; clear h; go_simp; try rfl)
    case sl8 => exact HSD.out
    (try simp only [Act.put, List.setIfInBounds_toArray, List.set_cons_zero, List.set_cons_succ])
    refine wpAnyH_take (i := 9) (v := ?vl9) (by simp only [List.getElem?_toArray, List.getElem?_cons_succ, List.getElem?_cons_zero]; rfl) (by kernel_rfl) (by kernel_rfl) (by kernel_rfl) (fun _ _ _ h => h) (.inl ⟨by rfl, ?tl9⟩) ?sl9 ?_
    case tl9 => (intro w' h; have FK := HSS.out w' h; clear h; go_split_ands; go_simp; try rfl)
    case sl9 => exact HSD.out
    (try simp only [Act.put, List.setIfInBounds_toArray, List.set_cons_zero, List.set_cons_succ])
    refine wpAnyH_take (i := 10) (v := ?vl10) (by simp only [List.getElem?_toArray, List.getElem?_cons_succ, List.getElem?_cons_zero]; rfl) (by kernel_rfl) (by kernel_rfl) (by kernel_rfl) (fun _ _ _ h => h) (.inl ⟨by rfl, ?tl10⟩) ?sl10 ?_
    case tl10 => (intro w' h; clear h; go_simp; try rfl)
    case sl10 => exact HSD.out
    (try simp only [Act.put, List.setIfInBounds_toArray, List.set_cons_zero, List.set_cons_succ])
    refine wpAnyH_take (i := 11) (v := ?vl11) (by simp only [List.getElem?_toArray, List.getElem?_cons_succ, List.getElem?_cons_zero]; rfl) (by kernel_rfl) (by kernel_rfl) (by kernel_rfl) (fun _ _ _ h => h) (.inl ⟨by rfl, ?tl11⟩) ?sl11 ?_
    case tl11 => (intro w' h; have FK := HSS.out w' h; clear h; go_split_ands; go_simp; try rfl)
    case sl11 => exact HSD.out
    (try simp only [Act.put, List.setIfInBounds_toArray, List.set_cons_zero, List.set_cons_succ])
    refine wpAnyH_take (i := 12) (v := ?vl12) (by simp only [List.getElem?_toArray, List.getElem?_cons_succ, List.getElem?_cons_zero]; rfl) (by kernel_rfl) (by kernel_rfl) (by kernel_rfl) (fun _ _ _ h => h) (.inl ⟨by rfl, ?tl12⟩) ?sl12 ?_
    case tl12 => (intro w' h; clear h; go_simp; try rfl)
    case sl12 => exact HSD.out
    (try simp only [Act.put, List.setIfInBounds_toArray, List.set_cons_zero, List.set_cons_succ])
    refine wpAnyH_take (i := 13) (v := ?vl13) (by simp only [List.getElem?_toArray, List.getElem?_cons_succ, List.getElem?_cons_zero]; rfl) (by kernel_rfl) (by kernel_rfl) (by kernel_rfl) (fun _ _ _ h => h) (.inl ⟨by rfl, ?tl13⟩) ?sl13 ?_
    case tl13 => (intro w' h; have FK := HSS.out w' h; clear h; go_split_ands; go_simp; try rfl)
    case sl13 => exact HSD.out
    (try simp only [Act.put, List.setIfInBounds_toArray, List.set_cons_zero, List.set_cons_succ])
    refine wpAnyH_take (i := 15) (v := ?vlb15) (by simp only [List.getElem?_toArray, List.getElem?_cons_succ, List.getElem?_cons_zero]; rfl) (by kernel_rfl) (by kernel_rfl) (by kernel_rfl) (fun _ _ _ h => h) (.inl ⟨by rfl, ?tlb15⟩) ?slb15 ?_
    case tlb15 => (intro w' h; clear h; go_simp; try rfl)
    case slb15 => exact HSD.out
    (try simp only [Act.put, List.setIfInBounds_toArray, List.set_cons_zero, List.set_cons_succ])
    refine wpAnyH_take (i := 16) (v := ?vlb16) (by simp only [List.getElem?_toArray, List.getElem?_cons_succ, List.getElem?_cons_zero]; rfl) (by kernel_rfl) (by kernel_rfl) (by kernel_rfl) (fun _ _ _ h => h) (.inl ⟨by rfl, ?tlb16⟩) ?slb16 ?_
    case tlb16 => (intro w' h; clear h; go_simp; try rfl)
    case slb16 => exact HSD.out
    (try simp only [Act.put, List.setIfInBounds_toArray, List.set_cons_zero, List.set_cons_succ])
    refine wpAnyH_take (i := 17) (v := ?vlb17) (by simp only [List.getElem?_toArray, List.getElem?_cons_succ, List.getElem?_cons_zero]; rfl) (by kernel_rfl) (by kernel_rfl) (by kernel_rfl) (fun _ _ _ h => h) (.inl ⟨by rfl, ?tlb17⟩) ?slb17 ?_
    case tlb17 => (intro w' h; clear h; go_simp; try rfl)
    case slb17 => exact HSD.out
    (try simp only [Act.put, List.setIfInBounds_toArray, List.set_cons_zero, List.set_cons_succ])
    refine wpAnyH_take (i := 18) (v := ?vlb18) (by simp only [List.getElem?_toArray, List.getElem?_cons_succ, List.getElem?_cons_zero]; rfl) (by kernel_rfl) (by kernel_rfl) (by kernel_rfl) (fun _ _ _ h => h) (.inl ⟨by rfl, ?tlb18⟩) ?slb18 ?_
    case tlb18 => (intro w' h; have FK := HSS.out w' h; clear h; go_split_ands; go_simp; try rfl)
    case slb18 => exact HSD.out
    (try simp only [Act.put, List.setIfInBounds_toArray, List.set_cons_zero, List.set_cons_succ])
    refine wpAnyH_take (i := 19) (v := ?vlb19) (by simp only [List.getElem?_toArray, List.getElem?_cons_succ, List.getElem?_cons_zero]; rfl) (by kernel_rfl) (by kernel_rfl) (by kernel_rfl) (fun _ _ _ h => h) (.inl ⟨by rfl, ?tlb19⟩) ?slb19 ?_
    case tlb19 => (intro w' h; clear h; go_simp; try rfl)
    case slb19 => exact HSD.out
    (try simp only [Act.put, List.setIfInBounds_toArray, List.set_cons_zero, List.set_cons_succ])
    refine wpAnyH_take (i := 20) (v := ?vlb20) (by simp only [List.getElem?_toArray, List.getElem?_cons_succ, List.getElem?_cons_zero]; rfl) (by kernel_rfl) (by kernel_rfl) (by kernel_rfl) (fun _ _ _ h => h) (.inl ⟨by rfl, ?tlb20⟩) ?slb20 ?_
    case tlb20 => (intro w' h; have FK := HSS.out w' h; clear h; go_split_ands; go_simp; try rfl)
    case slb20 => exact HSD.out
    (try simp only [Act.put, List.setIfInBounds_toArray, List.set_cons_zero, List.set_cons_succ])
    refine wpAnyH_take (i := 21) (v := ?vlb21) (by simp only [List.getElem?_toArray, List.getElem?_cons_succ, List.getElem?_cons_zero]; rfl) (by kernel_rfl) (by kernel_rfl) (by kernel_rfl) (fun _ _ _ h => h) (.inl ⟨by rfl, ?tlb21⟩) ?slb21 ?_
    case tlb21 => (intro w' h; clear h; go_simp; try rfl)
    case slb21 => exact HSD.out
    (try simp only [Act.put, List.setIfInBounds_toArray, List.set_cons_zero, List.set_cons_succ])
    refine wpAnyH_take (i := 22) (v := ?vlb22) (by simp only [List.getElem?_toArray, List.getElem?_cons_succ, List.getElem?_cons_zero]; rfl) (by kernel_rfl) (by kernel_rfl) (by kernel_rfl) (fun _ _ _ h => h) (.inl ⟨by rfl, ?tlb22⟩) ?slb22 ?_
    case tlb22 => (intro w' h; have FK := HSS.out w' h; clear h; go_split_ands; go_simp; try rfl)
    case slb22 => exact HSD.out
    (try simp only [Act.put, List.setIfInBounds_toArray, List.set_cons_zero, List.set_cons_succ])
    refine wpAnyH_take (i := 23) (v := ?vlb23) (by simp only [List.getElem?_toArray, List.getElem?_cons_succ, List.getElem?_cons_zero]; rfl) (by kernel_rfl) (by kernel_rfl) (by kernel_rfl) (fun _ _ _ h => h) (.inl ⟨by rfl, ?tlb23⟩) ?slb23 ?_
    case tlb23 => (intro w' h; clear h; go_simp; try rfl)
    case slb23 => exact HSD.out
    (try simp only [Act.put, List.setIfInBounds_toArray, List.set_cons_zero, List.set_cons_succ])
    refine wpAnyH_take (i := 24) (v := ?vlb24) (by simp only [List.getElem?_toArray, List.getElem?_cons_succ, List.getElem?_cons_zero]; rfl) (by kernel_rfl) (by kernel_rfl) (by kernel_rfl) (fun _ _ _ h => h) (.inl ⟨by rfl, ?tlb24⟩) ?slb24 ?_
    case tlb24 => (intro w' h; have FK := HSS.out w' h; clear h; go_split_ands; go_simp; try rfl)
    case slb24 => exact HSD.out
    (try simp only [Act.put, List.setIfInBounds_toArray, List.set_cons_zero, List.set_cons_succ])
    refine wpAnyH_take (i := 25) (v := ?vlb25) (by simp only [List.getElem?_toArray, List.getElem?_cons_succ, List.getElem?_cons_zero]; rfl) (by kernel_rfl) (by kernel_rfl) (by kernel_rfl) (fun _ _ _ h => h) (.inl ⟨by rfl, ?tlb25⟩) ?slb25 ?_
    case tlb25 => (intro w' h; clear h; go_simp; try rfl)
    case slb25 => exact HSD.out
    (try simp only [Act.put, List.setIfInBounds_toArray, List.set_cons_zero, List.set_cons_succ])
    refine wpAnyH_take (i := 26) (v := ?vlb26) (by simp only [List.getElem?_toArray, List.getElem?_cons_succ, List.getElem?_cons_zero]; rfl) (by kernel_rfl) (by kernel_rfl) (by kernel_rfl) (fun _ _ _ h => h) (.inl ⟨by rfl, ?tlb26⟩) ?slb26 ?_
    case tlb26 => (intro w' h; have FK := HSS.out w' h; clear h; go_split_ands; go_simp; try rfl)
    case slb26 => exact HSD.out
    (try simp only [Act.put, List.setIfInBounds_toArray, List.set_cons_zero, List.set_cons_succ])
    refine wpAnyH_take (i := 27) (v := ?vlb27) (by simp only [List.getElem?_toArray, List.getElem?_cons_succ, List.getElem?_cons_zero]; rfl) (by kernel_rfl) (by kernel_rfl) (by kernel_rfl) (fun _ _ _ h => h) (.inl ⟨by rfl, ?tlb27⟩) ?slb27 ?_
    case tlb27 => (intro w' h; clear h; go_simp; try rfl)
    case slb27 => exact HSD.out
    (try simp only [Act.put, List.setIfInBounds_toArray, List.set_cons_zero, List.set_cons_succ])
    refine wpAnyH_take (i := 28) (v := ?vlb28) (by simp only [List.getElem?_toArray, List.getElem?_cons_succ, List.getElem?_cons_zero]; rfl) (by kernel_rfl) (by kernel_rfl) (by kernel_rfl) (fun _ _ _ h => h) (.inl ⟨by rfl, ?tlb28⟩) ?slb28 ?_
    case tlb28 => (intro w' h; have FK := HSS.out w' h; clear h; go_split_ands; go_simp; try rfl)
    case slb28 => exact HSD.out
    (try simp only [Act.put, List.setIfInBounds_toArray, List.set_cons_zero, List.set_cons_succ])
    refine wpAnyH_one (i := 14) (by kernel_rfl) ?_
    refine wpOp_call (by simp only [List.getElem?_toArray, List.getElem?_cons_succ, List.getElem?_cons_zero]; rfl) (by rfl) (by go_simp; first | exact ⟨rfl, rfl⟩ | rfl) ?_
    refine (line_gen2 s.g s.gc s.W s.H _ x0 y0 x1 y1 k _ HP1.out.pl.drew).mono ?_
    rintro e w2 ⟨rfl, hl⟩
    have HL2 := Lib.hid hl
    have HS2 := Lib.hid (show w2.heap[pb]? = w1.heap[pb]? ∧ w2.heap[w.heap.size]? = w1.heap[w.heap.size]? from ⟨hl.1.block pb (lt_of_block HP1.out.pr) (fun e => by injection e with e; exact blk_ne HP1.out.pr HP1.out.pl.ce (by decide) e), hl.1.block w.heap.size (lt_of_block HXS.out) (fun e => by injection e with e; exact blk_ne HXS.out HP1.out.pl.ce (by decide) e)⟩)
    have HR2 := Lib.hid (show RPl base w2 s.rg s.W s.H s.lv (s.ts.map nln) from ⟨(hl.1.block _ (lt_of_block HP1.out.rp.pl) (fun e => by injection e with e; exact blk_ne HP1.out.rp.pl HP1.out.pl.ce (by decide) e)).trans HP1.out.rp.pl, row_keepB HP1.out.rp.own (fun g hg => by obtain ⟨cs, fr, hq⟩ := row_blk HP1.out.rp.own hg; exact hl.1.block g (lt_of_block hq) (fun e => by injection e with e; exact blk_ne hq HP1.out.pl.ce (by decide) e)), HP1.out.rp.bg⟩)
    clear hl
    refine ⟨_, rfl, HS2.out, ?_⟩
    (try simp only [Act.put, List.setIfInBounds_toArray, List.set_cons_zero, List.set_cons_succ])
    refine wpAnyH_one (i := 29) (by kernel_rfl) ?_
    refine wpOp_call (by simp only [List.getElem?_toArray, List.getElem?_cons_succ, List.getElem?_cons_zero]; rfl) (by rfl) (by go_simp; first | exact ⟨rfl, rfl⟩ | rfl) ?_
    refine (rline_gen base s.rg s.W s.H s.lv (s.ts.map nln) x0 y0 x1 y1 k w2 HR2.out (by rw [List.length_map]; omega)).mono ?_
    rintro e w3 ⟨rfl, hr⟩
    have HR3 := Lib.hid hr
    have HS3 := Lib.hid (show w3.heap[pb]? = w1.heap[pb]? ∧ w3.heap[w.heap.size]? = w1.heap[w.heap.size]? from by
      obtain ⟨lv9, _, r2, _⟩ := hr
      have k1 := HS2.out.1.trans HP1.out.pr
      have k2 := HS2.out.2.trans HXS.out
      refine ⟨(r2.block pb (lt_of_block k1) ?_).trans HS2.out.1, (r2.block w.heap.size (lt_of_block k2) ?_).trans HS2.out.2⟩
      · rintro (e | e)
        · exact blk_ne k1 HR2.out.pl (by decide) e
        · obtain ⟨cs, fr, hq⟩ := row_blk HR2.out.own e; exact blk_ne k1 hq (by decide) rfl
      · rintro (e | e)
        · exact blk_ne k2 HR2.out.pl (by decide) e
        · obtain ⟨cs, fr, hq⟩ := row_blk HR2.out.own e; exact blk_ne k2 hq (by decide) rfl)
    clear hr
    refine ⟨_, rfl, HS3.out, ?_⟩
    (try simp only [Act.put, List.setIfInBounds_toArray, List.set_cons_zero, List.set_cons_succ])
    refine wpAnyH_take (i := 30) (v := ?vlc30) (by simp only [List.getElem?_toArray, List.getElem?_cons_succ, List.getElem?_cons_zero]; rfl) (by kernel_rfl) (by kernel_rfl) (by kernel_rfl) (fun _ _ _ h => h) (.inl ⟨by rfl, ?tlc30⟩) ?slc30 ?_
    case tlc30 => (intro w' h; clear h; go_simp; try rfl)
    case slc30 => exact HS3.out
    (try simp only [Act.put, List.setIfInBounds_toArray, List.set_cons_zero, List.set_cons_succ])
    refine wpAnyH_take (i := 31) (v := ?vlc31) (by simp only [List.getElem?_toArray, List.getElem?_cons_succ, List.getElem?_cons_zero]; rfl) (by kernel_rfl) (by kernel_rfl) (by kernel_rfl) (fun _ _ _ h => h) (.inl ⟨by rfl, ?tlc31⟩) ?slc31 ?_
    case tlc31 => (intro w' h; clear h; go_simp; try rfl)
    case slc31 => exact HS3.out
    (try simp only [Act.put, List.setIfInBounds_toArray, List.set_cons_zero, List.set_cons_succ])
    refine wpAnyH_done (by kernel_rfl) (NoPanic.normal ?_) _
    have HZ := Lib.hid (show StepR base w pb s (.returned (.bool true)) w3 from ((HP1.out.later (Below.drew (Below.refl w1.heap.size w1))).both HL2.out HR3.out (by unfold lnsL; split <;> simp)).from_ HP.out (Below.drew HB1.out))
    clear HS1 HSD HS2 HS3 HL2 HR2 HR3
    go_wp2
    go_ret
    exact HZ.out
  · by_cases h2 : o = 2
    · subst h2
      go_enter Try.func27, Try.ntmps27
      go_upto_region 1 with (fail)
      rw [← hw1]
      clear hw1
      go_upto_region 5 with (fail)
      clear q0 z0
      have HS1 := Lib.hid (show w1.heap[pb]? = w1.heap[pb]? ∧ w1.heap[w.heap.size]? = w1.heap[w.heap.size]? from ⟨rfl, rfl⟩)
      have HSD := Lib.hid (show w1.drew.heap[pb]? = w1.heap[pb]? ∧ w1.drew.heap[w.heap.size]? = w1.heap[w.heap.size]? from ⟨rfl, rfl⟩)
      refine wp_region_noPanic ?_
      refine wp_region_held (S := fun w' => w'.heap[pb]? = w1.heap[pb]? ∧ w'.heap[w.heap.size]? = w1.heap[w.heap.size]?) (by kernel_rfl) ?_
      change wpAnyH _ _ _ _ _ 20 (Array.replicate 20 false) _ _
      refine wpAnyH_take (i := 0) (v := ?vb0) (by simp only [List.getElem?_toArray, List.getElem?_cons_succ, List.getElem?_cons_zero]; rfl) (by kernel_rfl) (by kernel_rfl) (by kernel_rfl) (fun _ _ _ h => h) (.inl ⟨by rfl, ?tb0⟩) ?sb0 ?_
      case tb0 => (intro w' h; clear h; go_simp; try rfl)
      case sb0 => exact HSD.out
      (try simp only [Act.put, List.setIfInBounds_toArray, List.set_cons_zero, List.set_cons_succ])
      refine wpAnyH_take (i := 1) (v := ?vb1) (by simp only [List.getElem?_toArray, List.getElem?_cons_succ, List.getElem?_cons_zero]; rfl) (by kernel_rfl) (by kernel_rfl) (by kernel_rfl) (fun _ _ _ h => h) (.inl ⟨by rfl, ?tb1⟩) ?sb1 ?_
      case tb1 => (intro w' h; clear h; go_simp; try rfl)
      case sb1 => exact HSD.out
      (try simp only [Act.put, List.setIfInBounds_toArray, List.set_cons_zero, List.set_cons_succ])
      refine wpAnyH_take (i := 2) (v := ?vb2) (by simp only [List.getElem?_toArray, List.getElem?_cons_succ, List.getElem?_cons_zero]; rfl) (by kernel_rfl) (by kernel_rfl) (by kernel_rfl) (fun _ _ _ h => h) (.inl ⟨by rfl, ?tb2⟩) ?sb2 ?_
      case tb2 => (intro w' h; clear h; go_simp; try rfl)
      case sb2 => exact HSD.out
      (try simp only [Act.put, List.setIfInBounds_toArray, List.set_cons_zero, List.set_cons_succ])
      refine wpAnyH_take (i := 3) (v := ?vb3) (by simp only [List.getElem?_toArray, List.getElem?_cons_succ, List.getElem?_cons_zero]; rfl) (by kernel_rfl) (by kernel_rfl) (by kernel_rfl) (fun _ _ _ h => h) (.inl ⟨by rfl, ?tb3⟩) ?sb3 ?_
      case tb3 => (intro w' h; have FK := HSS.out w' h; clear h; go_split_ands; go_simp; try rfl)
      case sb3 => exact HSD.out
      (try simp only [Act.put, List.setIfInBounds_toArray, List.set_cons_zero, List.set_cons_succ])
      refine wpAnyH_take (i := 4) (v := ?vb4) (by simp only [List.getElem?_toArray, List.getElem?_cons_succ, List.getElem?_cons_zero]; rfl) (by kernel_rfl) (by kernel_rfl) (by kernel_rfl) (fun _ _ _ h => h) (.inl ⟨by rfl, ?tb4⟩) ?sb4 ?_
      case tb4 => (intro w' h; clear h; go_simp; try rfl)
      case sb4 => exact HSD.out
      (try simp only [Act.put, List.setIfInBounds_toArray, List.set_cons_zero, List.set_cons_succ])
      refine wpAnyH_take (i := 5) (v := ?vb5) (by simp only [List.getElem?_toArray, List.getElem?_cons_succ, List.getElem?_cons_zero]; rfl) (by kernel_rfl) (by kernel_rfl) (by kernel_rfl) (fun _ _ _ h => h) (.inl ⟨by rfl, ?tb5⟩) ?sb5 ?_
      case tb5 => (intro w' h; have FK := HSS.out w' h; clear h; go_split_ands; go_simp; try rfl)
      case sb5 => exact HSD.out
      (try simp only [Act.put, List.setIfInBounds_toArray, List.set_cons_zero, List.set_cons_succ])
      refine wpAnyH_take (i := 6) (v := ?vb6) (by simp only [List.getElem?_toArray, List.getElem?_cons_succ, List.getElem?_cons_zero]; rfl) (by kernel_rfl) (by kernel_rfl) (by kernel_rfl) (fun _ _ _ h => h) (.inl ⟨by rfl, ?tb6⟩) ?sb6 ?_
      case tb6 => (intro w' h; clear h; go_simp; try rfl)
      case sb6 => exact HSD.out
      (try simp only [Act.put, List.setIfInBounds_toArray, List.set_cons_zero, List.set_cons_succ])
      refine wpAnyH_take (i := 7) (v := ?vb7) (by simp only [List.getElem?_toArray, List.getElem?_cons_succ, List.getElem?_cons_zero]; rfl) (by kernel_rfl) (by kernel_rfl) (by kernel_rfl) (fun _ _ _ h => h) (.inl ⟨by rfl, ?tb7⟩) ?sb7 ?_
      case tb7 => (intro w' h; have FK := HSS.out w' h; clear h; go_split_ands; go_simp; try rfl)
      case sb7 => exact HSD.out
      (try simp only [Act.put, List.setIfInBounds_toArray, List.set_cons_zero, List.set_cons_succ])
      refine wpAnyH_take (i := 9) (v := ?vbb9) (by simp only [List.getElem?_toArray, List.getElem?_cons_succ, List.getElem?_cons_zero]; rfl) (by kernel_rfl) (by kernel_rfl) (by kernel_rfl) (fun _ _ _ h => h) (.inl ⟨by rfl, ?tbb9⟩) ?sbb9 ?_
      case tbb9 => (intro w' h; clear h; go_simp; try rfl)
      case sbb9 => exact HSD.out
      (try simp only [Act.put, List.setIfInBounds_toArray, List.set_cons_zero, List.set_cons_succ])
      refine wpAnyH_take (i := 10) (v := ?vbb10) (by simp only [List.getElem?_toArray, List.getElem?_cons_succ, List.getElem?_cons_zero]; rfl) (by kernel_rfl) (by kernel_rfl) (by kernel_rfl) (fun _ _ _ h => h) (.inl ⟨by rfl, ?tbb10⟩) ?sbb10 ?_
      case tbb10 => (intro w' h; clear h; go_simp; try rfl)
      case sbb10 => exact HSD.out
      (try simp only [Act.put, List.setIfInBounds_toArray, List.set_cons_zero, List.set_cons_succ])
      refine wpAnyH_take (i := 11) (v := ?vbb11) (by simp only [List.getElem?_toArray, List.getElem?_cons_succ, List.getElem?_cons_zero]; rfl) (by kernel_rfl) (by kernel_rfl) (by kernel_rfl) (fun _ _ _ h => h) (.inl ⟨by rfl, ?tbb11⟩) ?sbb11 ?_
      case tbb11 => (intro w' h; clear h; go_simp; try rfl)
      case sbb11 => exact HSD.out
      (try simp only [Act.put, List.setIfInBounds_toArray, List.set_cons_zero, List.set_cons_succ])
      refine wpAnyH_take (i := 12) (v := ?vbb12) (by simp only [List.getElem?_toArray, List.getElem?_cons_succ, List.getElem?_cons_zero]; rfl) (by kernel_rfl) (by kernel_rfl) (by kernel_rfl) (fun _ _ _ h => h) (.inl ⟨by rfl, ?tbb12⟩) ?sbb12 ?_
      case tbb12 => (intro w' h; have FK := HSS.out w' h; clear h; go_split_ands; go_simp; try rfl)
      case sbb12 => exact HSD.out
      (try simp only [Act.put, List.setIfInBounds_toArray, List.set_cons_zero, List.set_cons_succ])
      refine wpAnyH_take (i := 13) (v := ?vbb13) (by simp only [List.getElem?_toArray, List.getElem?_cons_succ, List.getElem?_cons_zero]; rfl) (by kernel_rfl) (by kernel_rfl) (by kernel_rfl) (fun _ _ _ h => h) (.inl ⟨by rfl, ?tbb13⟩) ?sbb13 ?_
      case tbb13 => (intro w' h; clear h; go_simp; try rfl)
      case sbb13 => exact HSD.out
      (try simp only [Act.put, List.setIfInBounds_toArray, List.set_cons_zero, List.set_cons_succ])
      refine wpAnyH_take (i := 14) (v := ?vbb14) (by simp only [List.getElem?_toArray, List.getElem?_cons_succ, List.getElem?_cons_zero]; rfl) (by kernel_rfl) (by kernel_rfl) (by kernel_rfl) (fun _ _ _ h => h) (.inl ⟨by rfl, ?tbb14⟩) ?sbb14 ?_
      case tbb14 => (intro w' h; have FK := HSS.out w' h; clear h; go_split_ands; go_simp; try rfl)
      case sbb14 => exact HSD.out
      (try simp only [Act.put, List.setIfInBounds_toArray, List.set_cons_zero, List.set_cons_succ])
      refine wpAnyH_take (i := 15) (v := ?vbb15) (by simp only [List.getElem?_toArray, List.getElem?_cons_succ, List.getElem?_cons_zero]; rfl) (by kernel_rfl) (by kernel_rfl) (by kernel_rfl) (fun _ _ _ h => h) (.inl ⟨by rfl, ?tbb15⟩) ?sbb15 ?_
      case tbb15 => (intro w' h; clear h; go_simp; try rfl)
      case sbb15 => exact HSD.out
      (try simp only [Act.put, List.setIfInBounds_toArray, List.set_cons_zero, List.set_cons_succ])
      refine wpAnyH_take (i := 16) (v := ?vbb16) (by simp only [List.getElem?_toArray, List.getElem?_cons_succ, List.getElem?_cons_zero]; rfl) (by kernel_rfl) (by kernel_rfl) (by kernel_rfl) (fun _ _ _ h => h) (.inl ⟨by rfl, ?tbb16⟩) ?sbb16 ?_
      case tbb16 => (intro w' h; have FK := HSS.out w' h; clear h; go_split_ands; go_simp; try rfl)
      case sbb16 => exact HSD.out
      (try simp only [Act.put, List.setIfInBounds_toArray, List.set_cons_zero, List.set_cons_succ])
      refine wpAnyH_one (i := 8) (by kernel_rfl) ?_
      refine wpOp_call (by simp only [List.getElem?_toArray, List.getElem?_cons_succ, List.getElem?_cons_zero]; rfl) (by rfl) (by go_simp; first | exact ⟨rfl, rfl⟩ | rfl) ?_
      refine (box_gen2 s.g s.gc s.W s.H _ a b c d k _ ha hb hc hd HP1.out.pl.drew).mono ?_
      rintro e w2 ⟨rfl, hl⟩
      have HL2 := Lib.hid hl
      have HS2 := Lib.hid (show w2.heap[pb]? = w1.heap[pb]? ∧ w2.heap[w.heap.size]? = w1.heap[w.heap.size]? from ⟨hl.1.block pb (lt_of_block HP1.out.pr) (fun e => by injection e with e; exact blk_ne HP1.out.pr HP1.out.pl.ce (by decide) e), hl.1.block w.heap.size (lt_of_block HXS.out) (fun e => by injection e with e; exact blk_ne HXS.out HP1.out.pl.ce (by decide) e)⟩)
      have HR2 := Lib.hid (show RPl base w2 s.rg s.W s.H s.lv (s.ts.map nln) from ⟨(hl.1.block _ (lt_of_block HP1.out.rp.pl) (fun e => by injection e with e; exact blk_ne HP1.out.rp.pl HP1.out.pl.ce (by decide) e)).trans HP1.out.rp.pl, row_keepB HP1.out.rp.own (fun g hg => by obtain ⟨cs, fr, hq⟩ := row_blk HP1.out.rp.own hg; exact hl.1.block g (lt_of_block hq) (fun e => by injection e with e; exact blk_ne hq HP1.out.pl.ce (by decide) e)), HP1.out.rp.bg⟩)
      clear hl
      refine ⟨_, rfl, HS2.out, ?_⟩
      (try simp only [Act.put, List.setIfInBounds_toArray, List.set_cons_zero, List.set_cons_succ])
      refine wpAnyH_one (i := 17) (by kernel_rfl) ?_
      refine wpOp_call (by simp only [List.getElem?_toArray, List.getElem?_cons_succ, List.getElem?_cons_zero]; rfl) (by rfl) (by go_simp; first | exact ⟨rfl, rfl⟩ | rfl) ?_
      refine (rbox_gen base s.rg s.W s.H s.lv (s.ts.map nln) a b c d k w2 HR2.out ha hb hc hd (by rw [List.length_map]; omega)).mono ?_
      rintro e w3 ⟨rfl, hr⟩
      have HR3 := Lib.hid hr
      have HS3 := Lib.hid (show w3.heap[pb]? = w1.heap[pb]? ∧ w3.heap[w.heap.size]? = w1.heap[w.heap.size]? from by
        obtain ⟨lv9, _, r2, _⟩ := hr
        have k1 := HS2.out.1.trans HP1.out.pr
        have k2 := HS2.out.2.trans HXS.out
        refine ⟨(r2.block pb (lt_of_block k1) ?_).trans HS2.out.1, (r2.block w.heap.size (lt_of_block k2) ?_).trans HS2.out.2⟩
        · rintro (e | e)
          · exact blk_ne k1 HR2.out.pl (by decide) e
          · obtain ⟨cs, fr, hq⟩ := row_blk HR2.out.own e; exact blk_ne k1 hq (by decide) rfl
        · rintro (e | e)
          · exact blk_ne k2 HR2.out.pl (by decide) e
          · obtain ⟨cs, fr, hq⟩ := row_blk HR2.out.own e; exact blk_ne k2 hq (by decide) rfl)
      clear hr
      refine ⟨_, rfl, HS3.out, ?_⟩
      (try simp only [Act.put, List.setIfInBounds_toArray, List.set_cons_zero, List.set_cons_succ])
      refine wpAnyH_take (i := 18) (v := ?vbc18) (by simp only [List.getElem?_toArray, List.getElem?_cons_succ, List.getElem?_cons_zero]; rfl) (by kernel_rfl) (by kernel_rfl) (by kernel_rfl) (fun _ _ _ h => h) (.inl ⟨by rfl, ?tbc18⟩) ?sbc18 ?_
      case tbc18 => (intro w' h; clear h; go_simp; try rfl)
      case sbc18 => exact HS3.out
      (try simp only [Act.put, List.setIfInBounds_toArray, List.set_cons_zero, List.set_cons_succ])
      refine wpAnyH_take (i := 19) (v := ?vbc19) (by simp only [List.getElem?_toArray, List.getElem?_cons_succ, List.getElem?_cons_zero]; rfl) (by kernel_rfl) (by kernel_rfl) (by kernel_rfl) (fun _ _ _ h => h) (.inl ⟨by rfl, ?tbc19⟩) ?sbc19 ?_
      case tbc19 => (intro w' h; clear h; go_simp; try rfl)
      case sbc19 => exact HS3.out
      (try simp only [Act.put, List.setIfInBounds_toArray, List.set_cons_zero, List.set_cons_succ])
      refine wpAnyH_done (by kernel_rfl) (NoPanic.normal ?_) _
      have HZ := Lib.hid (show StepR base w pb s (.returned (.bool true)) w3 from ((HP1.out.later (Below.drew (Below.refl w1.heap.size w1))).both HL2.out HR3.out (by unfold lnsB; split <;> simp)).from_ HP.out (Below.drew HB1.out))
      clear HS1 HSD HS2 HS3 HL2 HR2 HR3
      go_wp2
      go_ret
      exact HZ.out
    · obtain ⟨h3, h4⟩ := ho
      have HZ := Lib.hid (show StepR base w pb s (.returned (.bool true)) w1 from HP.out.same HB1.out)
      go_enter Try.func27, Try.ntmps27
      go_upto_region 1 with (fail)
      rw [← hw1]
      clear hw1
      go_wp2
      go_ret
      exact HZ.out
end Go.Proofs.Ytebalohoblaedaa
namespace Go.Proofs.Ytebalohoblaedaa
open Go.RowKit
set_option linter.unusedVariables false
set_option linter.unusedSimpArgs false

theorem cnt_cnt (x : Int) : cnt (cnt x) = cnt x := by unfold cnt; repeat' split <;> simp_all
theorem cntA_merge (l : List A4) : cntA (mergeA l) = mergeA l := by
  have key : ∀ (l : List A4) (o : A4), cntA o = o → cntA (l.foldl mrg o) = l.foldl mrg o := by
    intro l
    induction l with
    | nil => exact fun o h => h
    | cons a l ih =>
      intro o h
      refine ih _ ?_
      rw [mrg_eq]
      have h1 : cnt o.u = o.u := congrArg A4.u h
      have h2 : cnt o.r = o.r := congrArg A4.r h
      have h3 : cnt o.d = o.d := congrArg A4.d h
      have h4 : cnt o.l = o.l := congrArg A4.l h
      have m1 : ∀ x y : Int, cnt x = x → cnt (mx x (cnt y)) = mx x (cnt y) := fun x y h => by unfold mx; split <;> simp only [cnt_cnt, h]
      unfold cntA
      simp only [m1 _ _ h1, m1 _ _ h2, m1 _ _ h3, m1 _ _ h4]
  exact key l zA (by decide +kernel)
theorem merge_two2 (p q : A4) : mergeA [p, q] = mrg (mrg zA p) q := by unfold mergeA; simp only [List.foldl_cons, List.foldl_nil]
theorem merge_one2 (p : A4) : mergeA [p] = mrg zA p := by unfold mergeA; simp only [List.foldl_cons, List.foldl_nil]
theorem fj_merge (l : List A4) : fj zA l = mergeA l := by
  have key : ∀ n, ∀ l : List A4, l.length = n → fj zA l = mergeA l := by
    intro n
    induction n with
    | zero => intro l h; rw [List.eq_nil_of_length_eq_zero h, fj_nil, merge_nil]
    | succ n ih =>
      intro l h
      obtain ⟨m, a, rfl⟩ : ∃ m a, l = m ++ [a] := ⟨l.dropLast, l.getLast (by intro e; rw [e] at h; simp at h), (List.dropLast_concat_getLast _).symm⟩
      have hm : m.length = n := by simpa using h
      rw [fj_append, ih m hm, fj_one]
      have e : mergeA (m ++ [a]) = mrg (mergeA m) a := by unfold mergeA; simp only [List.foldl_append, List.foldl_cons, List.foldl_nil]
      rw [e, merge_two2, ← merge_one2, merge_cnt, cntA_merge]
  exact key _ l rfl
theorem nln_con (ts : List Ln) (x y : Nat) : (ts.map nln).flatMap (con x y) = ts.flatMap (con x y) := by
  induction ts with
  | nil => rfl
  | cons t ts ih => rw [List.map_cons, List.flatMap_cons, List.flatMap_cons, ih, con_nln]
/-- the cells of both plans are the same -/
theorem cell_eq (W H : Nat) (ts : List Ln) (x y : Nat) (hx : x < W) (hy : y < H) : (layL W H ts (List.replicate (W * H) zA)).getD (y * W + x) zA = mergeA ((ts.map nln).flatMap (con x y)) := by
  rw [layL_at W H x y hx hy _ _ (by simp), zA_at W H x y hx hy, fj_merge, nln_con]
theorem nrm_all (ts : List Ln) : ∀ t ∈ ts.map nln, Nrm t := fun t ht => by
  obtain ⟨u, _, rfl⟩ := List.mem_map.1 ht
  exact nrm_nln u
/-- both plans tell the same of a cell -/
theorem at_both (base : Nat) (s : PairS) (hW : s.W ≤ 4096) (hH : s.H ≤ 4096) (hn : s.ts.length ≤ 1073741824) (X Y : Int) : ∃ (r : Int) (b : Bool), (∀ w, PlanAt w s.g s.gc s.W s.H (layL s.W s.H s.ts (List.replicate (s.W * s.H) zA)) → Calls Try.prog 25 #[.pointer (some ⟨s.g, 0, none⟩), .int .i64 X, .int .i64 Y] w fun e w' => e = .returned (.tuple #[.int .i32 r, .bool b]) ∧ Below w.heap.size w w') ∧ (∀ w, RPl base w s.rg s.W s.H s.lv (s.ts.map nln) → Calls Try.prog 48 #[.pointer (some ⟨s.rg, 0, none⟩), .int .i64 X, .int .i64 Y] w fun e w' => e = .returned (.tuple #[.int .i32 r, .bool b]) ∧ Below w.heap.size w w') := by
  by_cases h : X < 0 ∨ (s.W : Int) ≤ X ∨ Y < 0 ∨ (s.H : Int) ≤ Y
  · exact ⟨0, false, fun w hp => at_out _ _ _ _ _ X Y w hp h, fun w hp => rat_out base _ _ _ _ _ X Y w hp h⟩
  · obtain ⟨x, rfl⟩ : ∃ x : Nat, X = (x : Int) := ⟨X.toNat, by omega⟩
    obtain ⟨y, rfl⟩ : ∃ y : Nat, Y = (y : Int) := ⟨Y.toNat, by omega⟩
    have hx : x < s.W := by omega
    have hy : y < s.H := by omega
    refine ⟨if noArms (mergeA ((s.ts.map nln).flatMap (con x y))) = true then 0 else runeA (mergeA ((s.ts.map nln).flatMap (con x y))), !(noArms (mergeA ((s.ts.map nln).flatMap (con x y)))), fun w hp => ?_, fun w hp => ?_⟩
    · have := at_in _ _ _ _ _ x y hx hy w hp
      rw [cell_eq _ _ _ x y hx hy, at_tuple2] at this
      exact this
    · have := rat_in base _ _ _ _ _ x y hx hy hW hH (nrm_all s.ts) (by rw [List.length_map]; exact hn) w hp
      rw [at_tuple2] at this
      exact this
set_option maxRecDepth 100000 in
set_option maxHeartbeats 16000000 in
theorem step_at (base : Nat) (w : World) (pb : Nat) (s : PairS) (hp : PairAt base w pb s) (hW : s.W ≤ 4096) (hH : s.H ≤ 4096) (hn : s.ts.length + 8 ≤ 1073741824) (x0 y0 x1 y1 a b c d k : Int) : Calls Try.prog 27 #[.pointer (some ⟨pb, 0, none⟩), .agg #[.int .i64 3, .int .i64 x0, .int .i64 y0, .int .i64 x1, .int .i64 y1, .int .i64 a, .int .i64 b, .int .i64 c, .int .i64 d, .int .i8 k]] w fun e w' => StepR base w pb s e w' := by
  obtain ⟨w1, hw1⟩ : ∃ z, z = w.alloc (.cells #[.int .i64 3, .int .i64 x0, .int .i64 y0, .int .i64 x1, .int .i64 y1, .int .i64 a, .int .i64 b, .int .i64 c, .int .i64 d, .int .i8 k] 64) := ⟨_, rfl⟩
  have B1 : Below w.heap.size w w1 := by rw [hw1]; exact below_al (Below.refl _ _) _
  have xs1 : w1.heap[w.heap.size]? = some (.cells #[.int .i64 3, .int .i64 x0, .int .i64 y0, .int .i64 x1, .int .i64 y1, .int .i64 a, .int .i64 b, .int .i64 c, .int .i64 d, .int .i8 k] 64 (0, 0)) := by rw [hw1]; exact heap_alloc_new _ _
  have HP := Lib.hid hp
  have HP1 := Lib.hid (hp.later B1)
  have HB1 := Lib.hid B1
  have HSS := Lib.hid (show ∀ w' : World, Below w1.heap.size w1 w' → (pb < w'.heap.size ∧ w.heap.size < w'.heap.size ∧ w'.cell? ⟨pb, 0, none⟩ = some (.pointer (some ⟨s.g, 0, none⟩)) ∧ w'.cell? ⟨pb, 1, none⟩ = some (.pointer (some ⟨s.rg, 0, none⟩)) ∧ w'.cell? ⟨w.heap.size, 1, none⟩ = some (.int .i64 x0) ∧ w'.cell? ⟨w.heap.size, 2, none⟩ = some (.int .i64 y0)) from fun w' h => by
    have h1 := (h.block _ (lt_of_block HP1.out.pr)).trans HP1.out.pr
    have h2 := (h.block _ (lt_of_block xs1)).trans xs1
    refine ⟨lt_of_block h1, lt_of_block h2, ?_, ?_, ?_, ?_⟩ <;> first | (rw [cell_of_row _ _ _ _ _ _ h1]; rfl) | (rw [cell_of_row _ _ _ _ _ _ h2]; rfl))
  have z0 : w.heap.size < w1.heap.size := lt_of_block xs1
  have q0 : w1.cell? ⟨w.heap.size, 0, none⟩ = some (.int .i64 3) := by rw [cell_of_row _ _ _ _ _ _ xs1]; rfl
  clear hp xs1 B1
  obtain ⟨r, bb, hA, hR⟩ := at_both base s hW hH (by omega) x0 y0
  have HA := Lib.hid hA
  have HRR := Lib.hid hR
  clear hA hR
  go_enter Try.func27, Try.ntmps27
  go_upto_region 1 with (fail)
  rw [← hw1]
  clear hw1
  go_upto_region 7 with (fail)
  clear q0 z0
  have HDp := Lib.hid (show Below w1.heap.size w1 w1.drew from Below.drew (Below.refl _ _))
  refine wp_region_noPanic ?_
  refine wp_region_held (S := fun w' => Below w1.heap.size w1 w') (by kernel_rfl) ?_
  change wpAnyH _ _ _ _ _ 14 (Array.replicate 14 false) _ _
  refine wpAnyH_take (i := 0) (v := ?vp0) (by simp only [List.getElem?_toArray, List.getElem?_cons_succ, List.getElem?_cons_zero]; rfl) (by kernel_rfl) (by kernel_rfl) (by kernel_rfl) (fun _ _ _ h => h) (.inl ⟨by rfl, ?tp0⟩) ?sp0 ?_
  case tp0 => (intro w' h; clear h; go_simp; try rfl)
  case sp0 => exact HDp.out
  (try simp only [Act.put, List.setIfInBounds_toArray, List.set_cons_zero, List.set_cons_succ])
  refine wpAnyH_take (i := 1) (v := ?vp1) (by simp only [List.getElem?_toArray, List.getElem?_cons_succ, List.getElem?_cons_zero]; rfl) (by kernel_rfl) (by kernel_rfl) (by kernel_rfl) (fun _ _ _ h => h) (.inl ⟨by rfl, ?tp1⟩) ?sp1 ?_
  case tp1 => (intro w' h; clear h; go_simp; try rfl)
  case sp1 => exact HDp.out
  (try simp only [Act.put, List.setIfInBounds_toArray, List.set_cons_zero, List.set_cons_succ])
  refine wpAnyH_take (i := 2) (v := ?vp2) (by simp only [List.getElem?_toArray, List.getElem?_cons_succ, List.getElem?_cons_zero]; rfl) (by kernel_rfl) (by kernel_rfl) (by kernel_rfl) (fun _ _ _ h => h) (.inl ⟨by rfl, ?tp2⟩) ?sp2 ?_
  case tp2 => (intro w' h; clear h; go_simp; try rfl)
  case sp2 => exact HDp.out
  (try simp only [Act.put, List.setIfInBounds_toArray, List.set_cons_zero, List.set_cons_succ])
  refine wpAnyH_take (i := 3) (v := ?vp3) (by simp only [List.getElem?_toArray, List.getElem?_cons_succ, List.getElem?_cons_zero]; rfl) (by kernel_rfl) (by kernel_rfl) (by kernel_rfl) (fun _ _ _ h => h) (.inl ⟨by rfl, ?tp3⟩) ?sp3 ?_
  case tp3 => (intro w' h; have FK := HSS.out w' h; clear h; go_split_ands; go_simp; try rfl)
  case sp3 => exact HDp.out
  (try simp only [Act.put, List.setIfInBounds_toArray, List.set_cons_zero, List.set_cons_succ])
  refine wpAnyH_take (i := 4) (v := ?vp4) (by simp only [List.getElem?_toArray, List.getElem?_cons_succ, List.getElem?_cons_zero]; rfl) (by kernel_rfl) (by kernel_rfl) (by kernel_rfl) (fun _ _ _ h => h) (.inl ⟨by rfl, ?tp4⟩) ?sp4 ?_
  case tp4 => (intro w' h; clear h; go_simp; try rfl)
  case sp4 => exact HDp.out
  (try simp only [Act.put, List.setIfInBounds_toArray, List.set_cons_zero, List.set_cons_succ])
  refine wpAnyH_take (i := 5) (v := ?vp5) (by simp only [List.getElem?_toArray, List.getElem?_cons_succ, List.getElem?_cons_zero]; rfl) (by kernel_rfl) (by kernel_rfl) (by kernel_rfl) (fun _ _ _ h => h) (.inl ⟨by rfl, ?tp5⟩) ?sp5 ?_
  case tp5 => (intro w' h; have FK := HSS.out w' h; clear h; go_split_ands; go_simp; try rfl)
  case sp5 => exact HDp.out
  (try simp only [Act.put, List.setIfInBounds_toArray, List.set_cons_zero, List.set_cons_succ])
  refine wpAnyH_take (i := 6) (v := ?vp6) (by simp only [List.getElem?_toArray, List.getElem?_cons_succ, List.getElem?_cons_zero]; rfl) (by kernel_rfl) (by kernel_rfl) (by kernel_rfl) (fun _ _ _ h => h) (.inl ⟨by rfl, ?tp6⟩) ?sp6 ?_
  case tp6 => (intro w' h; clear h; go_simp; try rfl)
  case sp6 => exact HDp.out
  (try simp only [Act.put, List.setIfInBounds_toArray, List.set_cons_zero, List.set_cons_succ])
  refine wpAnyH_take (i := 7) (v := ?vp7) (by simp only [List.getElem?_toArray, List.getElem?_cons_succ, List.getElem?_cons_zero]; rfl) (by kernel_rfl) (by kernel_rfl) (by kernel_rfl) (fun _ _ _ h => h) (.inl ⟨by rfl, ?tp7⟩) ?sp7 ?_
  case tp7 => (intro w' h; have FK := HSS.out w' h; clear h; go_split_ands; go_simp; try rfl)
  case sp7 => exact HDp.out
  (try simp only [Act.put, List.setIfInBounds_toArray, List.set_cons_zero, List.set_cons_succ])
  refine wpAnyH_one (i := 8) (by kernel_rfl) ?_
  refine wpOp_call (by simp only [List.getElem?_toArray, List.getElem?_cons_succ, List.getElem?_cons_zero]; rfl) (by rfl) (by go_simp; first | exact ⟨rfl, rfl⟩ | rfl) ?_
  refine (HA.out w1.drew (HP1.out.later HDp.out).pl).mono ?_
  rintro e w2 ⟨rfl, hb⟩
  have H2 := Lib.hid (below_via hb HDp.out)
  clear hb
  refine ⟨_, rfl, H2.out, ?_⟩
  (try simp only [Act.put, List.setIfInBounds_toArray, List.set_cons_zero, List.set_cons_succ])
  refine wpAnyH_take (i := 9) (v := ?vpc9) (by simp only [List.getElem?_toArray, List.getElem?_cons_succ, List.getElem?_cons_zero]; rfl) (by kernel_rfl) (by kernel_rfl) (by kernel_rfl) (fun _ _ _ h => h) (.inl ⟨by rfl, ?tpc9⟩) ?spc9 ?_
  case tpc9 => (intro w' h; clear h; go_simp; try rfl)
  case spc9 => exact H2.out
  (try simp only [Act.put, List.setIfInBounds_toArray, List.set_cons_zero, List.set_cons_succ])
  refine wpAnyH_take (i := 10) (v := ?vpc10) (by simp only [List.getElem?_toArray, List.getElem?_cons_succ, List.getElem?_cons_zero]; rfl) (by kernel_rfl) (by kernel_rfl) (by kernel_rfl) (fun _ _ _ h => h) (.inl ⟨by rfl, ?tpc10⟩) ?spc10 ?_
  case tpc10 => (intro w' h; clear h; go_simp; try rfl)
  case spc10 => exact H2.out
  (try simp only [Act.put, List.setIfInBounds_toArray, List.set_cons_zero, List.set_cons_succ])
  refine wpAnyH_take (i := 11) (v := ?vpc11) (by simp only [List.getElem?_toArray, List.getElem?_cons_succ, List.getElem?_cons_zero]; rfl) (by kernel_rfl) (by kernel_rfl) (by kernel_rfl) (fun _ _ _ h => h) (.inl ⟨by rfl, ?tpc11⟩) ?spc11 ?_
  case tpc11 => (intro w' h; clear h; go_simp; try rfl)
  case spc11 => exact H2.out
  (try simp only [Act.put, List.setIfInBounds_toArray, List.set_cons_zero, List.set_cons_succ])
  refine wpAnyH_take (i := 12) (v := ?vpc12) (by simp only [List.getElem?_toArray, List.getElem?_cons_succ, List.getElem?_cons_zero]; rfl) (by kernel_rfl) (by kernel_rfl) (by kernel_rfl) (fun _ _ _ h => h) (.inl ⟨by rfl, ?tpc12⟩) ?spc12 ?_
  case tpc12 => (intro w' h; clear h; go_simp; try rfl)
  case spc12 => exact H2.out
  (try simp only [Act.put, List.setIfInBounds_toArray, List.set_cons_zero, List.set_cons_succ])
  refine wpAnyH_take (i := 13) (v := ?vpc13) (by simp only [List.getElem?_toArray, List.getElem?_cons_succ, List.getElem?_cons_zero]; rfl) (by kernel_rfl) (by kernel_rfl) (by kernel_rfl) (fun _ _ _ h => h) (.inl ⟨by rfl, ?tpc13⟩) ?spc13 ?_
  case tpc13 => (intro w' h; clear h; go_simp; try rfl)
  case spc13 => exact H2.out
  (try simp only [Act.put, List.setIfInBounds_toArray, List.set_cons_zero, List.set_cons_succ])
  refine wpAnyH_done (by kernel_rfl) (NoPanic.normal ?_) _
  go_upto_region 8 with (fail)
  have HDr := Lib.hid (show Below w1.heap.size w1 w2.drew from Below.drew H2.out)
  refine wp_region_noPanic ?_
  refine wp_region_held (S := fun w' => Below w1.heap.size w1 w') (by kernel_rfl) ?_
  change wpAnyH _ _ _ _ _ 14 (Array.replicate 14 false) _ _
  refine wpAnyH_take (i := 0) (v := ?vr0) (by simp only [List.getElem?_toArray, List.getElem?_cons_succ, List.getElem?_cons_zero]; rfl) (by kernel_rfl) (by kernel_rfl) (by kernel_rfl) (fun _ _ _ h => h) (.inl ⟨by rfl, ?tr0⟩) ?sr0 ?_
  case tr0 => (intro w' h; clear h; go_simp; try rfl)
  case sr0 => exact HDr.out
  (try simp only [Act.put, List.setIfInBounds_toArray, List.set_cons_zero, List.set_cons_succ])
  refine wpAnyH_take (i := 1) (v := ?vr1) (by simp only [List.getElem?_toArray, List.getElem?_cons_succ, List.getElem?_cons_zero]; rfl) (by kernel_rfl) (by kernel_rfl) (by kernel_rfl) (fun _ _ _ h => h) (.inl ⟨by rfl, ?tr1⟩) ?sr1 ?_
  case tr1 => (intro w' h; clear h; go_simp; try rfl)
  case sr1 => exact HDr.out
  (try simp only [Act.put, List.setIfInBounds_toArray, List.set_cons_zero, List.set_cons_succ])
  refine wpAnyH_take (i := 2) (v := ?vr2) (by simp only [List.getElem?_toArray, List.getElem?_cons_succ, List.getElem?_cons_zero]; rfl) (by kernel_rfl) (by kernel_rfl) (by kernel_rfl) (fun _ _ _ h => h) (.inl ⟨by rfl, ?tr2⟩) ?sr2 ?_
  case tr2 => (intro w' h; clear h; go_simp; try rfl)
  case sr2 => exact HDr.out
  (try simp only [Act.put, List.setIfInBounds_toArray, List.set_cons_zero, List.set_cons_succ])
  refine wpAnyH_take (i := 3) (v := ?vr3) (by simp only [List.getElem?_toArray, List.getElem?_cons_succ, List.getElem?_cons_zero]; rfl) (by kernel_rfl) (by kernel_rfl) (by kernel_rfl) (fun _ _ _ h => h) (.inl ⟨by rfl, ?tr3⟩) ?sr3 ?_
  case tr3 => (intro w' h; have FK := HSS.out w' h; clear h; go_split_ands; go_simp; try rfl)
  case sr3 => exact HDr.out
  (try simp only [Act.put, List.setIfInBounds_toArray, List.set_cons_zero, List.set_cons_succ])
  refine wpAnyH_take (i := 4) (v := ?vr4) (by simp only [List.getElem?_toArray, List.getElem?_cons_succ, List.getElem?_cons_zero]; rfl) (by kernel_rfl) (by kernel_rfl) (by kernel_rfl) (fun _ _ _ h => h) (.inl ⟨by rfl, ?tr4⟩) ?sr4 ?_
  case tr4 => (intro w' h; clear h; go_simp; try rfl)
  case sr4 => exact HDr.out
  (try simp only [Act.put, List.setIfInBounds_toArray, List.set_cons_zero, List.set_cons_succ])
  refine wpAnyH_take (i := 5) (v := ?vr5) (by simp only [List.getElem?_toArray, List.getElem?_cons_succ, List.getElem?_cons_zero]; rfl) (by kernel_rfl) (by kernel_rfl) (by kernel_rfl) (fun _ _ _ h => h) (.inl ⟨by rfl, ?tr5⟩) ?sr5 ?_
  case tr5 => (intro w' h; have FK := HSS.out w' h; clear h; go_split_ands; go_simp; try rfl)
  case sr5 => exact HDr.out
  (try simp only [Act.put, List.setIfInBounds_toArray, List.set_cons_zero, List.set_cons_succ])
  refine wpAnyH_take (i := 6) (v := ?vr6) (by simp only [List.getElem?_toArray, List.getElem?_cons_succ, List.getElem?_cons_zero]; rfl) (by kernel_rfl) (by kernel_rfl) (by kernel_rfl) (fun _ _ _ h => h) (.inl ⟨by rfl, ?tr6⟩) ?sr6 ?_
  case tr6 => (intro w' h; clear h; go_simp; try rfl)
  case sr6 => exact HDr.out
  (try simp only [Act.put, List.setIfInBounds_toArray, List.set_cons_zero, List.set_cons_succ])
  refine wpAnyH_take (i := 7) (v := ?vr7) (by simp only [List.getElem?_toArray, List.getElem?_cons_succ, List.getElem?_cons_zero]; rfl) (by kernel_rfl) (by kernel_rfl) (by kernel_rfl) (fun _ _ _ h => h) (.inl ⟨by rfl, ?tr7⟩) ?sr7 ?_
  case tr7 => (intro w' h; have FK := HSS.out w' h; clear h; go_split_ands; go_simp; try rfl)
  case sr7 => exact HDr.out
  (try simp only [Act.put, List.setIfInBounds_toArray, List.set_cons_zero, List.set_cons_succ])
  refine wpAnyH_one (i := 8) (by kernel_rfl) ?_
  refine wpOp_call (by simp only [List.getElem?_toArray, List.getElem?_cons_succ, List.getElem?_cons_zero]; rfl) (by rfl) (by go_simp; first | exact ⟨rfl, rfl⟩ | rfl) ?_
  refine (HRR.out w2.drew (HP1.out.later HDr.out).rp).mono ?_
  rintro e w3 ⟨rfl, hb⟩
  have H3 := Lib.hid (below_via hb HDr.out)
  clear hb
  refine ⟨_, rfl, H3.out, ?_⟩
  (try simp only [Act.put, List.setIfInBounds_toArray, List.set_cons_zero, List.set_cons_succ])
  refine wpAnyH_take (i := 9) (v := ?vrc9) (by simp only [List.getElem?_toArray, List.getElem?_cons_succ, List.getElem?_cons_zero]; rfl) (by kernel_rfl) (by kernel_rfl) (by kernel_rfl) (fun _ _ _ h => h) (.inl ⟨by rfl, ?trc9⟩) ?src9 ?_
  case trc9 => (intro w' h; clear h; go_simp; try rfl)
  case src9 => exact H3.out
  (try simp only [Act.put, List.setIfInBounds_toArray, List.set_cons_zero, List.set_cons_succ])
  refine wpAnyH_take (i := 10) (v := ?vrc10) (by simp only [List.getElem?_toArray, List.getElem?_cons_succ, List.getElem?_cons_zero]; rfl) (by kernel_rfl) (by kernel_rfl) (by kernel_rfl) (fun _ _ _ h => h) (.inl ⟨by rfl, ?trc10⟩) ?src10 ?_
  case trc10 => (intro w' h; clear h; go_simp; try rfl)
  case src10 => exact H3.out
  (try simp only [Act.put, List.setIfInBounds_toArray, List.set_cons_zero, List.set_cons_succ])
  refine wpAnyH_take (i := 11) (v := ?vrc11) (by simp only [List.getElem?_toArray, List.getElem?_cons_succ, List.getElem?_cons_zero]; rfl) (by kernel_rfl) (by kernel_rfl) (by kernel_rfl) (fun _ _ _ h => h) (.inl ⟨by rfl, ?trc11⟩) ?src11 ?_
  case trc11 => (intro w' h; clear h; go_simp; try rfl)
  case src11 => exact H3.out
  (try simp only [Act.put, List.setIfInBounds_toArray, List.set_cons_zero, List.set_cons_succ])
  refine wpAnyH_take (i := 12) (v := ?vrc12) (by simp only [List.getElem?_toArray, List.getElem?_cons_succ, List.getElem?_cons_zero]; rfl) (by kernel_rfl) (by kernel_rfl) (by kernel_rfl) (fun _ _ _ h => h) (.inl ⟨by rfl, ?trc12⟩) ?src12 ?_
  case trc12 => (intro w' h; clear h; go_simp; try rfl)
  case src12 => exact H3.out
  (try simp only [Act.put, List.setIfInBounds_toArray, List.set_cons_zero, List.set_cons_succ])
  refine wpAnyH_take (i := 13) (v := ?vrc13) (by simp only [List.getElem?_toArray, List.getElem?_cons_succ, List.getElem?_cons_zero]; rfl) (by kernel_rfl) (by kernel_rfl) (by kernel_rfl) (fun _ _ _ h => h) (.inl ⟨by rfl, ?trc13⟩) ?src13 ?_
  case trc13 => (intro w' h; clear h; go_simp; try rfl)
  case src13 => exact H3.out
  (try simp only [Act.put, List.setIfInBounds_toArray, List.set_cons_zero, List.set_cons_succ])
  refine wpAnyH_done (by kernel_rfl) (NoPanic.normal ?_) _
  have HZ := Lib.hid (show StepR base w pb s (.returned (.bool true)) w3 from HP.out.same (below_via H3.out HB1.out))
  cases bb
  all_goals
    go_wp2
    go_ret
    exact HZ.out
end Go.Proofs.Ytebalohoblaedaa
namespace Go.Proofs.Ytebalohoblaedaa
open Go.RowKit
set_option linter.unusedVariables false
set_option linter.unusedSimpArgs false

theorem infoSL_ : (Try.prog.info? 67).map (fun i => (i.zero, i.size, i.bytes)) = some (some (.slice none 0 0), 1, 24) := by kernel_rfl
theorem row_baseG {w : World} {base base' : Nat} {t : TypeId} {k : Nat} {v : Value} {n : Nat} {xs : List Value} (h : w.ownsRow base t k v n xs) (hb : base' ≤ base) : w.ownsRow base' t k v n xs := by
  refine ⟨h.1, ?_⟩
  rcases h.2 with hn | ⟨g, cap, cur, e, hbb, rest⟩
  · exact .inl hn
  · exact .inr ⟨g, cap, cur, e, Nat.le_trans hb hbb, rest⟩
theorem txt_rows (W : Nat) (L : List A4) (n : Nat) : Txt (rowsN W L n) := fun i hi => by
  have : i < n := by simpa [rowsN] using hi
  exact ⟨_, rowsN_get W L n i this⟩
set_option maxHeartbeats 2000000 in
/-- a list more is told, in both lists -/
theorem PairAt.tell {base : Nat} {w3 w4 w6 : World} {pb : Nat} {s : PairS} {o1 o2 : Obj} {b5 b6 n : Nat} {v5 v6 tv' wv' : Value} {x : List Value} (h : PairAt base w3 pb s)
    (o5 : w3.ownsRow b5 9 1 v5 n x) (o6 : w3.ownsRow b6 9 1 v6 n x) (hb5 : base ≤ b5) (hb6 : base ≤ b6) (f5 : ∀ k, v5.ownBlock = some k → ¬ SP pb s k) (f6 : ∀ k, v6.ownBlock = some k → ¬ SP pb s k) (f56 : v5.ownBlock = none ∨ v5.ownBlock ≠ v6.ownBlock) (hn : n = x.length) (hx : Txt x) (hx2 : x.length ≤ 4096)
    (t4 : w4.ownsRow base 67 1 tv' (s.told.length + 1) (s.told.map (·.t) ++ [v5])) (g4 : (w3.alloc o1).grownBy w4 s.tv.ownBlock) (p4 : tv'.ownBlock = s.tv.ownBlock ∨ ∃ b, tv'.ownBlock = some b ∧ w3.heap.size ≤ b)
    (t6 : w6.ownsRow base 67 1 wv' (s.told.length + 1) (s.told.map (·.k) ++ [v6])) (g6 : ((w4.setCell ⟨pb, 2, none⟩ tv').alloc o2).grownBy w6 s.wv.ownBlock) (p6 : wv'.ownBlock = s.wv.ownBlock ∨ ∃ b, wv'.ownBlock = some b ∧ w4.heap.size ≤ b) :
    PairAt base (w6.setCell ⟨pb, 3, none⟩ wv') pb { s with tv := tv', wv := wv', told := s.told ++ [⟨v5, v6, x⟩] } ∧ Chg w3 (w6.setCell ⟨pb, 3, none⟩ wv') (fun k => k = pb ∨ s.tv.ownBlock = some k ∨ s.wv.ownBlock = some k) ∧ (w6.setCell ⟨pb, 3, none⟩ wv').ownsRow b5 9 1 v5 n x ∧ (w6.setCell ⟨pb, 3, none⟩ wv').ownsRow b6 9 1 v6 n x := by
  have hs4 : w4.grownBy (w4.setCell ⟨pb, 2, none⟩ tv') (some pb) := only_setCell (only_refl w4 (some pb)) (p := ⟨pb, 2, none⟩) (.inl rfl) tv'
  have hs6 : w6.grownBy (w6.setCell ⟨pb, 3, none⟩ wv') (some pb) := only_setCell (only_refl w6 (some pb)) (p := ⟨pb, 3, none⟩) (.inl rfl) wv'
  have zpb := lt_of_block h.pr
  have hz4 : w3.heap.size ≤ w4.heap.size := by have := g4.size; simp at this; omega
  have T : Chg w3 (w6.setCell ⟨pb, 3, none⟩ wv') (fun k => k = pb ∨ s.tv.ownBlock = some k ∨ s.wv.ownBlock = some k) := by
    have c1 := Chg.of_below (below_al (Below.refl w3.heap.size w3) o1) (fun k => k = pb ∨ s.tv.ownBlock = some k ∨ s.wv.ownBlock = some k)
    have c2 := c1.trans (Chg.of_grown g4 (S := fun k => k = pb ∨ s.tv.ownBlock = some k ∨ s.wv.ownBlock = some k) (fun k hk => .inl (.inr (.inl hk)))) (fun k hk => .inl hk)
    have c3 := c2.trans (Chg.of_grown hs4 (S := fun k => k = pb ∨ s.tv.ownBlock = some k ∨ s.wv.ownBlock = some k) (fun k hk => .inl (.inl (by injection hk with hk; exact hk.symm)))) (fun k hk => .inl hk)
    have c4 := c3.trans (Chg.of_below (below_al (Below.refl (w4.setCell ⟨pb, 2, none⟩ tv').heap.size _) o2) (fun k => k = pb ∨ s.tv.ownBlock = some k ∨ s.wv.ownBlock = some k)) (fun k hk => .inl hk)
    have c5 := c4.trans (Chg.of_grown g6 (S := fun k => k = pb ∨ s.tv.ownBlock = some k ∨ s.wv.ownBlock = some k) (fun k hk => .inl (.inr (.inr hk)))) (fun k hk => .inl hk)
    exact c5.trans (Chg.of_grown hs6 (S := fun k => k = pb ∨ s.tv.ownBlock = some k ∨ s.wv.ownBlock = some k) (fun k hk => .inl (.inl (by injection hk with hk; exact hk.symm)))) (fun k hk => .inl hk)
  -- a block of another type is none of those three
  have free : ∀ {k : Nat} {cs : Array Value} {t : TypeId} {fr : Nat × Nat}, w3.heap[k]? = some (.cells cs t fr) → t ≠ 94 → t ≠ 67 → ¬ (k = pb ∨ s.tv.ownBlock = some k ∨ s.wv.ownBlock = some k) := by
    intro k cs t fr hk h1 h2
    rintro (rfl | e | e)
    · exact blk_ne hk h.pr h1 rfl
    · obtain ⟨cs', fr', hq⟩ := row_blk h.tor e; exact blk_ne hk hq h2 rfl
    · obtain ⟨cs', fr', hq⟩ := row_blk h.wor e; exact blk_ne hk hq h2 rfl
  have keepR : ∀ {b : Nat} {t : TypeId} {k m : Nat} {v : Value} {xs : List Value}, w3.ownsRow b t k v m xs → t ≠ 94 → t ≠ 67 → (w6.setCell ⟨pb, 3, none⟩ wv').ownsRow b t k v m xs := by
    intro b t k m v xs hr h1 h2
    refine row_keepB hr fun g hg => ?_
    obtain ⟨cs, fr, hq⟩ := row_blk hr hg
    exact T.block g (lt_of_block hq) (free hq h1 h2)
  have keepB : ∀ {k : Nat} {cs : Array Value} {t : TypeId} {fr : Nat × Nat}, w3.heap[k]? = some (.cells cs t fr) → t ≠ 94 → t ≠ 67 → (w6.setCell ⟨pb, 3, none⟩ wv').heap[k]? = some (.cells cs t fr) := fun hk h1 h2 => (T.block _ (lt_of_block hk) (free hk h1 h2)).trans hk
  -- the pair's own block
  have q4 : w4.heap[pb]? = some (.cells #[.pointer (some ⟨s.g, 0, none⟩), .pointer (some ⟨s.rg, 0, none⟩), s.tv, s.wv] 94 (0, 0)) := by
    rw [g4.block pb (by simp; omega) (fun e => row_ne_blk h.tor h.pr (by decide) e.symm)]
    exact (heap_alloc_old _ _ zpb).trans h.pr
  have q5 : (w4.setCell ⟨pb, 2, none⟩ tv').heap[pb]? = some (.cells #[.pointer (some ⟨s.g, 0, none⟩), .pointer (some ⟨s.rg, 0, none⟩), tv', s.wv] 94 (0, 0)) := set_blk q4 2 tv'
  have q6 : w6.heap[pb]? = some (.cells #[.pointer (some ⟨s.g, 0, none⟩), .pointer (some ⟨s.rg, 0, none⟩), tv', s.wv] 94 (0, 0)) := by
    rw [g6.block pb (by have := lt_of_block q5; simp at this ⊢; omega) (fun e => row_ne_blk h.wor h.pr (by decide) e.symm)]
    exact (heap_alloc_old _ _ (lt_of_block q5)).trans q5
  have htw : tv'.ownBlock = none ∨ tv'.ownBlock ≠ s.wv.ownBlock := by
    rcases p4 with e | ⟨b, e, hb⟩
    · rw [e]; exact h.tw
    · refine .inr fun e2 => ?_
      have := (row_lt h.wor b (e2.symm.trans e)).1
      omega
  have t5 : (w4.setCell ⟨pb, 2, none⟩ tv').ownsRow base 67 1 tv' (s.told.length + 1) (s.told.map (·.t) ++ [v5]) := t4.kept hs4 (.inr (row_ne_blk t4 q4 (by decide)))
  have t5b := row_later t5 (below_al (Below.refl (w4.setCell ⟨pb, 2, none⟩ tv').heap.size _) o2)
  have t6b : w6.ownsRow base 67 1 tv' (s.told.length + 1) (s.told.map (·.t) ++ [v5]) := t5b.kept g6 htw
  have t7 : (w6.setCell ⟨pb, 3, none⟩ wv').ownsRow base 67 1 tv' (s.told.length + 1) (s.told.map (·.t) ++ [v5]) := t6b.kept hs6 (.inr (row_ne_blk t6b q6 (by decide)))
  have u7 : (w6.setCell ⟨pb, 3, none⟩ wv').ownsRow base 67 1 wv' (s.told.length + 1) (s.told.map (·.k) ++ [v6]) := t6.kept hs6 (.inr (row_ne_blk t6 q6 (by decide)))
  have tw7 : tv'.ownBlock = none ∨ tv'.ownBlock ≠ wv'.ownBlock := by
    rcases p6 with e | ⟨b, e, hb⟩
    · rw [e]; exact htw
    · refine .inr fun e2 => ?_
      have := (row_lt t4 b (e2.trans e)).1
      omega
  have n5 := keepR o5 (by decide) (by decide)
  have n6 := keepR o6 (by decide) (by decide)
  refine ⟨{ pr := set_blk q6 3 wv', pl := ⟨keepB h.pl.pl (by decide) (by decide), keepB h.pl.ce (by decide) (by decide), h.pl.len, h.pl.bw, h.pl.bh, h.pl.bn⟩, rp := ⟨keepB h.rp.pl (by decide) (by decide), keepR h.rp.own (by decide) (by decide), h.rp.bg⟩, tor := by simpa using t7, wor := by simpa using u7, te := ?_, we := ?_, dt := ?_, dw := ?_, tx := ?_, tw := tw7, bp := h.bp, bg := h.bg, bc := h.bc }, T, n5, n6⟩
  · intro e he
    rcases List.mem_append.1 he with he | he
    · exact keepR (h.te e he) (by decide) (by decide)
    · rw [List.mem_singleton] at he; subst he; rw [← hn]; exact row_baseG n5 hb5
  · intro e he
    rcases List.mem_append.1 he with he | he
    · exact keepR (h.we e he) (by decide) (by decide)
    · rw [List.mem_singleton] at he; subst he; rw [← hn]; exact row_baseG n6 hb6
  · refine List.pairwise_append.2 ⟨h.dt, List.pairwise_singleton _ _, fun a ha b hb => ?_⟩
    rw [List.mem_singleton] at hb
    subst hb
    refine (Classical.em (a.t.ownBlock = none)).imp id fun hne e => ?_
    cases hq : a.t.ownBlock with
    | none => exact hne hq
    | some k => exact f5 k (e.symm.trans hq) (.inr (.inr (.inr (.inr (.inr (.inr (.inr ⟨a, ha, .inl hq⟩)))))))
  · intro a ha b hb
    refine (Classical.em (a.t.ownBlock = none)).imp id fun hne e => ?_
    cases hq : a.t.ownBlock with
    | none => exact hne hq
    | some k =>
      rcases List.mem_append.1 ha with ha | ha
      · rcases List.mem_append.1 hb with hb | hb
        · exact (h.dw a ha b hb).elim hne (fun h2 => h2 e)
        · rw [List.mem_singleton] at hb; subst hb
          exact f6 k (e.symm.trans hq) (.inr (.inr (.inr (.inr (.inr (.inr (.inr ⟨a, ha, .inl hq⟩)))))))
      · rw [List.mem_singleton] at ha; subst ha
        rcases List.mem_append.1 hb with hb | hb
        · exact f5 k hq (.inr (.inr (.inr (.inr (.inr (.inr (.inr ⟨b, hb, .inr (e.symm.trans hq)⟩)))))))
        · rw [List.mem_singleton] at hb; subst hb
          exact f56.elim hne (fun h2 => h2 e)
  · intro e he
    rcases List.mem_append.1 he with he | he
    · exact h.tx e he
    · rw [List.mem_singleton] at he; subst he; exact ⟨hx, hx2⟩
set_option maxRecDepth 100000 in
set_option maxHeartbeats 16000000 in
theorem step_rows (base : Nat) (w : World) (pb : Nat) (s : PairS) (hp : PairAt base w pb s) (hW : s.W ≤ 4096) (hH : s.H ≤ 4096) (hn : s.ts.length + 8 ≤ 1073741824) (ht : s.told.length ≤ 1073741824) (hbw : base ≤ w.heap.size) (x0 y0 x1 y1 a b c d k : Int) : Calls Try.prog 27 #[.pointer (some ⟨pb, 0, none⟩), .agg #[.int .i64 4, .int .i64 x0, .int .i64 y0, .int .i64 x1, .int .i64 y1, .int .i64 a, .int .i64 b, .int .i64 c, .int .i64 d, .int .i8 k]] w fun e w' => StepR base w pb s e w' := by
  obtain ⟨i0, hi, hz0, hz1, hz2⟩ := info_parts infoSL_
  have HI := Lib.hid (And.intro hi (And.intro hz0 (And.intro hz1 hz2)))
  clear hi hz0 hz1 hz2
  obtain ⟨w1, hw1⟩ : ∃ z, z = w.alloc (.cells #[.int .i64 4, .int .i64 x0, .int .i64 y0, .int .i64 x1, .int .i64 y1, .int .i64 a, .int .i64 b, .int .i64 c, .int .i64 d, .int .i8 k] 64) := ⟨_, rfl⟩
  have B1 : Below w.heap.size w w1 := by rw [hw1]; exact below_al (Below.refl _ _) _
  have xs1 : w1.heap[w.heap.size]? = some (.cells #[.int .i64 4, .int .i64 x0, .int .i64 y0, .int .i64 x1, .int .i64 y1, .int .i64 a, .int .i64 b, .int .i64 c, .int .i64 d, .int .i8 k] 64 (0, 0)) := by rw [hw1]; exact heap_alloc_new _ _
  have HP := Lib.hid hp
  have HP1 := Lib.hid (hp.later B1)
  have HB1 := Lib.hid B1
  obtain ⟨pt, ct, htv⟩ := row_slice hp.tor
  obtain ⟨pw, cw, hwv⟩ := row_slice hp.wor
  have HSS := Lib.hid (show ∀ w' : World, Below w1.heap.size w1 w' → (pb < w'.heap.size ∧ w'.cell? ⟨pb, 0, none⟩ = some (.pointer (some ⟨s.g, 0, none⟩)) ∧ w'.cell? ⟨pb, 1, none⟩ = some (.pointer (some ⟨s.rg, 0, none⟩)) ∧ w'.cell? ⟨pb, 2, none⟩ = some (.slice pt s.told.length ct) ∧ w'.cell? ⟨pb, 3, none⟩ = some (.slice pw s.told.length cw) ∧ w'.frozen? ⟨pb, 2, none⟩ = false) from fun w' h => by
    have h1 := (h.block _ (lt_of_block HP1.out.pr)).trans HP1.out.pr
    rw [htv, hwv] at h1
    refine ⟨lt_of_block h1, ?_, ?_, ?_, ?_, frozen_of_row _ _ _ _ _ h1⟩ <;> (rw [cell_of_row _ _ _ _ _ _ h1]; rfl))
  have z0 : w.heap.size < w1.heap.size := lt_of_block xs1
  have q0 : w1.cell? ⟨w.heap.size, 0, none⟩ = some (.int .i64 4) := by rw [cell_of_row _ _ _ _ _ _ xs1]; rfl
  have hsz : w.heap.size ≤ w1.heap.size := HB1.out.size
  clear hp xs1 B1
  obtain ⟨M, hM⟩ : ∃ M, M = layL s.W s.H s.ts (List.replicate (s.W * s.H) zA) := ⟨_, rfl⟩
  have HME := Lib.hid (show ∀ y, y < s.H → ∀ x, x < s.W → M.getD (y * s.W + x) zA = mergeA ((s.ts.map nln).flatMap (con x y)) from fun y hy x hx => by rw [hM]; exact cell_eq _ _ _ x y hx hy)
  have HMM := Lib.hid hM
  clear hM
  go_enter Try.func27, Try.ntmps27
  go_upto_region 1 with (fail)
  rw [← hw1]
  clear hw1
  go_upto_region 11 with (fail)
  clear q0 z0
  obtain ⟨zp, c0, c1, c2, c3, f2⟩ := HSS.out w1 (Below.refl _ _)
  go_wp2_with fail
  refine (rows_any s.g s.gc s.W s.H M w1 (by rw [HMM.out]; exact HP1.out.pl)).mono ?_
  rintro e w2 ⟨v5, rfl, own5, hb2⟩
  have HO5 := Lib.hid own5
  have HB2 := Lib.hid hb2
  obtain ⟨p5, k5, rfl⟩ := row_slice own5
  have hs2 := hb2.size
  clear own5 hb2 zp c0 c1 c2 c3 f2
  obtain ⟨zp, c0, c1, c2, c3, f2⟩ := HSS.out w2 HB2.out
  go_wp2_with fail
  refine (rrows_any base s.rg s.W s.H s.lv (s.ts.map nln) M HME.out hW hH (nrm_all s.ts) (by rw [List.length_map]; omega) w2 (HP1.out.later HB2.out).rp).mono ?_
  rintro e w3 ⟨v6, rfl, own6, hb3⟩
  have HO6 := Lib.hid own6
  have HN5 := Lib.hid (row_later HO5.out hb3)
  have HB3 := Lib.hid (below_via hb3 HB2.out)
  obtain ⟨p6, k6, rfl⟩ := row_slice own6
  have hs3 := hb3.size
  clear own6 hb3 zp c0 c1 c2 c3 f2
  have HP3 := Lib.hid (HP1.out.later HB3.out)
  obtain ⟨zp, c0, c1, c2, c3, f2⟩ := HSS.out w3 HB3.out
  go_wp2_with (at_builtin; go_must (refine append_keep rfl (.tmp 117) (.tmp 119) 92 rfl base 67 i0 _ 1 24 Try.underlying92 HI.out.1 HI.out.2.1 HI.out.2.2.1 HI.out.2.2.2 rfl (by decide) _ s.told.length _ rfl (by have := HP3.out.tor; rw [htv] at this; exact this.alloc _) ⟨w3.heap.size, 0, none⟩ 1 1 [.slice p5 s.H k5] rfl rfl ?b1 ?b2 ?b3 ?b4 ?b5 ?_))
  (try case b1 => exact World.news_of_block (cs := #[.slice p5 s.H k5]) (t := 67) (fr := (0, 0)) (heap_alloc_new _ _))
  (try case b2 => first | rfl | (intro u hu; rw [List.mem_singleton] at hu; subst hu; rfl))
  case b3 => unfold maxLen; omega
  case b4 => omega
  case b5 => first | omega | (simp; omega)
  intro v4 w4 own4 gr4 pl4
  obtain ⟨g4, cc4, rfl⟩ : ∃ g c, v4 = .slice (some ⟨g, 0, none⟩) (s.told.length + 1) c := by
    rcases row_form own4 with ⟨_, h, _⟩ | ⟨g, c, h, _⟩
    · omega
    · exact ⟨g, c, h⟩
  have x3 : w3.heap[pb]? = some (.cells #[.pointer (some ⟨s.g, 0, none⟩), .pointer (some ⟨s.rg, 0, none⟩), .slice pt s.told.length ct, .slice pw s.told.length cw] 94 (0, 0)) := by have := HP3.out.pr; rwa [htv, hwv] at this
  have x4 : w4.heap[pb]? = some (.cells #[.pointer (some ⟨s.g, 0, none⟩), .pointer (some ⟨s.rg, 0, none⟩), .slice pt s.told.length ct, .slice pw s.told.length cw] 94 (0, 0)) := by
    rw [gr4.block pb (by simp; omega) (fun e => by have := row_ne_blk HP3.out.tor HP3.out.pr (by decide); rw [htv] at this; exact this e.symm)]
    exact (heap_alloc_old _ _ zp).trans x3
  have y4 := lt_of_block x4
  have d2 : w4.cell? ⟨pb, 2, none⟩ = some (.slice pt s.told.length ct) := by rw [cell_of_row _ _ _ _ _ _ x4]; rfl
  have fz4 : w4.frozen? ⟨pb, 2, none⟩ = false := frozen_of_row _ _ _ _ _ x4
  have HX4 := Lib.hid x4
  have HW4 := Lib.hid (show (w4.setCell ⟨pb, 2, none⟩ (.slice (some ⟨g4, 0, none⟩) (s.told.length + 1) cc4)).ownsRow base 67 1 (.slice pw s.told.length cw) s.told.length (s.told.map (·.k)) from by
    have h0 := HP3.out.wor
    rw [hwv] at h0
    have h1 := row_later h0 (below_al (Below.refl w3.heap.size w3) (.cells #[.slice p5 s.H k5] 67))
    have h2 := h1.kept gr4 (by
      have h3 := HP3.out.tw
      rw [htv, hwv] at h3
      cases hq : (Value.slice pw s.told.length cw).ownBlock with
      | none => exact .inl rfl
      | some k => exact .inr fun e => h3.elim (fun h4 => by rw [h4] at e; cases e) (fun h4 => h4 (e.symm.trans hq.symm)))
    exact h2.kept (only_setCell (only_refl w4 (some pb)) (p := ⟨pb, 2, none⟩) (.inl rfl) _) (.inr (row_ne_blk h2 x4 (by decide))))
  have HO4 := Lib.hid own4
  have HG4 := Lib.hid gr4
  have HL4 := Lib.hid pl4
  clear own4 gr4 pl4 x3 x4 zp c0 c1 c2 c3 f2
  go_upto_region 14 with (fail)
  obtain ⟨w5, hw5⟩ : ∃ z, z = w4.setCell ⟨pb, 2, none⟩ (.slice (some ⟨g4, 0, none⟩) (s.told.length + 1) cc4) := ⟨_, rfl⟩
  rw [← hw5]
  rw [← hw5] at HW4
  have x5 : w5.heap[pb]? = some (.cells #[.pointer (some ⟨s.g, 0, none⟩), .pointer (some ⟨s.rg, 0, none⟩), .slice (some ⟨g4, 0, none⟩) (s.told.length + 1) cc4, .slice pw s.told.length cw] 94 (0, 0)) := by rw [hw5]; exact set_blk HX4.out 2 _
  have y5 := lt_of_block x5
  have e3 : w5.cell? ⟨pb, 3, none⟩ = some (.slice pw s.told.length cw) := by rw [cell_of_row _ _ _ _ _ _ x5]; rfl
  have HX5 := Lib.hid x5
  have HW5 := Lib.hid hw5
  have hz5 : base ≤ w5.heap.size := by have := HG4.out.size; rw [hw5]; simp at this ⊢; omega
  clear x5 hw5 d2 fz4 y4
  go_wp2_with (at_builtin; go_must (refine append_keep rfl (.tmp 127) (.tmp 129) 92 rfl base 67 i0 _ 1 24 Try.underlying92 HI.out.1 HI.out.2.1 HI.out.2.2.1 HI.out.2.2.2 rfl (by decide) _ s.told.length _ rfl (HW4.out.alloc _) ⟨w5.heap.size, 0, none⟩ 1 1 [.slice p6 s.H k6] rfl rfl ?d1 ?d2 ?d3 ?d4 ?d5 ?_))
  (try case d1 => exact World.news_of_block (cs := #[.slice p6 s.H k6]) (t := 67) (fr := (0, 0)) (heap_alloc_new _ _))
  (try case d2 => first | rfl | (intro u hu; rw [List.mem_singleton] at hu; subst hu; rfl))
  case d3 => unfold maxLen; omega
  case d4 => omega
  case d5 => first | omega | (simp; omega)
  intro v7 w6 own6 gr6 pl6
  obtain ⟨g6, cc6, rfl⟩ : ∃ g c, v7 = .slice (some ⟨g, 0, none⟩) (s.told.length + 1) c := by
    rcases row_form own6 with ⟨_, h, _⟩ | ⟨g, c, h, _⟩
    · omega
    · exact ⟨g, c, h⟩
  have x6 : w6.heap[pb]? = some (.cells #[.pointer (some ⟨s.g, 0, none⟩), .pointer (some ⟨s.rg, 0, none⟩), .slice (some ⟨g4, 0, none⟩) (s.told.length + 1) cc4, .slice pw s.told.length cw] 94 (0, 0)) := by
    rw [gr6.block pb (by simp; omega) (fun e => by have := row_ne_blk HP3.out.wor HP3.out.pr (by decide); rw [hwv] at this; exact this e.symm)]
    exact (heap_alloc_old _ _ y5).trans HX5.out
  have y6 := lt_of_block x6
  have e6 : w6.cell? ⟨pb, 3, none⟩ = some (.slice pw s.told.length cw) := by rw [cell_of_row _ _ _ _ _ _ x6]; rfl
  have fz6 : w6.frozen? ⟨pb, 3, none⟩ = false := frozen_of_row _ _ _ _ _ x6
  have TELL := Lib.hid (PairAt.tell (n := s.H) (x := rowsN s.W M s.H) HP3.out HN5.out HO6.out (by omega) (by omega)
    (fun k hk hsp => by have h1 := (row_lt HN5.out k hk).2; have h2 := (HP1.out.lt k hsp).1; omega)
    (fun k hk hsp => by have h1 := (row_lt HO6.out k hk).2; have h2 := (HP1.out.lt k hsp).1; omega)
    (by
      cases hq : (Value.slice p5 s.H k5).ownBlock with
      | none => exact .inl rfl
      | some k => exact .inr fun e => by have h1 := (row_lt HO5.out k hq).1; have h2 := (row_lt HO6.out k e.symm).2; omega)
    (by simp [rowsN]) (txt_rows _ _ _) (by simpa [rowsN] using hH) HO4.out (by rw [htv]; exact HG4.out) (by rw [htv]; exact HL4.out.imp id fun h => ⟨_, h.1, by simp⟩)
    own6 (by rw [hwv, ← HW5.out]; exact gr6) (by rw [hwv]; exact pl6.imp id fun h => ⟨_, h.1, by have := congrArg (fun z => z.heap.size) HW5.out; simp at this ⊢; omega⟩))
  have HQ4 := Lib.hid (show (Value.slice (some ⟨g4, 0, none⟩) (s.told.length + 1) cc4).ownBlock = s.tv.ownBlock ∨ ∃ b, (Value.slice (some ⟨g4, 0, none⟩) (s.told.length + 1) cc4).ownBlock = some b ∧ w.heap.size ≤ b from by rw [htv]; exact HL4.out.imp id fun h => ⟨_, h.1, by first | omega | (simp; omega)⟩)
  have HQ6 := Lib.hid (show (Value.slice (some ⟨g6, 0, none⟩) (s.told.length + 1) cc6).ownBlock = s.wv.ownBlock ∨ ∃ b, (Value.slice (some ⟨g6, 0, none⟩) (s.told.length + 1) cc6).ownBlock = some b ∧ w.heap.size ≤ b from by
    rw [hwv]
    exact pl6.imp id fun h => ⟨_, h.1, by have := congrArg (fun z => z.heap.size) HW5.out; have := HG4.out.size; simp at *; omega⟩)
  clear own6 gr6 pl6 x6 e3 y5 HO4 HG4 HL4 HW4
  go_upto_region 15 with (fail)
  obtain ⟨w7, hw7⟩ : ∃ z, z = w6.setCell ⟨pb, 3, none⟩ (.slice (some ⟨g6, 0, none⟩) (s.told.length + 1) cc6) := ⟨_, rfl⟩
  rw [← hw7]
  rw [← hw7] at TELL
  clear hw7 e6 fz6 y6
  go_wp2_with fail
  refine (same_rows w1.heap.size w2.heap.size s.H s.W M _ _ w7 TELL.out.2.2.1 TELL.out.2.2.2 (by omega)).mono ?_
  rintro e w8 ⟨rfl, hb8⟩
  have HZ := Lib.hid (show StepR base w pb s (.returned (.bool true)) w8 from by
    obtain ⟨t1, t2, _, _⟩ := TELL.out
    have c0 := Chg.of_below (below_via HB3.out HB1.out) (SP pb s)
    have c1 : Chg w w7 (SP pb s) := c0.trans t2 (fun k hk => .inl (by
      rcases hk with e | e | e
      · exact .inl e
      · exact .inr (.inr (.inr (.inr (.inr (.inl e)))))
      · exact .inr (.inr (.inr (.inr (.inr (.inr (.inl e))))))))
    have c2 := c1.trans (Chg.of_below hb8 (SP pb s)) (fun k hk => .inl hk)
    refine ⟨rfl, _, t1.later hb8, c2, fun k hk => ?_, rfl, rfl, by simp only; omega, by simp⟩
    rcases Nat.lt_or_ge k w.heap.size with hlt | hge
    · refine .inl ?_
      rcases hk with e | e | e | e | e | e | e | ⟨u, hu, e⟩
      · exact .inl e
      · exact .inr (.inl e)
      · exact .inr (.inr (.inl e))
      · exact .inr (.inr (.inr (.inl e)))
      · exact .inr (.inr (.inr (.inr (.inl e))))
      · rcases HQ4.out with h | ⟨b, h, hb⟩
        · exact .inr (.inr (.inr (.inr (.inr (.inl (h.symm.trans e))))))
        · have := h.symm.trans e; injection this with this; omega
      · rcases HQ6.out with h | ⟨b, h, hb⟩
        · exact .inr (.inr (.inr (.inr (.inr (.inr (.inl (h.symm.trans e)))))))
        · have := h.symm.trans e; injection this with this; omega
      · rcases List.mem_append.1 hu with hu | hu
        · exact .inr (.inr (.inr (.inr (.inr (.inr (.inr ⟨u, hu, e⟩))))))
        · rw [List.mem_singleton] at hu
          subst hu
          rcases e with e | e
          · have := (row_lt HN5.out k e).2; omega
          · have := (row_lt HO6.out k e).2; omega
    · exact .inr hge)
  clear hb8
  go_wp2
  go_ret
  exact HZ.out
/-- a step, whatever it is -/
theorem pair_step (base : Nat) (w : World) (pb : Nat) (s : PairS) (hp : PairAt base w pb s) (hW : s.W ≤ 4096) (hH : s.H ≤ 4096) (hn : s.ts.length + 8 ≤ 1073741824) (ht : s.told.length ≤ 1073741824) (hbw : base ≤ w.heap.size) (o x0 y0 x1 y1 a b c d k : Int) (ha : i64B a) (hb : i64B b) (hc : i64B c) (hd : i64B d) : Calls Try.prog 27 #[.pointer (some ⟨pb, 0, none⟩), .agg #[.int .i64 o, .int .i64 x0, .int .i64 y0, .int .i64 x1, .int .i64 y1, .int .i64 a, .int .i64 b, .int .i64 c, .int .i64 d, .int .i8 k]] w fun e w' => StepR base w pb s e w' := by
  by_cases h3 : o = 3
  · subst h3
    exact step_at base w pb s hp hW hH hn x0 y0 x1 y1 a b c d k
  · by_cases h4 : o = 4
    · subst h4
      exact step_rows base w pb s hp hW hH hn ht hbw x0 y0 x1 y1 a b c d k
    · exact step_any base w pb s hp hW hH hn o x0 y0 x1 y1 a b c d k ha hb hc hd ⟨h3, h4⟩
end Go.Proofs.Ytebalohoblaedaa
namespace Go.Proofs.Ytebalohoblaedaa
open Go.RowKit
set_option linter.unusedVariables false
set_option linter.unusedSimpArgs false

set_option maxRecDepth 100000 in
set_option maxHeartbeats 8000000 in
theorem same_strs (ba bb n : Nat) (xs : List Value) (va vb : Value) (w : World) (ha : w.ownsRow ba 9 1 va n xs) (hb : w.ownsRow bb 9 1 vb n xs) (hx : ∀ i, i < n → ∃ s, xs[i]? = some (.string s)) (hn : n ≤ 4096) : Calls Try.prog 32 #[va, vb] w fun e w' => e = .returned (.bool true) ∧ Below w.heap.size w w' := by
  obtain ⟨pa, ca, rfl⟩ := row_slice ha
  obtain ⟨pb, cb, rfl⟩ := row_slice hb
  have HA := Lib.hid ha
  have HB := Lib.hid hb
  have HXS := Lib.hid hx
  clear ha hb hx
  go_enter Try.func32, Try.ntmps32
  go_wp2
  go_loopw [5] (fun iv wr => ∃ i : Nat, iv = .int .i64 i ∧ i ≤ n ∧ RowKit.Hid (Below w.heap.size w wr)) (fun iv _ => n - (intOf iv).toNat)
  case atStart => exact ⟨0, rfl, Nat.zero_le _, Lib.hid (Below.refl _ _)⟩
  case round =>
    obtain ⟨i, rfl, hi, HR⟩ := hrel
    by_cases hlt : i < n
    · have hii : (i : Int) < (n : Int) := by omega
      have RA := row_later HA.out HR.out
      have RB := row_later HB.out HR.out
      obtain ⟨ga, rfl⟩ : ∃ g, pa = some ⟨g, 0, none⟩ := by
        rcases row_form RA with ⟨_, h, _⟩ | ⟨g, c, h, _⟩
        · omega
        · injection h with e1 e2 e3
          exact ⟨g, e1⟩
      obtain ⟨gb, rfl⟩ : ∃ g, pb = some ⟨g, 0, none⟩ := by
        rcases row_form RB with ⟨_, h, _⟩ | ⟨g, c, h, _⟩
        · omega
        · injection h with e1 e2 e3
          exact ⟨g, e1⟩
      obtain ⟨s, hs⟩ := HXS.out i hlt
      have ka := row_cells RA i _ hs
      have kb := row_cells RB i _ hs
      rw [Nat.zero_add] at ka kb
      have za := (row_lt RA ga rfl).1
      have zb := (row_lt RB gb rfl).1
      clear RA RB
      clear hs
      go_upto_region 6 with (fail)
      go_quiet (fail)
      have HR2 := Lib.hid (show ∀ k, Below w.heap.size w (wr.drewN k) from fun k => below_drewN HR.out k)
      clear ka kb za zb HR
      go_wp2
      go_roundw
      case rel => exact ⟨i + 1, by go_num, by omega, Lib.hid (HR2.out _)⟩
      case measure => simp [intOf] <;> omega
    · have hii : ¬ (i : Int) < (n : Int) := by omega
      obtain rfl : i = n := by omega
      go_wp2
      go_ret
      exact ⟨rfl, HR.out⟩
end Go.Proofs.Ytebalohoblaedaa
namespace Go.Proofs.Ytebalohoblaedaa
open Go.RowKit
set_option linter.unusedVariables false
set_option linter.unusedSimpArgs false

/-- the mark of text k of list i -/
def mkS (i k : Nat) : Value := .string ⟨#[103, 111, 110, 101, UInt8.ofNat i, UInt8.ofNat k]⟩
def zT : Tld := ⟨.slice none 0 0, .slice none 0 0, []⟩
/-- list a, where the marking has come to text k of list i -/
def cont (x : List Value) (a i k : Nat) : List Value := (List.range x.length).map fun j => if a < i ∨ (a = i ∧ j < k) then mkS a j else x.getD j (.bool false)
theorem cont_len (x : List Value) (a i k : Nat) : (cont x a i k).length = x.length := by simp [cont]
theorem cont_get (x : List Value) (a i k j : Nat) (hj : j < x.length) : (cont x a i k)[j]? = some (if a < i ∨ (a = i ∧ j < k) then mkS a j else x.getD j (.bool false)) := by
  simp [cont, hj]
theorem cont_zero (x : List Value) (a : Nat) : cont x a 0 0 = x := by
  refine List.ext_getElem? fun j => ?_
  by_cases hj : j < x.length
  · rw [cont_get _ _ _ _ _ hj, if_neg (by omega)]
    simp [hj]
  · rw [List.getElem?_eq_none (by rw [cont_len]; omega), List.getElem?_eq_none (by omega)]
theorem cont_set (x : List Value) (i k : Nat) (hk : k < x.length) : (cont x i i k).set k (mkS i k) = cont x i i (k + 1) := by
  refine List.ext_getElem? fun j => ?_
  by_cases hj : j < x.length
  · rw [cont_get _ _ _ _ _ hj, List.getElem?_set]
    by_cases e : k = j
    · subst e
      rw [if_pos rfl, if_pos (by rw [cont_len]; exact hk), if_pos (.inr ⟨rfl, by omega⟩)]
    · rw [if_neg e, cont_get _ _ _ _ _ hj]
      by_cases h : j < k
      · rw [if_pos (.inr ⟨rfl, h⟩), if_pos (.inr ⟨rfl, by omega⟩)]
      · rw [if_neg (by omega), if_neg (by omega)]
  · rw [List.getElem?_eq_none (by rw [List.length_set, cont_len]; omega), List.getElem?_eq_none (by rw [cont_len]; omega)]
theorem cont_ne (x : List Value) {a i : Nat} (k k' : Nat) (h : a ≠ i) : cont x a i k = cont x a i k' := by
  unfold cont
  refine List.map_congr_left fun j _ => ?_
  by_cases h2 : a < i
  · rw [if_pos (.inl h2), if_pos (.inl h2)]
  · rw [if_neg (by omega), if_neg (by omega)]
theorem cont_next (x : List Value) (a i k : Nat) (h : a = i → k = x.length) : cont x a i k = cont x a (i + 1) 0 := by
  unfold cont
  refine List.map_congr_left fun j hj => ?_
  have hj := List.mem_range.1 hj
  by_cases h2 : a < i
  · rw [if_pos (.inl h2), if_pos (.inl (by omega))]
  · by_cases h3 : a = i
    · have := h h3
      rw [if_pos (.inr ⟨h3, by omega⟩), if_pos (.inl (by omega))]
    · rw [if_neg (by omega), if_neg (by omega)]
/-- the told lists as a family -/
def RT (tl : List Tld) (i k : Nat) : Nat → Rw := fun a => ⟨9, 1, (tl.getD a zT).t, (tl.getD a zT).x.length, cont (tl.getD a zT).x a i k⟩
/-- the blocks of the told lists -/
def ST (s : PairS) : Nat → Prop := fun k => ∃ e ∈ s.told, e.t.ownBlock = some k
theorem getD_mem {tl : List Tld} {i : Nat} (h : i < tl.length) : tl.getD i zT ∈ tl := by
  rw [List.getD_eq_getElem?_getD, List.getElem?_eq_getElem h]
  exact List.getElem_mem h
theorem PairAt.apart {base : Nat} {w : World} {pb : Nat} {s : PairS} (h : PairAt base w pb s) {a b : Nat} (ha : a < s.told.length) (hb : b < s.told.length) (hne : a ≠ b) {g : Nat} (hg : (s.told.getD a zT).t.ownBlock = some g) : (s.told.getD b zT).t.ownBlock ≠ some g := by
  have key := List.pairwise_iff_getElem.1 h.dt
  intro e
  have ea : s.told.getD a zT = s.told[a] := by rw [List.getD_eq_getElem?_getD, List.getElem?_eq_getElem ha]; rfl
  have eb : s.told.getD b zT = s.told[b] := by rw [List.getD_eq_getElem?_getD, List.getElem?_eq_getElem hb]; rfl
  rw [ea] at hg
  rw [eb] at e
  rcases Nat.lt_or_ge a b with hlt | hge
  · rcases key a b ha hb hlt with h1 | h1
    · rw [h1] at hg; cases hg
    · exact h1 (hg.trans e.symm)
  · rcases key b a hb ha (by omega) with h1 | h1
    · rw [h1] at e; cases e
    · exact h1 (e.trans hg.symm)
theorem PairAt.fam {base : Nat} {w : World} {pb : Nat} {s : PairS} (h : PairAt base w pb s) : Fam base w (· < s.told.length) (RT s.told 0 0) :=
  ⟨fun a ha => by
    have := h.te _ (getD_mem ha)
    simp only [RT, cont_zero]
    exact this, fun a b ha hb hne g hg => h.apart ha hb hne hg⟩
/-- a block of another type is no told list's -/
theorem PairAt.noST {base : Nat} {w : World} {pb : Nat} {s : PairS} (h : PairAt base w pb s) {k : Nat} {cs : Array Value} {t : TypeId} {fr : Nat × Nat} (hk : w.heap[k]? = some (.cells cs t fr)) (h1 : t ≠ 9) : ¬ ST s k := by
  rintro ⟨e, he, hq⟩
  obtain ⟨cs', fr', hb⟩ := row_blk (h.te e he) hq
  exact blk_ne hk hb h1 rfl
/-- the rest of a pair, where the told lists' texts may have been set and gone on with -/
structure Rest (base : Nat) (w : World) (pb : Nat) (s : PairS) : Prop where
  pr : w.heap[pb]? = some (.cells #[.pointer (some ⟨s.g, 0, none⟩), .pointer (some ⟨s.rg, 0, none⟩), s.tv, s.wv] 94 (0, 0))
  pl : PlanAt w s.g s.gc s.W s.H (layL s.W s.H s.ts (List.replicate (s.W * s.H) zA))
  tor : w.ownsRow base 67 1 s.tv s.told.length (s.told.map (·.t))
  wor : w.ownsRow base 67 1 s.wv s.told.length (s.told.map (·.k))
  we : ∀ e ∈ s.told, w.ownsRow base 9 1 e.k e.x.length e.x
theorem PairAt.rest {base : Nat} {w w' : World} {pb : Nat} {s : PairS} (h : PairAt base w pb s) (c : Chg w w' (ST s)) : Rest base w' pb s where
  pr := (c.block _ (lt_of_block h.pr) (h.noST h.pr (by decide))).trans h.pr
  pl := ⟨(c.block _ (lt_of_block h.pl.pl) (h.noST h.pl.pl (by decide))).trans h.pl.pl, (c.block _ (lt_of_block h.pl.ce) (h.noST h.pl.ce (by decide))).trans h.pl.ce, h.pl.len, h.pl.bw, h.pl.bh, h.pl.bn⟩
  tor := row_keepB h.tor fun g hg => by obtain ⟨cs, fr, hb⟩ := row_blk h.tor hg; exact c.block g (lt_of_block hb) (h.noST hb (by decide))
  wor := row_keepB h.wor fun g hg => by obtain ⟨cs, fr, hb⟩ := row_blk h.wor hg; exact c.block g (lt_of_block hb) (h.noST hb (by decide))
  we := fun e he => row_keepB (h.we e he) fun g hg => by
    obtain ⟨cs, fr, hb⟩ := row_blk (h.we e he) hg
    refine c.block g (lt_of_block hb) ?_
    rintro ⟨a, ha, hq⟩
    rcases h.dw a ha e he with h1 | h1
    · rw [h1] at hq; cases hq
    · exact h1 (hq.trans hg.symm)
theorem Rest.later {base : Nat} {w w' : World} {pb : Nat} {s : PairS} (h : Rest base w pb s) (hb : Below w.heap.size w w') : Rest base w' pb s :=
  ⟨(hb.block _ (lt_of_block h.pr)).trans h.pr, h.pl.later hb (heap_lt h.pl.pl) (heap_lt h.pl.ce), row_later h.tor hb, row_later h.wor hb, fun e he => row_later (h.we e he) hb⟩
/-- the cells that the walk reads -/
theorem Rest.cells {base : Nat} {w : World} {pb gt ct gw cw N : Nat} {s : PairS} (h : Rest base w pb s) (htv : s.tv = .slice (some ⟨gt, 0, none⟩) N ct) (hwv : s.wv = .slice (some ⟨gw, 0, none⟩) N cw) :
    pb < w.heap.size ∧ gt < w.heap.size ∧ gw < w.heap.size ∧ w.cell? ⟨pb, 0, none⟩ = some (.pointer (some ⟨s.g, 0, none⟩)) ∧ w.cell? ⟨pb, 2, none⟩ = some (.slice (some ⟨gt, 0, none⟩) N ct) ∧ w.cell? ⟨pb, 3, none⟩ = some (.slice (some ⟨gw, 0, none⟩) N cw) := by
  have h1 := h.pr
  rw [htv, hwv] at h1
  refine ⟨lt_of_block h1, (row_lt h.tor gt (by rw [htv]; rfl)).1, (row_lt h.wor gw (by rw [hwv]; rfl)).1, ?_, ?_, ?_⟩ <;> (rw [cell_of_row _ _ _ _ _ _ h1]; rfl)
theorem Rest.tcell {base : Nat} {w : World} {pb gt ct N i : Nat} {s : PairS} (h : Rest base w pb s) (htv : s.tv = .slice (some ⟨gt, 0, none⟩) N ct) (hi : i < s.told.length) : w.cell? ⟨gt, i, none⟩ = some (s.told.getD i zT).t := by
  have := h.tor.cells (g := gt) (by rw [htv]; rfl) i (s.told.getD i zT).t (by rw [List.getElem?_map, List.getD_eq_getElem?_getD, List.getElem?_eq_getElem hi]; rfl)
  rw [Addr.add_mid, Nat.zero_add] at this
  exact this
theorem Rest.wcell {base : Nat} {w : World} {pb gw cw N i : Nat} {s : PairS} (h : Rest base w pb s) (hwv : s.wv = .slice (some ⟨gw, 0, none⟩) N cw) (hi : i < s.told.length) : w.cell? ⟨gw, i, none⟩ = some (s.told.getD i zT).k := by
  have := h.wor.cells (g := gw) (by rw [hwv]; rfl) i (s.told.getD i zT).k (by rw [List.getElem?_map, List.getD_eq_getElem?_getD, List.getElem?_eq_getElem hi]; rfl)
  rw [Addr.add_mid, Nat.zero_add] at this
  exact this
set_option maxHeartbeats 2000000 in
/-- lists more are told, in both lists -/
theorem PairAt.tells {base : Nat} {w3 w4 w6 : World} {pb : Nat} {s : PairS} {o1 o2 : Obj} {tv' wv' : Value} (es : List Tld) (h : PairAt base w3 pb s)
    (o5 : ∀ e ∈ es, w3.ownsRow base 9 1 e.t e.x.length e.x) (o6 : ∀ e ∈ es, w3.ownsRow base 9 1 e.k e.x.length e.x) (f5 : ∀ e ∈ es, ∀ k, e.t.ownBlock = some k → ¬ SP pb s k) (f6 : ∀ e ∈ es, ∀ k, e.k.ownBlock = some k → ¬ SP pb s k)
    (fd : es.Pairwise fun a b => a.t.ownBlock = none ∨ a.t.ownBlock ≠ b.t.ownBlock) (f56 : ∀ a ∈ es, ∀ b ∈ es, a.t.ownBlock = none ∨ a.t.ownBlock ≠ b.k.ownBlock) (hx : ∀ e ∈ es, Txt e.x ∧ e.x.length ≤ 4096)
    (t4 : w4.ownsRow base 67 1 tv' (s.told.length + es.length) (s.told.map (·.t) ++ es.map (·.t))) (g4 : (w3.alloc o1).grownBy w4 s.tv.ownBlock) (p4 : tv'.ownBlock = s.tv.ownBlock ∨ ∃ b, tv'.ownBlock = some b ∧ w3.heap.size ≤ b)
    (t6 : w6.ownsRow base 67 1 wv' (s.told.length + es.length) (s.told.map (·.k) ++ es.map (·.k))) (g6 : ((w4.setCell ⟨pb, 2, none⟩ tv').alloc o2).grownBy w6 s.wv.ownBlock) (p6 : wv'.ownBlock = s.wv.ownBlock ∨ ∃ b, wv'.ownBlock = some b ∧ w4.heap.size ≤ b) :
    PairAt base (w6.setCell ⟨pb, 3, none⟩ wv') pb { s with tv := tv', wv := wv', told := s.told ++ es } ∧ Chg w3 (w6.setCell ⟨pb, 3, none⟩ wv') (fun k => k = pb ∨ s.tv.ownBlock = some k ∨ s.wv.ownBlock = some k) := by
  have hs4 : w4.grownBy (w4.setCell ⟨pb, 2, none⟩ tv') (some pb) := only_setCell (only_refl w4 (some pb)) (p := ⟨pb, 2, none⟩) (.inl rfl) tv'
  have hs6 : w6.grownBy (w6.setCell ⟨pb, 3, none⟩ wv') (some pb) := only_setCell (only_refl w6 (some pb)) (p := ⟨pb, 3, none⟩) (.inl rfl) wv'
  have zpb := lt_of_block h.pr
  have hz4 : w3.heap.size ≤ w4.heap.size := by have := g4.size; simp at this; omega
  have T : Chg w3 (w6.setCell ⟨pb, 3, none⟩ wv') (fun k => k = pb ∨ s.tv.ownBlock = some k ∨ s.wv.ownBlock = some k) := by
    have c1 := Chg.of_below (below_al (Below.refl w3.heap.size w3) o1) (fun k => k = pb ∨ s.tv.ownBlock = some k ∨ s.wv.ownBlock = some k)
    have c2 := c1.trans (Chg.of_grown g4 (S := fun k => k = pb ∨ s.tv.ownBlock = some k ∨ s.wv.ownBlock = some k) (fun k hk => .inl (.inr (.inl hk)))) (fun k hk => .inl hk)
    have c3 := c2.trans (Chg.of_grown hs4 (S := fun k => k = pb ∨ s.tv.ownBlock = some k ∨ s.wv.ownBlock = some k) (fun k hk => .inl (.inl (by injection hk with hk; exact hk.symm)))) (fun k hk => .inl hk)
    have c4 := c3.trans (Chg.of_below (below_al (Below.refl (w4.setCell ⟨pb, 2, none⟩ tv').heap.size _) o2) (fun k => k = pb ∨ s.tv.ownBlock = some k ∨ s.wv.ownBlock = some k)) (fun k hk => .inl hk)
    have c5 := c4.trans (Chg.of_grown g6 (S := fun k => k = pb ∨ s.tv.ownBlock = some k ∨ s.wv.ownBlock = some k) (fun k hk => .inl (.inr (.inr hk)))) (fun k hk => .inl hk)
    exact c5.trans (Chg.of_grown hs6 (S := fun k => k = pb ∨ s.tv.ownBlock = some k ∨ s.wv.ownBlock = some k) (fun k hk => .inl (.inl (by injection hk with hk; exact hk.symm)))) (fun k hk => .inl hk)
  -- a block of another type is none of those three
  have free : ∀ {k : Nat} {cs : Array Value} {t : TypeId} {fr : Nat × Nat}, w3.heap[k]? = some (.cells cs t fr) → t ≠ 94 → t ≠ 67 → ¬ (k = pb ∨ s.tv.ownBlock = some k ∨ s.wv.ownBlock = some k) := by
    intro k cs t fr hk h1 h2
    rintro (rfl | e | e)
    · exact blk_ne hk h.pr h1 rfl
    · obtain ⟨cs', fr', hq⟩ := row_blk h.tor e; exact blk_ne hk hq h2 rfl
    · obtain ⟨cs', fr', hq⟩ := row_blk h.wor e; exact blk_ne hk hq h2 rfl
  have keepR : ∀ {b : Nat} {t : TypeId} {k m : Nat} {v : Value} {xs : List Value}, w3.ownsRow b t k v m xs → t ≠ 94 → t ≠ 67 → (w6.setCell ⟨pb, 3, none⟩ wv').ownsRow b t k v m xs := by
    intro b t k m v xs hr h1 h2
    refine row_keepB hr fun g hg => ?_
    obtain ⟨cs, fr, hq⟩ := row_blk hr hg
    exact T.block g (lt_of_block hq) (free hq h1 h2)
  have keepB : ∀ {k : Nat} {cs : Array Value} {t : TypeId} {fr : Nat × Nat}, w3.heap[k]? = some (.cells cs t fr) → t ≠ 94 → t ≠ 67 → (w6.setCell ⟨pb, 3, none⟩ wv').heap[k]? = some (.cells cs t fr) := fun hk h1 h2 => (T.block _ (lt_of_block hk) (free hk h1 h2)).trans hk
  -- the pair's own block
  have q4 : w4.heap[pb]? = some (.cells #[.pointer (some ⟨s.g, 0, none⟩), .pointer (some ⟨s.rg, 0, none⟩), s.tv, s.wv] 94 (0, 0)) := by
    rw [g4.block pb (by simp; omega) (fun e => row_ne_blk h.tor h.pr (by decide) e.symm)]
    exact (heap_alloc_old _ _ zpb).trans h.pr
  have q5 : (w4.setCell ⟨pb, 2, none⟩ tv').heap[pb]? = some (.cells #[.pointer (some ⟨s.g, 0, none⟩), .pointer (some ⟨s.rg, 0, none⟩), tv', s.wv] 94 (0, 0)) := set_blk q4 2 tv'
  have q6 : w6.heap[pb]? = some (.cells #[.pointer (some ⟨s.g, 0, none⟩), .pointer (some ⟨s.rg, 0, none⟩), tv', s.wv] 94 (0, 0)) := by
    rw [g6.block pb (by have := lt_of_block q5; simp at this ⊢; omega) (fun e => row_ne_blk h.wor h.pr (by decide) e.symm)]
    exact (heap_alloc_old _ _ (lt_of_block q5)).trans q5
  have htw : tv'.ownBlock = none ∨ tv'.ownBlock ≠ s.wv.ownBlock := by
    rcases p4 with e | ⟨b, e, hb⟩
    · rw [e]; exact h.tw
    · refine .inr fun e2 => ?_
      have := (row_lt h.wor b (e2.symm.trans e)).1
      omega
  have t5 : (w4.setCell ⟨pb, 2, none⟩ tv').ownsRow base 67 1 tv' (s.told.length + es.length) (s.told.map (·.t) ++ es.map (·.t)) := t4.kept hs4 (.inr (row_ne_blk t4 q4 (by decide)))
  have t5b := row_later t5 (below_al (Below.refl (w4.setCell ⟨pb, 2, none⟩ tv').heap.size _) o2)
  have t6b : w6.ownsRow base 67 1 tv' (s.told.length + es.length) (s.told.map (·.t) ++ es.map (·.t)) := t5b.kept g6 htw
  have t7 : (w6.setCell ⟨pb, 3, none⟩ wv').ownsRow base 67 1 tv' (s.told.length + es.length) (s.told.map (·.t) ++ es.map (·.t)) := t6b.kept hs6 (.inr (row_ne_blk t6b q6 (by decide)))
  have u7 : (w6.setCell ⟨pb, 3, none⟩ wv').ownsRow base 67 1 wv' (s.told.length + es.length) (s.told.map (·.k) ++ es.map (·.k)) := t6.kept hs6 (.inr (row_ne_blk t6 q6 (by decide)))
  have tw7 : tv'.ownBlock = none ∨ tv'.ownBlock ≠ wv'.ownBlock := by
    rcases p6 with e | ⟨b, e, hb⟩
    · rw [e]; exact htw
    · refine .inr fun e2 => ?_
      have := (row_lt t4 b (e2.trans e)).1
      omega
  refine ⟨{ pr := set_blk q6 3 wv', pl := ⟨keepB h.pl.pl (by decide) (by decide), keepB h.pl.ce (by decide) (by decide), h.pl.len, h.pl.bw, h.pl.bh, h.pl.bn⟩, rp := ⟨keepB h.rp.pl (by decide) (by decide), keepR h.rp.own (by decide) (by decide), h.rp.bg⟩, tor := by simpa using t7, wor := by simpa using u7, te := ?_, we := ?_, dt := ?_, dw := ?_, tx := ?_, tw := tw7, bp := h.bp, bg := h.bg, bc := h.bc }, T⟩
  · intro e he
    rcases List.mem_append.1 he with he | he
    · exact keepR (h.te e he) (by decide) (by decide)
    · exact keepR (o5 e he) (by decide) (by decide)
  · intro e he
    rcases List.mem_append.1 he with he | he
    · exact keepR (h.we e he) (by decide) (by decide)
    · exact keepR (o6 e he) (by decide) (by decide)
  · refine List.pairwise_append.2 ⟨h.dt, fd, fun a ha b hb => ?_⟩
    refine (Classical.em (a.t.ownBlock = none)).imp id fun hne e => ?_
    cases hq : a.t.ownBlock with
    | none => exact hne hq
    | some k => exact f5 b hb k (e.symm.trans hq) (.inr (.inr (.inr (.inr (.inr (.inr (.inr ⟨a, ha, .inl hq⟩)))))))
  · intro a ha b hb
    refine (Classical.em (a.t.ownBlock = none)).imp id fun hne e => ?_
    cases hq : a.t.ownBlock with
    | none => exact hne hq
    | some k =>
      rcases List.mem_append.1 ha with ha | ha
      · rcases List.mem_append.1 hb with hb | hb
        · exact (h.dw a ha b hb).elim hne (fun h2 => h2 e)
        · exact f6 b hb k (e.symm.trans hq) (.inr (.inr (.inr (.inr (.inr (.inr (.inr ⟨a, ha, .inl hq⟩)))))))
      · rcases List.mem_append.1 hb with hb | hb
        · exact f5 a ha k hq (.inr (.inr (.inr (.inr (.inr (.inr (.inr ⟨b, hb, .inr (e.symm.trans hq)⟩)))))))
        · exact (f56 a ha b hb).elim hne (fun h2 => h2 e)
  · intro e he
    rcases List.mem_append.1 he with he | he
    · exact h.tx e he
    · exact hx e he
/-- the marking, where it has come to text k of list i -/
structure MkP (base : Nat) (w0 : World) (s : PairS) (i k : Nat) (wr : World) : Prop where
  fam : Fam base wr (· < s.told.length) (RT s.told i k)
  chg : Chg w0 wr (ST s)
section
variable {base : Nat} {w0 wr wm w' : World} {pb : Nat} {s : PairS} {i k : Nat}
theorem MkP.start (h : PairAt base w0 pb s) (hb : Below w0.heap.size w0 wr) : MkP base w0 s 0 0 wr := ⟨(h.later hb).fam, Chg.of_below hb _⟩
theorem MkP.later (h : MkP base w0 s i k wr) (hb : Below wr.heap.size wr w') : MkP base w0 s i k w' := ⟨h.fam.later hb, h.chg.trans (Chg.of_below hb (ST s)) (fun k hk => .inl hk)⟩
theorem MkP.set (h : MkP base w0 s i k wr) (hi : i < s.told.length) {g n c : Nat} (hv : (s.told.getD i zT).t = .slice (some ⟨g, 0, none⟩) n c) (hn : n = (s.told.getD i zT).x.length) (hk : k < n) : MkP base w0 s i (k + 1) (wr.setCell ⟨g, k, none⟩ (mkS i k)) := by
  subst hn
  refine ⟨h.fam.set (a := i) hi (g := g) (c := c) hv k (mkS i k) ?_ ?_, h.chg.trans (Chg.of_grown (only_setCell (only_refl wr (some g)) (p := ⟨g, k, none⟩) (.inl rfl) (mkS i k)) (S := ST s) ?_) (fun k hk => .inl hk)⟩
  · simp only [RT]
    rw [cont_set _ _ _ hk]
  · intro b hb hne
    simp only [RT]
    rw [cont_ne _ (k + 1) k hne]
  · intro q hq
    injection hq with hq
    subst hq
    exact .inl ⟨_, getD_mem hi, by rw [hv]; rfl⟩
theorem MkP.next (h : MkP base w0 s i k wr) (hk : k = (s.told.getD i zT).x.length) : MkP base w0 s (i + 1) 0 wr := by
  refine ⟨?_, h.chg⟩
  have e : RT s.told (i + 1) 0 = RT s.told i k := by
    funext a
    simp only [RT]
    rw [cont_next (s.told.getD a zT).x a i k (fun ha => by rw [ha]; exact hk)]
  rw [e]
  exact h.fam
/-- the lists below i have been gone on with -/
structure GrP (base : Nat) (w0 wm : World) (s : PairS) (D : Nat) (wr : World) : Prop where
  f : Fam base wm (· < s.told.length) (RT s.told s.told.length 0)
  g : Grw base wm wr (· < s.told.length) (RT s.told s.told.length 0) (· < D)
  c : Chg w0 wm (ST s)
  b : base ≤ wm.heap.size
theorem Grw.chg {D : Nat} {R : Nat → Rw} (hR : ∀ a, (R a).v = (s.told.getD a zT).t) (h : Grw base wm wr (· < s.told.length) R (· < D)) : Chg wm wr (ST s) :=
  ⟨h.be.os, h.be.tape, h.be.output, h.sz, fun k hk hn => h.un k hk fun a ha _ e => hn ⟨_, getD_mem ha, by rw [← hR a]; exact e⟩⟩
theorem GrP.chg {D : Nat} (h : GrP base w0 wm s D wr) : Chg w0 wr (ST s) := h.c.trans (Grw.chg (fun _ => rfl) h.g) (fun k hk => .inl hk)
theorem MkP.grown (h : MkP base w0 s s.told.length 0 wm) (hb : base ≤ wm.heap.size) : GrP base w0 wm s 0 wm := ⟨h.fam, Grw.refl h.fam (fun a ha => Nat.not_lt_zero _ ha), h.chg, hb⟩
theorem GrP.later {D : Nat} (h : GrP base w0 wm s D wr) (hb : Below wr.heap.size wr w') : GrP base w0 wm s D w' := ⟨h.f, h.g.later h.f hb h.b, h.c, h.b⟩
/-- one that is being gone on with -/
structure GrI (base : Nat) (w0 wm : World) (s : PairS) (i q : Nat) (G : Value) (T : List Value) (wr : World) : Prop where
  p : GrP base w0 wm s (i + 1) wr
  o : Gro base wm wr (RT s.told s.told.length 0 i) G ((s.told.getD i zT).x.length + q) T
theorem GrP.inner (h : GrP base w0 wm s i wr) (hi : i < s.told.length) : GrI base w0 wm s i 0 (s.told.getD i zT).t [] wr :=
  ⟨⟨h.f, h.g.mono (fun a _ ha => by have ha : a < i := ha; show a < i + 1; omega), h.c, h.b⟩, h.g.start h.f (a := i) hi (Nat.lt_irrefl i)⟩
theorem GrI.later {q : Nat} {G : Value} {T : List Value} (h : GrI base w0 wm s i q G T wr) (hb : Below wr.heap.size wr w') : GrI base w0 wm s i q G T w' := ⟨h.p.later hb, h.o.later hb⟩
theorem GrI.own {q : Nat} {G : Value} {T : List Value} (h : GrI base w0 wm s i q G T wr) : wr.ownsRow base 9 1 G ((s.told.getD i zT).x.length + q) (cont (s.told.getD i zT).x i s.told.length 0 ++ T) := h.o.own
theorem GrI.app {q : Nat} {G v2 : Value} {T : List Value} (h : GrI base w0 wm s i q G T wr) (hi : i < s.told.length) {u : Value} (gr : wr.grownBy w' G.ownBlock)
    (own : w'.ownsRow base 9 1 v2 ((s.told.getD i zT).x.length + q + 1) ((cont (s.told.getD i zT).x i s.told.length 0 ++ T) ++ [u])) (loc : v2.ownBlock = G.ownBlock ∨ (v2.ownBlock = some wr.heap.size ∧ wr.grownBy w' none)) : GrI base w0 wm s i (q + 1) v2 (T ++ [u]) w' := by
  have := h.p.g.app h.p.f h.p.b (a := i) hi (Nat.lt_succ_self i) h.o gr (T2 := T ++ [u]) (m2 := (s.told.getD i zT).x.length + q + 1) (by rw [← List.append_assoc]; exact own) loc
  exact ⟨⟨h.p.f, this.1, h.p.c, h.p.b⟩, this.2⟩
/-- what is read back -/
theorem GrP.cell {D j g : Nat} (h : GrP base w0 wm s D wr) (hi : i < s.told.length) (hg : (s.told.getD i zT).t.ownBlock = some g) (hj : j < (s.told.getD i zT).x.length) : wr.cell? ⟨g, j, none⟩ = some (mkS i j) :=
  h.g.rd i hi g hg j _ (by simp only [RT]; rw [cont_get _ _ _ _ _ hj, if_pos (.inl hi)])
end
end Go.Proofs.Ytebalohoblaedaa
