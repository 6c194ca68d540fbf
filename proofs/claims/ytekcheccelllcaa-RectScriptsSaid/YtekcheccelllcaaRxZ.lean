/- RxZ: RxA RxB RxM RxC RxD in one text. -/
import Derived.Test.YtekcheccelllcaaRfK
import Derived.Test.YtekcheccelllcaaAnyH
import Derived.Test.YtekcheccelllcaaRgHs
import Derived.Test.YtekcheccelllcaaRctU
import Derived.Test.YtekcheccelllcaaRctAm
import Derived.Test.YtekcheccelllcaaKep
import Derived.IntWalk
import Derived.BigQuiet
import Derived.Test.YtekcheccelllcaaRgR
import Derived.Test.YtekcheccelllcaaRctAk
namespace Go.Proofs.Ytekcheccelllcaa
open Go.RowKit
set_option linter.unusedVariables false
set_option linter.unusedSimpArgs false

/-- one list that was told: the program's, the reference's, the rectangles -/
structure Tle where
  t : Value
  k : Value
  x : List R4
/-- a pair's state -/
structure PrS where
  g : Nat
  h : Nat
  gv : Value
  hv : Value
  tv : Value
  wv : Value
  bl : List BV
  told : List Tle
/-- the blocks of a pair -/
def SQ (pb : Nat) (s : PrS) : Nat → Prop := fun k => k = pb ∨ SG s.g s.gv s.bl k ∨ SR s.h s.hv k ∨ s.tv.ownBlock = some k ∨ s.wv.ownBlock = some k ∨ ∃ e ∈ s.told, e.t.ownBlock = some k ∨ e.k.ownBlock = some k
structure PqAt (base : Nat) (w : World) (pb : Nat) (s : PrS) : Prop where
  pr : w.heap[pb]? = some (.cells #[.pointer (some ⟨s.g, 0, none⟩), .pointer (some ⟨s.h, 0, none⟩), s.tv, s.wv] 91 (0, 0))
  rg : RegAt base w s.g s.gv s.bl
  ok : RegOk (bdsOf s.bl)
  rf : RfAt base w s.h s.hv (rctsB (bdsOf s.bl))
  tor : w.ownsRow base 26 1 s.tv s.told.length (s.told.map (·.t))
  wor : w.ownsRow base 26 1 s.wv s.told.length (s.told.map (·.k))
  te : ∀ e ∈ s.told, w.ownsRow base 23 4 e.t e.x.length (cellsR e.x)
  we : ∀ e ∈ s.told, w.ownsRow base 23 4 e.k e.x.length (cellsR e.x)
  dt : s.told.Pairwise fun a b => a.t.ownBlock = none ∨ a.t.ownBlock ≠ b.t.ownBlock
  tx : ∀ e ∈ s.told, e.x.length ≤ 1024
  tw : s.tv.ownBlock = none ∨ s.tv.ownBlock ≠ s.wv.ownBlock
  dh : ∀ e ∈ s.told, e.t.ownBlock = none ∨ e.t.ownBlock ≠ s.hv.ownBlock
  bp : base ≤ pb
/-- where its blocks stand, a pair stands -/
theorem PqAt.keep {base : Nat} {w w' : World} {pb : Nat} {s : PrS} (h : PqAt base w pb s) (hk : ∀ k, SQ pb s k → w'.heap[k]? = w.heap[k]?) : PqAt base w' pb s where
  pr := (hk pb (.inl rfl)).trans h.pr
  rg := h.rg.keep fun k hq => hk k (.inr (.inl hq))
  ok := h.ok
  rf := h.rf.keep fun k hq => hk k (.inr (.inr (.inl hq)))
  tor := row_keepB h.tor fun g hg => hk g (.inr (.inr (.inr (.inl hg))))
  wor := row_keepB h.wor fun g hg => hk g (.inr (.inr (.inr (.inr (.inl hg)))))
  te := fun e he => row_keepB (h.te e he) fun g hg => hk g (.inr (.inr (.inr (.inr (.inr ⟨e, he, .inl hg⟩)))))
  we := fun e he => row_keepB (h.we e he) fun g hg => hk g (.inr (.inr (.inr (.inr (.inr ⟨e, he, .inr hg⟩)))))
  dt := h.dt
  tx := h.tx
  tw := h.tw
  dh := h.dh
  bp := h.bp
theorem PqAt.lt {base : Nat} {w : World} {pb : Nat} {s : PrS} (h : PqAt base w pb s) : ∀ k, SQ pb s k → k < w.heap.size ∧ base ≤ k := by
  rintro k (rfl | hk | hk | hk | hk | ⟨e, he, hk | hk⟩)
  · exact ⟨lt_of_block h.pr, h.bp⟩
  · exact h.rg.lt k hk
  · exact h.rf.lt k hk
  · exact row_lt h.tor _ hk
  · exact row_lt h.wor _ hk
  · exact row_lt (h.te e he) _ hk
  · exact row_lt (h.we e he) _ hk
theorem PqAt.later {base : Nat} {w w' : World} {pb : Nat} {s : PrS} (h : PqAt base w pb s) (hb : Below w.heap.size w w') : PqAt base w' pb s := h.keep fun k hk => hb.block k (h.lt k hk).1
theorem PqAt.other {base : Nat} {w w' : World} {pb : Nat} {s : PrS} {S : Nat → Prop} (h : PqAt base w pb s) (c : Chg w w' S) (hd : ∀ k, SQ pb s k → ¬ S k) : PqAt base w' pb s := h.keep fun k hk => c.block k (h.lt k hk).1 (hd k hk)
/-- a block of another type is none of those that a call on the regions turns -/
theorem PqAt.free {base : Nat} {w : World} {pb : Nat} {s : PrS} (h : PqAt base w pb s) {k : Nat} {cs : Array Value} {t : TypeId} {fr : Nat × Nat} (hk : w.heap[k]? = some (.cells cs t fr)) (h1 : t ≠ 82) (h2 : t ≠ 100) : ¬ (k = s.g ∨ k = s.h) := by
  rintro (rfl | rfl)
  · exact blk_ne hk h.rg.pr h1 rfl
  · exact blk_ne hk h.rf.pr h2 rfl
/-- the pair behind a call on both regions -/
theorem PqAt.turn {base : Nat} {w w' : World} {pb : Nat} {s : PrS} (h : PqAt base w pb s) {gv' hv' : Value} {bl' : List BV} (c : Chg w w' (fun k => k = s.g ∨ k = s.h)) (rg' : RegAt base w' s.g gv' bl') (ok' : RegOk (bdsOf bl')) (rf' : RfAt base w' s.h hv' (rctsB (bdsOf bl'))) (hd : ∀ e ∈ s.told, e.t.ownBlock = none ∨ e.t.ownBlock ≠ hv'.ownBlock) : PqAt base w' pb { s with gv := gv', hv := hv', bl := bl' } where
  pr := (c.block _ (lt_of_block h.pr) (h.free h.pr (by decide) (by decide))).trans h.pr
  rg := rg'
  ok := ok'
  rf := rf'
  tor := row_keepB h.tor fun g hg => by obtain ⟨cs, fr, hb⟩ := row_blk h.tor hg; exact c.block g (lt_of_block hb) (h.free hb (by decide) (by decide))
  wor := row_keepB h.wor fun g hg => by obtain ⟨cs, fr, hb⟩ := row_blk h.wor hg; exact c.block g (lt_of_block hb) (h.free hb (by decide) (by decide))
  te := fun e he => row_keepB (h.te e he) fun g hg => by obtain ⟨cs, fr, hb⟩ := row_blk (h.te e he) hg; exact c.block g (lt_of_block hb) (h.free hb (by decide) (by decide))
  we := fun e he => row_keepB (h.we e he) fun g hg => by obtain ⟨cs, fr, hb⟩ := row_blk (h.we e he) hg; exact c.block g (lt_of_block hb) (h.free hb (by decide) (by decide))
  dt := h.dt
  tx := h.tx
  tw := h.tw
  dh := hd
  bp := h.bp
/-- what a step tells -/
def StepQ (base : Nat) (w : World) (pb : Nat) (s : PrS) (e : Ending) (w' : World) : Prop :=
  e = .returned (.bool true) ∧ ∃ s', PqAt base w' pb s' ∧ Chg w w' (SQ pb s) ∧ (∀ k, SQ pb s' k → SQ pb s k ∨ w.heap.size ≤ k) ∧ s'.told.length ≤ s.told.length + 1
/-- behind the program's call the reference's region stands -/
theorem PqAt.rf2 {base : Nat} {w w2 : World} {pb : Nat} {s : PrS} (h : PqAt base w pb s) (c : Chg w w2 (fun k => k = s.g)) : RfAt base w2 s.h s.hv (rctsB (bdsOf s.bl)) :=
  h.rf.keep fun k hk => c.block k (h.rf.lt k hk).1 fun e => by
    have e : k = s.g := e
    rcases hk with hk | hk
    · exact blk_ne h.rf.pr h.rg.pr (by decide) (hk.symm.trans e)
    · obtain ⟨cs, fr, hb⟩ := row_blk h.rf.own hk; exact blk_ne hb h.rg.pr (by decide) e
/-- both regions turned in the same way -/
theorem PqAt.both {base : Nat} {w w2 w3 : World} {pb : Nat} {s : PrS} (h : PqAt base w pb s) {d : Nat} {b : Bx} {e1 e2 : Ending} (hbo : BxOk b) (hbi : BxIn b) (c1 : ChgR base w (opD d) s.g s.gv s.bl b e1 w2) (c2 : DoR base w2 s.h s.hv (bdsOf s.bl) d b e2 w3) : StepQ base w pb s (.returned (.bool true)) w3 := by
  obtain ⟨_, v', l', q1, q2, q3, q4⟩ := c1
  obtain ⟨_, v2, p1, p2, p3⟩ := c2
  have c : Chg w w3 (fun k => k = s.g ∨ k = s.h) := (Chg.trans (S := fun k => k = s.g ∨ k = s.h) ⟨q3.os, q3.tape, q3.output, q3.size, fun k hk hn => q3.block k hk (fun e => hn (.inl e))⟩ p2 (fun k hk => .inl (.inr hk)))
  have hh : ∀ k, SG s.g v' l' k → ¬ k = s.h := fun k hk e => by
    subst e
    rcases hk with hk | hk | ⟨e, he, hk⟩
    · exact blk_ne q1.pr (h.rf2 q3).pr (by decide) hk.symm
    · obtain ⟨cs, fr, hb⟩ := row_blk q1.bn.row hk; exact blk_ne hb (h.rf2 q3).pr (by decide) rfl
    · obtain ⟨cs, fr, hb⟩ := row_blk (q1.bn.en e he) hk; exact blk_ne hb (h.rf2 q3).pr (by decide) rfl
  have rg3 : RegAt base w3 s.g v' l' := q1.other p2 hh
  have okl : RegOk (bdsOf l') := by
    rw [q2]
    by_cases hf : 1024 < cntB (chgB (opD d) (bdsOf s.bl) b)
    · rw [if_pos hf]; exact h.ok
    · rw [if_neg hf]; exact ⟨chgB_can (opD_zero d) h.ok.can hbo, chgB_in_plane _ h.ok.pl hbi, by omega⟩
  have rf3 : RfAt base w3 s.h v2 (rctsB (bdsOf l')) := by rw [q2]; exact p1
  have hd : ∀ e ∈ s.told, e.t.ownBlock = none ∨ e.t.ownBlock ≠ v2.ownBlock := fun e he => by
    cases hq : e.t.ownBlock with
    | none => exact .inl rfl
    | some k =>
      refine .inr fun e2 => ?_
      rcases p3 k (.inr e2.symm) with (e3 | e3) | e3
      · obtain ⟨cs, fr, hb⟩ := row_blk (h.te e he) hq
        exact blk_ne hb h.rf.pr (by decide) e3
      · rcases h.dh e he with h4 | h4
        · rw [hq] at h4; cases h4
        · exact h4 (hq.trans e3.symm)
      · have := (row_lt (h.te e he) k hq).1
        have := q3.size
        omega
  refine ⟨rfl, _, h.turn c rg3 okl rf3 hd, ⟨c.os, c.tape, c.output, c.size, fun k hk hn => c.block k hk fun e => hn ?_⟩, fun k hk => ?_, Nat.le_succ _⟩
  · rcases e with e | e
    · exact .inr (.inl (.inl e))
    · exact .inr (.inr (.inl (.inl e)))
  · rcases hk with e | e | e | e | e | e
    · exact .inl (.inl e)
    · exact (q4 k e).imp (fun e => .inr (.inl e)) id
    · exact (p3 k e).imp (fun e => .inr (.inr (.inl e))) (fun e => Nat.le_trans q3.size e)
    · exact .inl (.inr (.inr (.inr (.inl e))))
    · exact .inl (.inr (.inr (.inr (.inr (.inl e)))))
    · exact .inl (.inr (.inr (.inr (.inr (.inr e)))))
theorem StepQ.from_ {base : Nat} {w w1 w' : World} {pb : Nat} {s : PrS} {e : Ending} (h : StepQ base w1 pb s e w') (hp : PqAt base w pb s) (hb : Below w.heap.size w w1) : StepQ base w pb s e w' := by
  obtain ⟨he, s', h1, h2, h3, h4⟩ := h
  exact ⟨he, s', h1, (Chg.of_below hb (SQ pb s)).trans h2 (fun k hk => .inl hk), fun k hk => (h3 k hk).imp id fun h => Nat.le_trans hb.size h, h4⟩
theorem PqAt.same {base : Nat} {w w' : World} {pb : Nat} {s : PrS} (h : PqAt base w pb s) (hb : Below w.heap.size w w') : StepQ base w pb s (.returned (.bool true)) w' := ⟨rfl, s, h.later hb, Chg.of_below hb _, fun k hk => .inl hk, Nat.le_succ _⟩
set_option maxRecDepth 100000 in
set_option maxHeartbeats 16000000 in
theorem qstep_any (base : Nat) (w : World) (pb : Nat) (s : PrS) (hp : PqAt base w pb s) (o : Int) (r : R4) (hr : isR r) (ho : o ≠ 6) : Calls Try.prog 43 #[.pointer (some ⟨pb, 0, none⟩), .agg #[.int .i64 o, .int .i64 r.x, .int .i64 r.y, .int .i64 r.w, .int .i64 r.h]] w fun e w' => StepQ base w pb s e w' := by
  obtain ⟨w1, hw1⟩ : ∃ z, z = w.alloc (.cells #[.int .i64 o, .int .i64 r.x, .int .i64 r.y, .int .i64 r.w, .int .i64 r.h] 66) := ⟨_, rfl⟩
  have B1 : Below w.heap.size w w1 := by rw [hw1]; exact below_al (Below.refl _ _) _
  have xs1 : w1.heap[w.heap.size]? = some (.cells #[.int .i64 o, .int .i64 r.x, .int .i64 r.y, .int .i64 r.w, .int .i64 r.h] 66 (0, 0)) := by rw [hw1]; exact heap_alloc_new _ _
  have HP := Lib.hid hp
  have HP1 := Lib.hid (hp.later B1)
  have HXS := Lib.hid xs1
  have HB1 := Lib.hid B1
  have HRI := Lib.hid hr
  have HSS := Lib.hid (show ∀ w' : World, w'.heap[pb]? = w1.heap[pb]? ∧ w'.heap[w.heap.size]? = w1.heap[w.heap.size]? → (pb < w'.heap.size ∧ w.heap.size < w'.heap.size ∧ w'.cell? ⟨pb, 0, none⟩ = some (.pointer (some ⟨s.g, 0, none⟩)) ∧ w'.cell? ⟨pb, 1, none⟩ = some (.pointer (some ⟨s.h, 0, none⟩)) ∧ w'.cell? ⟨w.heap.size, 0, none⟩ = some (.int .i64 o) ∧ w'.cell? ⟨w.heap.size, 1, none⟩ = some (.int .i64 r.x) ∧ w'.cell? ⟨w.heap.size, 2, none⟩ = some (.int .i64 r.y) ∧ w'.cell? ⟨w.heap.size, 3, none⟩ = some (.int .i64 r.w) ∧ w'.cell? ⟨w.heap.size, 4, none⟩ = some (.int .i64 r.h)) from fun w' h => by
    have h1 := h.1.trans HP1.out.pr
    have h2 := h.2.trans xs1
    refine ⟨lt_of_block h1, lt_of_block h2, ?_, ?_, ?_, ?_, ?_, ?_, ?_⟩ <;> first | (rw [cell_of_row _ _ _ _ _ _ h1]; rfl) | (rw [cell_of_row _ _ _ _ _ _ h2]; rfl))
  have z0 : w.heap.size < w1.heap.size := lt_of_block xs1
  have q0 : w1.cell? ⟨w.heap.size, 0, none⟩ = some (.int .i64 o) := by rw [cell_of_row _ _ _ _ _ _ xs1]; rfl
  have HPD := Lib.hid (HP1.out.later (Below.drew (Below.refl w1.heap.size w1)))
  have HS1 := Lib.hid (show w1.drew.heap[pb]? = w1.heap[pb]? ∧ w1.drew.heap[w.heap.size]? = w1.heap[w.heap.size]? from ⟨rfl, rfl⟩)
  clear hp xs1 B1 hr
  by_cases h1 : o = 1
  · subst h1
    obtain ⟨cd, hcd⟩ : ∃ q : Int, q = (if 1024 < cntB (chgB opAdd (bdsOf s.bl) (bxR r)) then 4 else 0) := ⟨_, rfl⟩
    have CP := Lib.hid (show Calls Try.prog 35 #[.pointer (some ⟨s.g, 0, none⟩), .agg #[.int .i64 r.x, .int .i64 r.y, .int .i64 r.w, .int .i64 r.h]] w1.drew fun e w' => e = .returned (.int .i64 cd) ∧ ChgR base w1.drew (opD 1) s.g s.gv s.bl (bxR r) e w' from (add_any base w1.drew s.g s.gv s.bl HPD.out.rg HPD.out.ok r HRI.out).mono fun e w' hc => ⟨hc.1.trans (by rw [hcd]), hc⟩)
    have CQ := Lib.hid (show ∀ W, RfAt base W s.h s.hv (rctsB (bdsOf s.bl)) → Calls Try.prog 59 #[.pointer (some ⟨s.h, 0, none⟩), .int .i64 1, .agg #[.int .i64 r.x, .int .i64 r.y, .int .i64 r.w, .int .i64 r.h]] W fun e w' => e = .returned (.int .i64 cd) ∧ DoR base W s.h s.hv (bdsOf s.bl) 1 (bxR r) e w' from fun W hW => (do_any base W s.h s.hv (bdsOf s.bl) 1 r hW HPD.out.ok (by decide) HRI.out).mono fun e w' hc => ⟨hc.1.trans (by rw [hcd]; rfl), hc⟩)
    clear hcd
    go_enter Try.func43, Try.ntmps43
    go_upto_region 1 with (fail)
    rw [← hw1]
    clear hw1
    go_upto_region 3 with (fail)
    clear q0 z0
    refine wp_region_noPanic ?_
    refine wp_region_held (S := fun w' => w'.heap[pb]? = w1.heap[pb]? ∧ w'.heap[w.heap.size]? = w1.heap[w.heap.size]?) (by kernel_rfl) ?_
    change wpAnyH _ _ _ _ _ 16 (Array.replicate 16 false) _ _
    refine wpAnyH_take (i := 0) (v := ?vm0) (by simp only [List.getElem?_toArray, List.getElem?_cons_succ, List.getElem?_cons_zero]; rfl) (by kernel_rfl) (by kernel_rfl) (by kernel_rfl) (fun _ _ _ h => h) (.inl ⟨by rfl, ?tm0⟩) ?sm0 ?_
    case tm0 => (intro w' h; clear h; go_simp; try rfl)
    case sm0 => exact HS1.out
    (try simp only [Act.put, List.setIfInBounds_toArray, List.set_cons_zero, List.set_cons_succ])
    refine wpAnyH_take (i := 1) (v := ?vm1) (by simp only [List.getElem?_toArray, List.getElem?_cons_succ, List.getElem?_cons_zero]; rfl) (by kernel_rfl) (by kernel_rfl) (by kernel_rfl) (fun _ _ _ h => h) (.inl ⟨by rfl, ?tm1⟩) ?sm1 ?_
    case tm1 => (intro w' h; clear h; go_simp; try rfl)
    case sm1 => exact HS1.out
    (try simp only [Act.put, List.setIfInBounds_toArray, List.set_cons_zero, List.set_cons_succ])
    refine wpAnyH_take (i := 2) (v := ?vm2) (by simp only [List.getElem?_toArray, List.getElem?_cons_succ, List.getElem?_cons_zero]; rfl) (by kernel_rfl) (by kernel_rfl) (by kernel_rfl) (fun _ _ _ h => h) (.inl ⟨by rfl, ?tm2⟩) ?sm2 ?_
    case tm2 => (intro w' h; clear h; go_simp; try rfl)
    case sm2 => exact HS1.out
    (try simp only [Act.put, List.setIfInBounds_toArray, List.set_cons_zero, List.set_cons_succ])
    refine wpAnyH_take (i := 3) (v := ?vm3) (by simp only [List.getElem?_toArray, List.getElem?_cons_succ, List.getElem?_cons_zero]; rfl) (by kernel_rfl) (by kernel_rfl) (by kernel_rfl) (fun _ _ _ h => h) (.inl ⟨by rfl, ?tm3⟩) ?sm3 ?_
    case tm3 => (intro w' h; have FK := HSS.out w' h; clear h; go_split_ands; go_simp; try rfl)
    case sm3 => exact HS1.out
    (try simp only [Act.put, List.setIfInBounds_toArray, List.set_cons_zero, List.set_cons_succ])
    refine wpAnyH_take (i := 4) (v := ?vm4) (by simp only [List.getElem?_toArray, List.getElem?_cons_succ, List.getElem?_cons_zero]; rfl) (by kernel_rfl) (by kernel_rfl) (by kernel_rfl) (fun _ _ _ h => h) (.inl ⟨by rfl, ?tm4⟩) ?sm4 ?_
    case tm4 => (intro w' h; clear h; go_simp; try rfl)
    case sm4 => exact HS1.out
    (try simp only [Act.put, List.setIfInBounds_toArray, List.set_cons_zero, List.set_cons_succ])
    refine wpAnyH_take (i := 5) (v := ?vm5) (by simp only [List.getElem?_toArray, List.getElem?_cons_succ, List.getElem?_cons_zero]; rfl) (by kernel_rfl) (by kernel_rfl) (by kernel_rfl) (fun _ _ _ h => h) (.inl ⟨by rfl, ?tm5⟩) ?sm5 ?_
    case tm5 => (intro w' h; have FK := HSS.out w' h; clear h; go_split_ands; go_simp; try rfl)
    case sm5 => exact HS1.out
    (try simp only [Act.put, List.setIfInBounds_toArray, List.set_cons_zero, List.set_cons_succ])
    refine wpAnyH_take (i := 7) (v := ?vmb7) (by simp only [List.getElem?_toArray, List.getElem?_cons_succ, List.getElem?_cons_zero]; rfl) (by kernel_rfl) (by kernel_rfl) (by kernel_rfl) (fun _ _ _ h => h) (.inl ⟨by rfl, ?tmb7⟩) ?smb7 ?_
    case tmb7 => (intro w' h; clear h; go_simp; try rfl)
    case smb7 => exact HS1.out
    (try simp only [Act.put, List.setIfInBounds_toArray, List.set_cons_zero, List.set_cons_succ])
    refine wpAnyH_take (i := 8) (v := ?vmb8) (by simp only [List.getElem?_toArray, List.getElem?_cons_succ, List.getElem?_cons_zero]; rfl) (by kernel_rfl) (by kernel_rfl) (by kernel_rfl) (fun _ _ _ h => h) (.inl ⟨by rfl, ?tmb8⟩) ?smb8 ?_
    case tmb8 => (intro w' h; clear h; go_simp; try rfl)
    case smb8 => exact HS1.out
    (try simp only [Act.put, List.setIfInBounds_toArray, List.set_cons_zero, List.set_cons_succ])
    refine wpAnyH_take (i := 9) (v := ?vmb9) (by simp only [List.getElem?_toArray, List.getElem?_cons_succ, List.getElem?_cons_zero]; rfl) (by kernel_rfl) (by kernel_rfl) (by kernel_rfl) (fun _ _ _ h => h) (.inl ⟨by rfl, ?tmb9⟩) ?smb9 ?_
    case tmb9 => (intro w' h; clear h; go_simp; try rfl)
    case smb9 => exact HS1.out
    (try simp only [Act.put, List.setIfInBounds_toArray, List.set_cons_zero, List.set_cons_succ])
    refine wpAnyH_take (i := 10) (v := ?vmb10) (by simp only [List.getElem?_toArray, List.getElem?_cons_succ, List.getElem?_cons_zero]; rfl) (by kernel_rfl) (by kernel_rfl) (by kernel_rfl) (fun _ _ _ h => h) (.inl ⟨by rfl, ?tmb10⟩) ?smb10 ?_
    case tmb10 => (intro w' h; have FK := HSS.out w' h; clear h; go_split_ands; go_simp; try rfl)
    case smb10 => exact HS1.out
    (try simp only [Act.put, List.setIfInBounds_toArray, List.set_cons_zero, List.set_cons_succ])
    refine wpAnyH_take (i := 11) (v := ?vmb11) (by simp only [List.getElem?_toArray, List.getElem?_cons_succ, List.getElem?_cons_zero]; rfl) (by kernel_rfl) (by kernel_rfl) (by kernel_rfl) (fun _ _ _ h => h) (.inl ⟨by rfl, ?tmb11⟩) ?smb11 ?_
    case tmb11 => (intro w' h; clear h; go_simp; try rfl)
    case smb11 => exact HS1.out
    (try simp only [Act.put, List.setIfInBounds_toArray, List.set_cons_zero, List.set_cons_succ])
    refine wpAnyH_take (i := 12) (v := ?vmb12) (by simp only [List.getElem?_toArray, List.getElem?_cons_succ, List.getElem?_cons_zero]; rfl) (by kernel_rfl) (by kernel_rfl) (by kernel_rfl) (fun _ _ _ h => h) (.inl ⟨by rfl, ?tmb12⟩) ?smb12 ?_
    case tmb12 => (intro w' h; have FK := HSS.out w' h; clear h; go_split_ands; go_simp; try rfl)
    case smb12 => exact HS1.out
    (try simp only [Act.put, List.setIfInBounds_toArray, List.set_cons_zero, List.set_cons_succ])
    refine wpAnyH_one (i := 6) (by kernel_rfl) ?_
    refine wpOp_call (by simp only [List.getElem?_toArray, List.getElem?_cons_succ, List.getElem?_cons_zero]; rfl) (by rfl) (by go_simp; first | exact ⟨rfl, rfl⟩ | rfl) ?_
    refine (CP.out).mono ?_
    rintro e w2 ⟨rfl, hl⟩
    have HL2 := Lib.hid hl
    have hq3 : Chg w1.drew w2 (fun k => k = s.g) := by obtain ⟨_, _, _, _, _, q, _⟩ := hl; exact q
    have HS2 := Lib.hid (show w2.heap[pb]? = w1.heap[pb]? ∧ w2.heap[w.heap.size]? = w1.heap[w.heap.size]? from ⟨hq3.block pb (lt_of_block HPD.out.pr) (fun e => blk_ne HPD.out.pr HPD.out.rg.pr (by decide) e), hq3.block w.heap.size (lt_of_block (show w1.drew.heap[w.heap.size]? = _ from HXS.out)) (fun e => blk_ne (show w1.drew.heap[w.heap.size]? = _ from HXS.out) HPD.out.rg.pr (by decide) e)⟩)
    have HR2 := Lib.hid (HPD.out.rf2 hq3)
    clear hl hq3
    refine ⟨_, rfl, HS2.out, ?_⟩
    (try simp only [Act.put, List.setIfInBounds_toArray, List.set_cons_zero, List.set_cons_succ])
    refine wpAnyH_one (i := 13) (by kernel_rfl) ?_
    refine wpOp_call (by simp only [List.getElem?_toArray, List.getElem?_cons_succ, List.getElem?_cons_zero]; rfl) (by rfl) (by go_simp; first | exact ⟨rfl, rfl⟩ | rfl) ?_
    refine (CQ.out w2 HR2.out).mono ?_
    rintro e w3 ⟨rfl, hr⟩
    have HR3 := Lib.hid hr
    have hq3 : Chg w2 w3 (fun k => k = s.h) := by obtain ⟨_, _, _, q, _⟩ := hr; exact q
    have HS3 := Lib.hid (show w3.heap[pb]? = w1.heap[pb]? ∧ w3.heap[w.heap.size]? = w1.heap[w.heap.size]? from by
      have k1 := HS2.out.1.trans HP1.out.pr
      have k2 := HS2.out.2.trans HXS.out
      exact ⟨(hq3.block pb (lt_of_block k1) (fun e => blk_ne k1 HR2.out.pr (by decide) e)).trans HS2.out.1, (hq3.block w.heap.size (lt_of_block k2) (fun e => blk_ne k2 HR2.out.pr (by decide) e)).trans HS2.out.2⟩)
    clear hr hq3
    refine ⟨_, rfl, HS3.out, ?_⟩
    (try simp only [Act.put, List.setIfInBounds_toArray, List.set_cons_zero, List.set_cons_succ])
    refine wpAnyH_take (i := 14) (v := ?vmc14) (by simp only [List.getElem?_toArray, List.getElem?_cons_succ, List.getElem?_cons_zero]; rfl) (by kernel_rfl) (by kernel_rfl) (by kernel_rfl) (fun _ _ _ h => h) (.inl ⟨by rfl, ?tmc14⟩) ?smc14 ?_
    case tmc14 => (intro w' h; clear h; go_simp; try rfl)
    case smc14 => exact HS3.out
    (try simp only [Act.put, List.setIfInBounds_toArray, List.set_cons_zero, List.set_cons_succ])
    refine wpAnyH_take (i := 15) (v := ?vmc15) (by simp only [List.getElem?_toArray, List.getElem?_cons_succ, List.getElem?_cons_zero]; rfl) (by kernel_rfl) (by kernel_rfl) (by kernel_rfl) (fun _ _ _ h => h) (.inl ⟨by rfl, ?tmc15⟩) ?smc15 ?_
    case tmc15 => (intro w' h; clear h; go_simp; try rfl)
    case smc15 => exact HS3.out
    (try simp only [Act.put, List.setIfInBounds_toArray, List.set_cons_zero, List.set_cons_succ])
    refine wpAnyH_done (by kernel_rfl) (NoPanic.normal ?_) _
    have HZ := Lib.hid (show StepQ base w pb s (.returned (.bool true)) w3 from (HPD.out.both (bxR_ok r) (bxR_in r) HL2.out HR3.out).from_ HP.out (Below.drew HB1.out))
    clear HS1 HS2 HS3 HL2 HR2 HR3 CP CQ
    go_wp2
    go_ret
    exact HZ.out
  · skip
    by_cases h2 : o = 2
    · subst h2
      obtain ⟨cd, hcd⟩ : ∃ q : Int, q = (if 1024 < cntB (chgB opCut (bdsOf s.bl) (bxR r)) then 4 else 0) := ⟨_, rfl⟩
      have CP := Lib.hid (show Calls Try.prog 39 #[.pointer (some ⟨s.g, 0, none⟩), .agg #[.int .i64 r.x, .int .i64 r.y, .int .i64 r.w, .int .i64 r.h]] w1.drew fun e w' => e = .returned (.int .i64 cd) ∧ ChgR base w1.drew (opD 2) s.g s.gv s.bl (bxR r) e w' from (cut_any base w1.drew s.g s.gv s.bl HPD.out.rg HPD.out.ok r HRI.out).mono fun e w' hc => ⟨hc.1.trans (by rw [hcd]), hc⟩)
      have CQ := Lib.hid (show ∀ W, RfAt base W s.h s.hv (rctsB (bdsOf s.bl)) → Calls Try.prog 59 #[.pointer (some ⟨s.h, 0, none⟩), .int .i64 2, .agg #[.int .i64 r.x, .int .i64 r.y, .int .i64 r.w, .int .i64 r.h]] W fun e w' => e = .returned (.int .i64 cd) ∧ DoR base W s.h s.hv (bdsOf s.bl) 2 (bxR r) e w' from fun W hW => (do_any base W s.h s.hv (bdsOf s.bl) 2 r hW HPD.out.ok (by decide) HRI.out).mono fun e w' hc => ⟨hc.1.trans (by rw [hcd]; rfl), hc⟩)
      clear hcd
      go_enter Try.func43, Try.ntmps43
      go_upto_region 1 with (fail)
      rw [← hw1]
      clear hw1
      go_upto_region 5 with (fail)
      clear q0 z0
      refine wp_region_noPanic ?_
      refine wp_region_held (S := fun w' => w'.heap[pb]? = w1.heap[pb]? ∧ w'.heap[w.heap.size]? = w1.heap[w.heap.size]?) (by kernel_rfl) ?_
      change wpAnyH _ _ _ _ _ 16 (Array.replicate 16 false) _ _
      refine wpAnyH_take (i := 0) (v := ?vn0) (by simp only [List.getElem?_toArray, List.getElem?_cons_succ, List.getElem?_cons_zero]; rfl) (by kernel_rfl) (by kernel_rfl) (by kernel_rfl) (fun _ _ _ h => h) (.inl ⟨by rfl, ?tn0⟩) ?sn0 ?_
      case tn0 => (intro w' h; clear h; go_simp; try rfl)
      case sn0 => exact HS1.out
      (try simp only [Act.put, List.setIfInBounds_toArray, List.set_cons_zero, List.set_cons_succ])
      refine wpAnyH_take (i := 1) (v := ?vn1) (by simp only [List.getElem?_toArray, List.getElem?_cons_succ, List.getElem?_cons_zero]; rfl) (by kernel_rfl) (by kernel_rfl) (by kernel_rfl) (fun _ _ _ h => h) (.inl ⟨by rfl, ?tn1⟩) ?sn1 ?_
      case tn1 => (intro w' h; clear h; go_simp; try rfl)
      case sn1 => exact HS1.out
      (try simp only [Act.put, List.setIfInBounds_toArray, List.set_cons_zero, List.set_cons_succ])
      refine wpAnyH_take (i := 2) (v := ?vn2) (by simp only [List.getElem?_toArray, List.getElem?_cons_succ, List.getElem?_cons_zero]; rfl) (by kernel_rfl) (by kernel_rfl) (by kernel_rfl) (fun _ _ _ h => h) (.inl ⟨by rfl, ?tn2⟩) ?sn2 ?_
      case tn2 => (intro w' h; clear h; go_simp; try rfl)
      case sn2 => exact HS1.out
      (try simp only [Act.put, List.setIfInBounds_toArray, List.set_cons_zero, List.set_cons_succ])
      refine wpAnyH_take (i := 3) (v := ?vn3) (by simp only [List.getElem?_toArray, List.getElem?_cons_succ, List.getElem?_cons_zero]; rfl) (by kernel_rfl) (by kernel_rfl) (by kernel_rfl) (fun _ _ _ h => h) (.inl ⟨by rfl, ?tn3⟩) ?sn3 ?_
      case tn3 => (intro w' h; have FK := HSS.out w' h; clear h; go_split_ands; go_simp; try rfl)
      case sn3 => exact HS1.out
      (try simp only [Act.put, List.setIfInBounds_toArray, List.set_cons_zero, List.set_cons_succ])
      refine wpAnyH_take (i := 4) (v := ?vn4) (by simp only [List.getElem?_toArray, List.getElem?_cons_succ, List.getElem?_cons_zero]; rfl) (by kernel_rfl) (by kernel_rfl) (by kernel_rfl) (fun _ _ _ h => h) (.inl ⟨by rfl, ?tn4⟩) ?sn4 ?_
      case tn4 => (intro w' h; clear h; go_simp; try rfl)
      case sn4 => exact HS1.out
      (try simp only [Act.put, List.setIfInBounds_toArray, List.set_cons_zero, List.set_cons_succ])
      refine wpAnyH_take (i := 5) (v := ?vn5) (by simp only [List.getElem?_toArray, List.getElem?_cons_succ, List.getElem?_cons_zero]; rfl) (by kernel_rfl) (by kernel_rfl) (by kernel_rfl) (fun _ _ _ h => h) (.inl ⟨by rfl, ?tn5⟩) ?sn5 ?_
      case tn5 => (intro w' h; have FK := HSS.out w' h; clear h; go_split_ands; go_simp; try rfl)
      case sn5 => exact HS1.out
      (try simp only [Act.put, List.setIfInBounds_toArray, List.set_cons_zero, List.set_cons_succ])
      refine wpAnyH_take (i := 7) (v := ?vnb7) (by simp only [List.getElem?_toArray, List.getElem?_cons_succ, List.getElem?_cons_zero]; rfl) (by kernel_rfl) (by kernel_rfl) (by kernel_rfl) (fun _ _ _ h => h) (.inl ⟨by rfl, ?tnb7⟩) ?snb7 ?_
      case tnb7 => (intro w' h; clear h; go_simp; try rfl)
      case snb7 => exact HS1.out
      (try simp only [Act.put, List.setIfInBounds_toArray, List.set_cons_zero, List.set_cons_succ])
      refine wpAnyH_take (i := 8) (v := ?vnb8) (by simp only [List.getElem?_toArray, List.getElem?_cons_succ, List.getElem?_cons_zero]; rfl) (by kernel_rfl) (by kernel_rfl) (by kernel_rfl) (fun _ _ _ h => h) (.inl ⟨by rfl, ?tnb8⟩) ?snb8 ?_
      case tnb8 => (intro w' h; clear h; go_simp; try rfl)
      case snb8 => exact HS1.out
      (try simp only [Act.put, List.setIfInBounds_toArray, List.set_cons_zero, List.set_cons_succ])
      refine wpAnyH_take (i := 9) (v := ?vnb9) (by simp only [List.getElem?_toArray, List.getElem?_cons_succ, List.getElem?_cons_zero]; rfl) (by kernel_rfl) (by kernel_rfl) (by kernel_rfl) (fun _ _ _ h => h) (.inl ⟨by rfl, ?tnb9⟩) ?snb9 ?_
      case tnb9 => (intro w' h; clear h; go_simp; try rfl)
      case snb9 => exact HS1.out
      (try simp only [Act.put, List.setIfInBounds_toArray, List.set_cons_zero, List.set_cons_succ])
      refine wpAnyH_take (i := 10) (v := ?vnb10) (by simp only [List.getElem?_toArray, List.getElem?_cons_succ, List.getElem?_cons_zero]; rfl) (by kernel_rfl) (by kernel_rfl) (by kernel_rfl) (fun _ _ _ h => h) (.inl ⟨by rfl, ?tnb10⟩) ?snb10 ?_
      case tnb10 => (intro w' h; have FK := HSS.out w' h; clear h; go_split_ands; go_simp; try rfl)
      case snb10 => exact HS1.out
      (try simp only [Act.put, List.setIfInBounds_toArray, List.set_cons_zero, List.set_cons_succ])
      refine wpAnyH_take (i := 11) (v := ?vnb11) (by simp only [List.getElem?_toArray, List.getElem?_cons_succ, List.getElem?_cons_zero]; rfl) (by kernel_rfl) (by kernel_rfl) (by kernel_rfl) (fun _ _ _ h => h) (.inl ⟨by rfl, ?tnb11⟩) ?snb11 ?_
      case tnb11 => (intro w' h; clear h; go_simp; try rfl)
      case snb11 => exact HS1.out
      (try simp only [Act.put, List.setIfInBounds_toArray, List.set_cons_zero, List.set_cons_succ])
      refine wpAnyH_take (i := 12) (v := ?vnb12) (by simp only [List.getElem?_toArray, List.getElem?_cons_succ, List.getElem?_cons_zero]; rfl) (by kernel_rfl) (by kernel_rfl) (by kernel_rfl) (fun _ _ _ h => h) (.inl ⟨by rfl, ?tnb12⟩) ?snb12 ?_
      case tnb12 => (intro w' h; have FK := HSS.out w' h; clear h; go_split_ands; go_simp; try rfl)
      case snb12 => exact HS1.out
      (try simp only [Act.put, List.setIfInBounds_toArray, List.set_cons_zero, List.set_cons_succ])
      refine wpAnyH_one (i := 6) (by kernel_rfl) ?_
      refine wpOp_call (by simp only [List.getElem?_toArray, List.getElem?_cons_succ, List.getElem?_cons_zero]; rfl) (by rfl) (by go_simp; first | exact ⟨rfl, rfl⟩ | rfl) ?_
      refine (CP.out).mono ?_
      rintro e w2 ⟨rfl, hl⟩
      have HL2 := Lib.hid hl
      have hq3 : Chg w1.drew w2 (fun k => k = s.g) := by obtain ⟨_, _, _, _, _, q, _⟩ := hl; exact q
      have HS2 := Lib.hid (show w2.heap[pb]? = w1.heap[pb]? ∧ w2.heap[w.heap.size]? = w1.heap[w.heap.size]? from ⟨hq3.block pb (lt_of_block HPD.out.pr) (fun e => blk_ne HPD.out.pr HPD.out.rg.pr (by decide) e), hq3.block w.heap.size (lt_of_block (show w1.drew.heap[w.heap.size]? = _ from HXS.out)) (fun e => blk_ne (show w1.drew.heap[w.heap.size]? = _ from HXS.out) HPD.out.rg.pr (by decide) e)⟩)
      have HR2 := Lib.hid (HPD.out.rf2 hq3)
      clear hl hq3
      refine ⟨_, rfl, HS2.out, ?_⟩
      (try simp only [Act.put, List.setIfInBounds_toArray, List.set_cons_zero, List.set_cons_succ])
      refine wpAnyH_one (i := 13) (by kernel_rfl) ?_
      refine wpOp_call (by simp only [List.getElem?_toArray, List.getElem?_cons_succ, List.getElem?_cons_zero]; rfl) (by rfl) (by go_simp; first | exact ⟨rfl, rfl⟩ | rfl) ?_
      refine (CQ.out w2 HR2.out).mono ?_
      rintro e w3 ⟨rfl, hr⟩
      have HR3 := Lib.hid hr
      have hq3 : Chg w2 w3 (fun k => k = s.h) := by obtain ⟨_, _, _, q, _⟩ := hr; exact q
      have HS3 := Lib.hid (show w3.heap[pb]? = w1.heap[pb]? ∧ w3.heap[w.heap.size]? = w1.heap[w.heap.size]? from by
        have k1 := HS2.out.1.trans HP1.out.pr
        have k2 := HS2.out.2.trans HXS.out
        exact ⟨(hq3.block pb (lt_of_block k1) (fun e => blk_ne k1 HR2.out.pr (by decide) e)).trans HS2.out.1, (hq3.block w.heap.size (lt_of_block k2) (fun e => blk_ne k2 HR2.out.pr (by decide) e)).trans HS2.out.2⟩)
      clear hr hq3
      refine ⟨_, rfl, HS3.out, ?_⟩
      (try simp only [Act.put, List.setIfInBounds_toArray, List.set_cons_zero, List.set_cons_succ])
      refine wpAnyH_take (i := 14) (v := ?vnc14) (by simp only [List.getElem?_toArray, List.getElem?_cons_succ, List.getElem?_cons_zero]; rfl) (by kernel_rfl) (by kernel_rfl) (by kernel_rfl) (fun _ _ _ h => h) (.inl ⟨by rfl, ?tnc14⟩) ?snc14 ?_
      case tnc14 => (intro w' h; clear h; go_simp; try rfl)
      case snc14 => exact HS3.out
      (try simp only [Act.put, List.setIfInBounds_toArray, List.set_cons_zero, List.set_cons_succ])
      refine wpAnyH_take (i := 15) (v := ?vnc15) (by simp only [List.getElem?_toArray, List.getElem?_cons_succ, List.getElem?_cons_zero]; rfl) (by kernel_rfl) (by kernel_rfl) (by kernel_rfl) (fun _ _ _ h => h) (.inl ⟨by rfl, ?tnc15⟩) ?snc15 ?_
      case tnc15 => (intro w' h; clear h; go_simp; try rfl)
      case snc15 => exact HS3.out
      (try simp only [Act.put, List.setIfInBounds_toArray, List.set_cons_zero, List.set_cons_succ])
      refine wpAnyH_done (by kernel_rfl) (NoPanic.normal ?_) _
      have HZ := Lib.hid (show StepQ base w pb s (.returned (.bool true)) w3 from (HPD.out.both (bxR_ok r) (bxR_in r) HL2.out HR3.out).from_ HP.out (Below.drew HB1.out))
      clear HS1 HS2 HS3 HL2 HR2 HR3 CP CQ
      go_wp2
      go_ret
      exact HZ.out
    · skip
      by_cases h3 : o = 3
      · subst h3
        obtain ⟨cd, hcd⟩ : ∃ q : Int, q = (if 1024 < cntB (chgB opClip (bdsOf s.bl) (bxR r)) then 4 else 0) := ⟨_, rfl⟩
        have CP := Lib.hid (show Calls Try.prog 40 #[.pointer (some ⟨s.g, 0, none⟩), .agg #[.int .i64 r.x, .int .i64 r.y, .int .i64 r.w, .int .i64 r.h]] w1.drew fun e w' => e = .returned (.int .i64 cd) ∧ ChgR base w1.drew (opD 3) s.g s.gv s.bl (bxR r) e w' from (clip_any base w1.drew s.g s.gv s.bl HPD.out.rg HPD.out.ok r HRI.out).mono fun e w' hc => ⟨hc.1.trans (by rw [hcd]), hc⟩)
        have CQ := Lib.hid (show ∀ W, RfAt base W s.h s.hv (rctsB (bdsOf s.bl)) → Calls Try.prog 59 #[.pointer (some ⟨s.h, 0, none⟩), .int .i64 3, .agg #[.int .i64 r.x, .int .i64 r.y, .int .i64 r.w, .int .i64 r.h]] W fun e w' => e = .returned (.int .i64 cd) ∧ DoR base W s.h s.hv (bdsOf s.bl) 3 (bxR r) e w' from fun W hW => (do_any base W s.h s.hv (bdsOf s.bl) 3 r hW HPD.out.ok (by decide) HRI.out).mono fun e w' hc => ⟨hc.1.trans (by rw [hcd]; rfl), hc⟩)
        clear hcd
        go_enter Try.func43, Try.ntmps43
        go_upto_region 1 with (fail)
        rw [← hw1]
        clear hw1
        go_upto_region 7 with (fail)
        clear q0 z0
        refine wp_region_noPanic ?_
        refine wp_region_held (S := fun w' => w'.heap[pb]? = w1.heap[pb]? ∧ w'.heap[w.heap.size]? = w1.heap[w.heap.size]?) (by kernel_rfl) ?_
        change wpAnyH _ _ _ _ _ 16 (Array.replicate 16 false) _ _
        refine wpAnyH_take (i := 0) (v := ?vo0) (by simp only [List.getElem?_toArray, List.getElem?_cons_succ, List.getElem?_cons_zero]; rfl) (by kernel_rfl) (by kernel_rfl) (by kernel_rfl) (fun _ _ _ h => h) (.inl ⟨by rfl, ?to0⟩) ?so0 ?_
        case to0 => (intro w' h; clear h; go_simp; try rfl)
        case so0 => exact HS1.out
        (try simp only [Act.put, List.setIfInBounds_toArray, List.set_cons_zero, List.set_cons_succ])
        refine wpAnyH_take (i := 1) (v := ?vo1) (by simp only [List.getElem?_toArray, List.getElem?_cons_succ, List.getElem?_cons_zero]; rfl) (by kernel_rfl) (by kernel_rfl) (by kernel_rfl) (fun _ _ _ h => h) (.inl ⟨by rfl, ?to1⟩) ?so1 ?_
        case to1 => (intro w' h; clear h; go_simp; try rfl)
        case so1 => exact HS1.out
        (try simp only [Act.put, List.setIfInBounds_toArray, List.set_cons_zero, List.set_cons_succ])
        refine wpAnyH_take (i := 2) (v := ?vo2) (by simp only [List.getElem?_toArray, List.getElem?_cons_succ, List.getElem?_cons_zero]; rfl) (by kernel_rfl) (by kernel_rfl) (by kernel_rfl) (fun _ _ _ h => h) (.inl ⟨by rfl, ?to2⟩) ?so2 ?_
        case to2 => (intro w' h; clear h; go_simp; try rfl)
        case so2 => exact HS1.out
        (try simp only [Act.put, List.setIfInBounds_toArray, List.set_cons_zero, List.set_cons_succ])
        refine wpAnyH_take (i := 3) (v := ?vo3) (by simp only [List.getElem?_toArray, List.getElem?_cons_succ, List.getElem?_cons_zero]; rfl) (by kernel_rfl) (by kernel_rfl) (by kernel_rfl) (fun _ _ _ h => h) (.inl ⟨by rfl, ?to3⟩) ?so3 ?_
        case to3 => (intro w' h; have FK := HSS.out w' h; clear h; go_split_ands; go_simp; try rfl)
        case so3 => exact HS1.out
        (try simp only [Act.put, List.setIfInBounds_toArray, List.set_cons_zero, List.set_cons_succ])
        refine wpAnyH_take (i := 4) (v := ?vo4) (by simp only [List.getElem?_toArray, List.getElem?_cons_succ, List.getElem?_cons_zero]; rfl) (by kernel_rfl) (by kernel_rfl) (by kernel_rfl) (fun _ _ _ h => h) (.inl ⟨by rfl, ?to4⟩) ?so4 ?_
        case to4 => (intro w' h; clear h; go_simp; try rfl)
        case so4 => exact HS1.out
        (try simp only [Act.put, List.setIfInBounds_toArray, List.set_cons_zero, List.set_cons_succ])
        refine wpAnyH_take (i := 5) (v := ?vo5) (by simp only [List.getElem?_toArray, List.getElem?_cons_succ, List.getElem?_cons_zero]; rfl) (by kernel_rfl) (by kernel_rfl) (by kernel_rfl) (fun _ _ _ h => h) (.inl ⟨by rfl, ?to5⟩) ?so5 ?_
        case to5 => (intro w' h; have FK := HSS.out w' h; clear h; go_split_ands; go_simp; try rfl)
        case so5 => exact HS1.out
        (try simp only [Act.put, List.setIfInBounds_toArray, List.set_cons_zero, List.set_cons_succ])
        refine wpAnyH_take (i := 7) (v := ?vob7) (by simp only [List.getElem?_toArray, List.getElem?_cons_succ, List.getElem?_cons_zero]; rfl) (by kernel_rfl) (by kernel_rfl) (by kernel_rfl) (fun _ _ _ h => h) (.inl ⟨by rfl, ?tob7⟩) ?sob7 ?_
        case tob7 => (intro w' h; clear h; go_simp; try rfl)
        case sob7 => exact HS1.out
        (try simp only [Act.put, List.setIfInBounds_toArray, List.set_cons_zero, List.set_cons_succ])
        refine wpAnyH_take (i := 8) (v := ?vob8) (by simp only [List.getElem?_toArray, List.getElem?_cons_succ, List.getElem?_cons_zero]; rfl) (by kernel_rfl) (by kernel_rfl) (by kernel_rfl) (fun _ _ _ h => h) (.inl ⟨by rfl, ?tob8⟩) ?sob8 ?_
        case tob8 => (intro w' h; clear h; go_simp; try rfl)
        case sob8 => exact HS1.out
        (try simp only [Act.put, List.setIfInBounds_toArray, List.set_cons_zero, List.set_cons_succ])
        refine wpAnyH_take (i := 9) (v := ?vob9) (by simp only [List.getElem?_toArray, List.getElem?_cons_succ, List.getElem?_cons_zero]; rfl) (by kernel_rfl) (by kernel_rfl) (by kernel_rfl) (fun _ _ _ h => h) (.inl ⟨by rfl, ?tob9⟩) ?sob9 ?_
        case tob9 => (intro w' h; clear h; go_simp; try rfl)
        case sob9 => exact HS1.out
        (try simp only [Act.put, List.setIfInBounds_toArray, List.set_cons_zero, List.set_cons_succ])
        refine wpAnyH_take (i := 10) (v := ?vob10) (by simp only [List.getElem?_toArray, List.getElem?_cons_succ, List.getElem?_cons_zero]; rfl) (by kernel_rfl) (by kernel_rfl) (by kernel_rfl) (fun _ _ _ h => h) (.inl ⟨by rfl, ?tob10⟩) ?sob10 ?_
        case tob10 => (intro w' h; have FK := HSS.out w' h; clear h; go_split_ands; go_simp; try rfl)
        case sob10 => exact HS1.out
        (try simp only [Act.put, List.setIfInBounds_toArray, List.set_cons_zero, List.set_cons_succ])
        refine wpAnyH_take (i := 11) (v := ?vob11) (by simp only [List.getElem?_toArray, List.getElem?_cons_succ, List.getElem?_cons_zero]; rfl) (by kernel_rfl) (by kernel_rfl) (by kernel_rfl) (fun _ _ _ h => h) (.inl ⟨by rfl, ?tob11⟩) ?sob11 ?_
        case tob11 => (intro w' h; clear h; go_simp; try rfl)
        case sob11 => exact HS1.out
        (try simp only [Act.put, List.setIfInBounds_toArray, List.set_cons_zero, List.set_cons_succ])
        refine wpAnyH_take (i := 12) (v := ?vob12) (by simp only [List.getElem?_toArray, List.getElem?_cons_succ, List.getElem?_cons_zero]; rfl) (by kernel_rfl) (by kernel_rfl) (by kernel_rfl) (fun _ _ _ h => h) (.inl ⟨by rfl, ?tob12⟩) ?sob12 ?_
        case tob12 => (intro w' h; have FK := HSS.out w' h; clear h; go_split_ands; go_simp; try rfl)
        case sob12 => exact HS1.out
        (try simp only [Act.put, List.setIfInBounds_toArray, List.set_cons_zero, List.set_cons_succ])
        refine wpAnyH_one (i := 6) (by kernel_rfl) ?_
        refine wpOp_call (by simp only [List.getElem?_toArray, List.getElem?_cons_succ, List.getElem?_cons_zero]; rfl) (by rfl) (by go_simp; first | exact ⟨rfl, rfl⟩ | rfl) ?_
        refine (CP.out).mono ?_
        rintro e w2 ⟨rfl, hl⟩
        have HL2 := Lib.hid hl
        have hq3 : Chg w1.drew w2 (fun k => k = s.g) := by obtain ⟨_, _, _, _, _, q, _⟩ := hl; exact q
        have HS2 := Lib.hid (show w2.heap[pb]? = w1.heap[pb]? ∧ w2.heap[w.heap.size]? = w1.heap[w.heap.size]? from ⟨hq3.block pb (lt_of_block HPD.out.pr) (fun e => blk_ne HPD.out.pr HPD.out.rg.pr (by decide) e), hq3.block w.heap.size (lt_of_block (show w1.drew.heap[w.heap.size]? = _ from HXS.out)) (fun e => blk_ne (show w1.drew.heap[w.heap.size]? = _ from HXS.out) HPD.out.rg.pr (by decide) e)⟩)
        have HR2 := Lib.hid (HPD.out.rf2 hq3)
        clear hl hq3
        refine ⟨_, rfl, HS2.out, ?_⟩
        (try simp only [Act.put, List.setIfInBounds_toArray, List.set_cons_zero, List.set_cons_succ])
        refine wpAnyH_one (i := 13) (by kernel_rfl) ?_
        refine wpOp_call (by simp only [List.getElem?_toArray, List.getElem?_cons_succ, List.getElem?_cons_zero]; rfl) (by rfl) (by go_simp; first | exact ⟨rfl, rfl⟩ | rfl) ?_
        refine (CQ.out w2 HR2.out).mono ?_
        rintro e w3 ⟨rfl, hr⟩
        have HR3 := Lib.hid hr
        have hq3 : Chg w2 w3 (fun k => k = s.h) := by obtain ⟨_, _, _, q, _⟩ := hr; exact q
        have HS3 := Lib.hid (show w3.heap[pb]? = w1.heap[pb]? ∧ w3.heap[w.heap.size]? = w1.heap[w.heap.size]? from by
          have k1 := HS2.out.1.trans HP1.out.pr
          have k2 := HS2.out.2.trans HXS.out
          exact ⟨(hq3.block pb (lt_of_block k1) (fun e => blk_ne k1 HR2.out.pr (by decide) e)).trans HS2.out.1, (hq3.block w.heap.size (lt_of_block k2) (fun e => blk_ne k2 HR2.out.pr (by decide) e)).trans HS2.out.2⟩)
        clear hr hq3
        refine ⟨_, rfl, HS3.out, ?_⟩
        (try simp only [Act.put, List.setIfInBounds_toArray, List.set_cons_zero, List.set_cons_succ])
        refine wpAnyH_take (i := 14) (v := ?voc14) (by simp only [List.getElem?_toArray, List.getElem?_cons_succ, List.getElem?_cons_zero]; rfl) (by kernel_rfl) (by kernel_rfl) (by kernel_rfl) (fun _ _ _ h => h) (.inl ⟨by rfl, ?toc14⟩) ?soc14 ?_
        case toc14 => (intro w' h; clear h; go_simp; try rfl)
        case soc14 => exact HS3.out
        (try simp only [Act.put, List.setIfInBounds_toArray, List.set_cons_zero, List.set_cons_succ])
        refine wpAnyH_take (i := 15) (v := ?voc15) (by simp only [List.getElem?_toArray, List.getElem?_cons_succ, List.getElem?_cons_zero]; rfl) (by kernel_rfl) (by kernel_rfl) (by kernel_rfl) (fun _ _ _ h => h) (.inl ⟨by rfl, ?toc15⟩) ?soc15 ?_
        case toc15 => (intro w' h; clear h; go_simp; try rfl)
        case soc15 => exact HS3.out
        (try simp only [Act.put, List.setIfInBounds_toArray, List.set_cons_zero, List.set_cons_succ])
        refine wpAnyH_done (by kernel_rfl) (NoPanic.normal ?_) _
        have HZ := Lib.hid (show StepQ base w pb s (.returned (.bool true)) w3 from (HPD.out.both (bxR_ok r) (bxR_in r) HL2.out HR3.out).from_ HP.out (Below.drew HB1.out))
        clear HS1 HS2 HS3 HL2 HR2 HR3 CP CQ
        go_wp2
        go_ret
        exact HZ.out
      · skip
        by_cases h4 : o = 4
        · subst h4
          go_enter Try.func43, Try.ntmps43
          go_upto_region 1 with (fail)
          rw [← hw1]
          clear hw1
          go_upto_region 9 with (fail)
          clear q0 z0
          refine wp_region_noPanic ?_
          refine wp_region_held (S := fun w' => w'.heap[pb]? = w1.heap[pb]? ∧ w'.heap[w.heap.size]? = w1.heap[w.heap.size]?) (by kernel_rfl) ?_
          change wpAnyH _ _ _ _ _ 24 (Array.replicate 24 false) _ _
          refine wpAnyH_take (i := 0) (v := ?vp0) (by simp only [List.getElem?_toArray, List.getElem?_cons_succ, List.getElem?_cons_zero]; rfl) (by kernel_rfl) (by kernel_rfl) (by kernel_rfl) (fun _ _ _ h => h) (.inl ⟨by rfl, ?tp0⟩) ?sp0 ?_
          case tp0 => (intro w' h; clear h; go_simp; try rfl)
          case sp0 => exact HS1.out
          (try simp only [Act.put, List.setIfInBounds_toArray, List.set_cons_zero, List.set_cons_succ])
          refine wpAnyH_take (i := 1) (v := ?vp1) (by simp only [List.getElem?_toArray, List.getElem?_cons_succ, List.getElem?_cons_zero]; rfl) (by kernel_rfl) (by kernel_rfl) (by kernel_rfl) (fun _ _ _ h => h) (.inl ⟨by rfl, ?tp1⟩) ?sp1 ?_
          case tp1 => (intro w' h; clear h; go_simp; try rfl)
          case sp1 => exact HS1.out
          (try simp only [Act.put, List.setIfInBounds_toArray, List.set_cons_zero, List.set_cons_succ])
          refine wpAnyH_take (i := 2) (v := ?vp2) (by simp only [List.getElem?_toArray, List.getElem?_cons_succ, List.getElem?_cons_zero]; rfl) (by kernel_rfl) (by kernel_rfl) (by kernel_rfl) (fun _ _ _ h => h) (.inl ⟨by rfl, ?tp2⟩) ?sp2 ?_
          case tp2 => (intro w' h; clear h; go_simp; try rfl)
          case sp2 => exact HS1.out
          (try simp only [Act.put, List.setIfInBounds_toArray, List.set_cons_zero, List.set_cons_succ])
          refine wpAnyH_take (i := 3) (v := ?vp3) (by simp only [List.getElem?_toArray, List.getElem?_cons_succ, List.getElem?_cons_zero]; rfl) (by kernel_rfl) (by kernel_rfl) (by kernel_rfl) (fun _ _ _ h => h) (.inl ⟨by rfl, ?tp3⟩) ?sp3 ?_
          case tp3 => (intro w' h; have FK := HSS.out w' h; clear h; go_split_ands; go_simp; try rfl)
          case sp3 => exact HS1.out
          (try simp only [Act.put, List.setIfInBounds_toArray, List.set_cons_zero, List.set_cons_succ])
          refine wpAnyH_take (i := 4) (v := ?vp4) (by simp only [List.getElem?_toArray, List.getElem?_cons_succ, List.getElem?_cons_zero]; rfl) (by kernel_rfl) (by kernel_rfl) (by kernel_rfl) (fun _ _ _ h => h) (.inl ⟨by rfl, ?tp4⟩) ?sp4 ?_
          case tp4 => (intro w' h; clear h; go_simp; try rfl)
          case sp4 => exact HS1.out
          (try simp only [Act.put, List.setIfInBounds_toArray, List.set_cons_zero, List.set_cons_succ])
          refine wpAnyH_take (i := 5) (v := ?vp5) (by simp only [List.getElem?_toArray, List.getElem?_cons_succ, List.getElem?_cons_zero]; rfl) (by kernel_rfl) (by kernel_rfl) (by kernel_rfl) (fun _ _ _ h => h) (.inl ⟨by rfl, ?tp5⟩) ?sp5 ?_
          case tp5 => (intro w' h; clear h; go_simp; try rfl)
          case sp5 => exact HS1.out
          (try simp only [Act.put, List.setIfInBounds_toArray, List.set_cons_zero, List.set_cons_succ])
          refine wpAnyH_take (i := 6) (v := ?vp6) (by simp only [List.getElem?_toArray, List.getElem?_cons_succ, List.getElem?_cons_zero]; rfl) (by kernel_rfl) (by kernel_rfl) (by kernel_rfl) (fun _ _ _ h => h) (.inl ⟨by rfl, ?tp6⟩) ?sp6 ?_
          case tp6 => (intro w' h; have FK := HSS.out w' h; clear h; go_split_ands; go_simp; try rfl)
          case sp6 => exact HS1.out
          (try simp only [Act.put, List.setIfInBounds_toArray, List.set_cons_zero, List.set_cons_succ])
          refine wpAnyH_take (i := 7) (v := ?vp7) (by simp only [List.getElem?_toArray, List.getElem?_cons_succ, List.getElem?_cons_zero]; rfl) (by kernel_rfl) (by kernel_rfl) (by kernel_rfl) (fun _ _ _ h => h) (.inl ⟨by rfl, ?tp7⟩) ?sp7 ?_
          case tp7 => (intro w' h; clear h; go_simp; try rfl)
          case sp7 => exact HS1.out
          (try simp only [Act.put, List.setIfInBounds_toArray, List.set_cons_zero, List.set_cons_succ])
          refine wpAnyH_take (i := 8) (v := ?vp8) (by simp only [List.getElem?_toArray, List.getElem?_cons_succ, List.getElem?_cons_zero]; rfl) (by kernel_rfl) (by kernel_rfl) (by kernel_rfl) (fun _ _ _ h => h) (.inl ⟨by rfl, ?tp8⟩) ?sp8 ?_
          case tp8 => (intro w' h; clear h; go_simp; try rfl)
          case sp8 => exact HS1.out
          (try simp only [Act.put, List.setIfInBounds_toArray, List.set_cons_zero, List.set_cons_succ])
          refine wpAnyH_take (i := 9) (v := ?vp9) (by simp only [List.getElem?_toArray, List.getElem?_cons_succ, List.getElem?_cons_zero]; rfl) (by kernel_rfl) (by kernel_rfl) (by kernel_rfl) (fun _ _ _ h => h) (.inl ⟨by rfl, ?tp9⟩) ?sp9 ?_
          case tp9 => (intro w' h; have FK := HSS.out w' h; clear h; go_split_ands; go_simp; try rfl)
          case sp9 => exact HS1.out
          (try simp only [Act.put, List.setIfInBounds_toArray, List.set_cons_zero, List.set_cons_succ])
          refine wpAnyH_take (i := 11) (v := ?vpb11) (by simp only [List.getElem?_toArray, List.getElem?_cons_succ, List.getElem?_cons_zero]; rfl) (by kernel_rfl) (by kernel_rfl) (by kernel_rfl) (fun _ _ _ h => h) (.inl ⟨by rfl, ?tpb11⟩) ?spb11 ?_
          case tpb11 => (intro w' h; clear h; go_simp; try rfl)
          case spb11 => exact HS1.out
          (try simp only [Act.put, List.setIfInBounds_toArray, List.set_cons_zero, List.set_cons_succ])
          refine wpAnyH_take (i := 12) (v := ?vpb12) (by simp only [List.getElem?_toArray, List.getElem?_cons_succ, List.getElem?_cons_zero]; rfl) (by kernel_rfl) (by kernel_rfl) (by kernel_rfl) (fun _ _ _ h => h) (.inl ⟨by rfl, ?tpb12⟩) ?spb12 ?_
          case tpb12 => (intro w' h; clear h; go_simp; try rfl)
          case spb12 => exact HS1.out
          (try simp only [Act.put, List.setIfInBounds_toArray, List.set_cons_zero, List.set_cons_succ])
          refine wpAnyH_take (i := 13) (v := ?vpb13) (by simp only [List.getElem?_toArray, List.getElem?_cons_succ, List.getElem?_cons_zero]; rfl) (by kernel_rfl) (by kernel_rfl) (by kernel_rfl) (fun _ _ _ h => h) (.inl ⟨by rfl, ?tpb13⟩) ?spb13 ?_
          case tpb13 => (intro w' h; clear h; go_simp; try rfl)
          case spb13 => exact HS1.out
          (try simp only [Act.put, List.setIfInBounds_toArray, List.set_cons_zero, List.set_cons_succ])
          refine wpAnyH_take (i := 14) (v := ?vpb14) (by simp only [List.getElem?_toArray, List.getElem?_cons_succ, List.getElem?_cons_zero]; rfl) (by kernel_rfl) (by kernel_rfl) (by kernel_rfl) (fun _ _ _ h => h) (.inl ⟨by rfl, ?tpb14⟩) ?spb14 ?_
          case tpb14 => (intro w' h; have FK := HSS.out w' h; clear h; go_split_ands; go_simp; try rfl)
          case spb14 => exact HS1.out
          (try simp only [Act.put, List.setIfInBounds_toArray, List.set_cons_zero, List.set_cons_succ])
          refine wpAnyH_take (i := 15) (v := ?vpb15) (by simp only [List.getElem?_toArray, List.getElem?_cons_succ, List.getElem?_cons_zero]; rfl) (by kernel_rfl) (by kernel_rfl) (by kernel_rfl) (fun _ _ _ h => h) (.inl ⟨by rfl, ?tpb15⟩) ?spb15 ?_
          case tpb15 => (intro w' h; clear h; go_simp; try rfl)
          case spb15 => exact HS1.out
          (try simp only [Act.put, List.setIfInBounds_toArray, List.set_cons_zero, List.set_cons_succ])
          refine wpAnyH_take (i := 16) (v := ?vpb16) (by simp only [List.getElem?_toArray, List.getElem?_cons_succ, List.getElem?_cons_zero]; rfl) (by kernel_rfl) (by kernel_rfl) (by kernel_rfl) (fun _ _ _ h => h) (.inl ⟨by rfl, ?tpb16⟩) ?spb16 ?_
          case tpb16 => (intro w' h; clear h; go_simp; try rfl)
          case spb16 => exact HS1.out
          (try simp only [Act.put, List.setIfInBounds_toArray, List.set_cons_zero, List.set_cons_succ])
          refine wpAnyH_take (i := 17) (v := ?vpb17) (by simp only [List.getElem?_toArray, List.getElem?_cons_succ, List.getElem?_cons_zero]; rfl) (by kernel_rfl) (by kernel_rfl) (by kernel_rfl) (fun _ _ _ h => h) (.inl ⟨by rfl, ?tpb17⟩) ?spb17 ?_
          case tpb17 => (intro w' h; have FK := HSS.out w' h; clear h; go_split_ands; go_simp; try rfl)
          case spb17 => exact HS1.out
          (try simp only [Act.put, List.setIfInBounds_toArray, List.set_cons_zero, List.set_cons_succ])
          refine wpAnyH_take (i := 18) (v := ?vpb18) (by simp only [List.getElem?_toArray, List.getElem?_cons_succ, List.getElem?_cons_zero]; rfl) (by kernel_rfl) (by kernel_rfl) (by kernel_rfl) (fun _ _ _ h => h) (.inl ⟨by rfl, ?tpb18⟩) ?spb18 ?_
          case tpb18 => (intro w' h; clear h; go_simp; try rfl)
          case spb18 => exact HS1.out
          (try simp only [Act.put, List.setIfInBounds_toArray, List.set_cons_zero, List.set_cons_succ])
          refine wpAnyH_take (i := 19) (v := ?vpb19) (by simp only [List.getElem?_toArray, List.getElem?_cons_succ, List.getElem?_cons_zero]; rfl) (by kernel_rfl) (by kernel_rfl) (by kernel_rfl) (fun _ _ _ h => h) (.inl ⟨by rfl, ?tpb19⟩) ?spb19 ?_
          case tpb19 => (intro w' h; clear h; go_simp; try rfl)
          case spb19 => exact HS1.out
          (try simp only [Act.put, List.setIfInBounds_toArray, List.set_cons_zero, List.set_cons_succ])
          refine wpAnyH_take (i := 20) (v := ?vpb20) (by simp only [List.getElem?_toArray, List.getElem?_cons_succ, List.getElem?_cons_zero]; rfl) (by kernel_rfl) (by kernel_rfl) (by kernel_rfl) (fun _ _ _ h => h) (.inl ⟨by rfl, ?tpb20⟩) ?spb20 ?_
          case tpb20 => (intro w' h; have FK := HSS.out w' h; clear h; go_split_ands; go_simp; try rfl)
          case spb20 => exact HS1.out
          (try simp only [Act.put, List.setIfInBounds_toArray, List.set_cons_zero, List.set_cons_succ])
          refine wpAnyH_one (i := 10) (by kernel_rfl) ?_
          refine wpOp_call (by simp only [List.getElem?_toArray, List.getElem?_cons_succ, List.getElem?_cons_zero]; rfl) (by rfl) (by go_simp; first | exact ⟨rfl, rfl⟩ | rfl) ?_
          refine (has_reg_any base w1.drew s.g s.gv s.bl r.x r.y HPD.out.rg HPD.out.ok).mono ?_
          rintro e w2 ⟨rfl, hl⟩
          have HL2 := Lib.hid hl
          have HP2 := Lib.hid (HPD.out.later hl)
          have HS2 := Lib.hid (show w2.heap[pb]? = w1.heap[pb]? ∧ w2.heap[w.heap.size]? = w1.heap[w.heap.size]? from ⟨hl.block pb (lt_of_block HPD.out.pr), hl.block w.heap.size (lt_of_block (show w1.drew.heap[w.heap.size]? = _ from HXS.out))⟩)
          clear hl
          refine ⟨_, rfl, HS2.out, ?_⟩
          (try simp only [Act.put, List.setIfInBounds_toArray, List.set_cons_zero, List.set_cons_succ])
          refine wpAnyH_one (i := 21) (by kernel_rfl) ?_
          refine wpOp_call (by simp only [List.getElem?_toArray, List.getElem?_cons_succ, List.getElem?_cons_zero]; rfl) (by rfl) (by go_simp; first | exact ⟨rfl, rfl⟩ | rfl) ?_
          refine (ref_has_any base w2 s.h s.hv (bdsOf s.bl) r.x r.y HP2.out.rf HP2.out.ok).mono ?_
          rintro e w3 ⟨rfl, hr⟩
          have HL3 := Lib.hid (below_via hr HL2.out)
          have HS3 := Lib.hid (show w3.heap[pb]? = w1.heap[pb]? ∧ w3.heap[w.heap.size]? = w1.heap[w.heap.size]? from by
            have k1 := HS2.out.1.trans HP1.out.pr
            have k2 := HS2.out.2.trans HXS.out
            exact ⟨(hr.block pb (lt_of_block k1)).trans HS2.out.1, (hr.block w.heap.size (lt_of_block k2)).trans HS2.out.2⟩)
          clear hr
          refine ⟨_, rfl, HS3.out, ?_⟩
          (try simp only [Act.put, List.setIfInBounds_toArray, List.set_cons_zero, List.set_cons_succ])
          refine wpAnyH_take (i := 22) (v := ?vpc22) (by simp only [List.getElem?_toArray, List.getElem?_cons_succ, List.getElem?_cons_zero]; rfl) (by kernel_rfl) (by kernel_rfl) (by kernel_rfl) (fun _ _ _ h => h) (.inl ⟨by rfl, ?tpc22⟩) ?spc22 ?_
          case tpc22 => (intro w' h; clear h; go_simp; try rfl)
          case spc22 => exact HS3.out
          (try simp only [Act.put, List.setIfInBounds_toArray, List.set_cons_zero, List.set_cons_succ])
          refine wpAnyH_take (i := 23) (v := ?vpc23) (by simp only [List.getElem?_toArray, List.getElem?_cons_succ, List.getElem?_cons_zero]; rfl) (by kernel_rfl) (by kernel_rfl) (by kernel_rfl) (fun _ _ _ h => h) (.inl ⟨by rfl, ?tpc23⟩) ?spc23 ?_
          case tpc23 => (intro w' h; clear h; go_simp; try rfl)
          case spc23 => exact HS3.out
          (try simp only [Act.put, List.setIfInBounds_toArray, List.set_cons_zero, List.set_cons_succ])
          refine wpAnyH_done (by kernel_rfl) (NoPanic.normal ?_) _
          have HZ := Lib.hid (show StepQ base w pb s (.returned (.bool true)) w3 from (HPD.out.same HL3.out).from_ HP.out (Below.drew HB1.out))
          clear HS1 HS2 HS3 HL2 HL3 HP2
          go_wp2
          go_ret
          exact HZ.out
        · skip
          by_cases h5 : o = 5
          · subst h5
            go_enter Try.func43, Try.ntmps43
            go_upto_region 1 with (fail)
            rw [← hw1]
            clear hw1
            go_upto_region 11 with (fail)
            clear q0 z0
            refine wp_region_noPanic ?_
            refine wp_region_held (S := fun w' => w'.heap[pb]? = w1.heap[pb]? ∧ w'.heap[w.heap.size]? = w1.heap[w.heap.size]?) (by kernel_rfl) ?_
            change wpAnyH _ _ _ _ _ 12 (Array.replicate 12 false) _ _
            refine wpAnyH_take (i := 0) (v := ?vq0) (by simp only [List.getElem?_toArray, List.getElem?_cons_succ, List.getElem?_cons_zero]; rfl) (by kernel_rfl) (by kernel_rfl) (by kernel_rfl) (fun _ _ _ h => h) (.inl ⟨by rfl, ?tq0⟩) ?sq0 ?_
            case tq0 => (intro w' h; clear h; go_simp; try rfl)
            case sq0 => exact HS1.out
            (try simp only [Act.put, List.setIfInBounds_toArray, List.set_cons_zero, List.set_cons_succ])
            refine wpAnyH_take (i := 1) (v := ?vq1) (by simp only [List.getElem?_toArray, List.getElem?_cons_succ, List.getElem?_cons_zero]; rfl) (by kernel_rfl) (by kernel_rfl) (by kernel_rfl) (fun _ _ _ h => h) (.inl ⟨by rfl, ?tq1⟩) ?sq1 ?_
            case tq1 => (intro w' h; clear h; go_simp; try rfl)
            case sq1 => exact HS1.out
            (try simp only [Act.put, List.setIfInBounds_toArray, List.set_cons_zero, List.set_cons_succ])
            refine wpAnyH_take (i := 2) (v := ?vq2) (by simp only [List.getElem?_toArray, List.getElem?_cons_succ, List.getElem?_cons_zero]; rfl) (by kernel_rfl) (by kernel_rfl) (by kernel_rfl) (fun _ _ _ h => h) (.inl ⟨by rfl, ?tq2⟩) ?sq2 ?_
            case tq2 => (intro w' h; clear h; go_simp; try rfl)
            case sq2 => exact HS1.out
            (try simp only [Act.put, List.setIfInBounds_toArray, List.set_cons_zero, List.set_cons_succ])
            refine wpAnyH_take (i := 3) (v := ?vq3) (by simp only [List.getElem?_toArray, List.getElem?_cons_succ, List.getElem?_cons_zero]; rfl) (by kernel_rfl) (by kernel_rfl) (by kernel_rfl) (fun _ _ _ h => h) (.inl ⟨by rfl, ?tq3⟩) ?sq3 ?_
            case tq3 => (intro w' h; have FK := HSS.out w' h; clear h; go_split_ands; go_simp; try rfl)
            case sq3 => exact HS1.out
            (try simp only [Act.put, List.setIfInBounds_toArray, List.set_cons_zero, List.set_cons_succ])
            refine wpAnyH_take (i := 5) (v := ?vqb5) (by simp only [List.getElem?_toArray, List.getElem?_cons_succ, List.getElem?_cons_zero]; rfl) (by kernel_rfl) (by kernel_rfl) (by kernel_rfl) (fun _ _ _ h => h) (.inl ⟨by rfl, ?tqb5⟩) ?sqb5 ?_
            case tqb5 => (intro w' h; clear h; go_simp; try rfl)
            case sqb5 => exact HS1.out
            (try simp only [Act.put, List.setIfInBounds_toArray, List.set_cons_zero, List.set_cons_succ])
            refine wpAnyH_take (i := 6) (v := ?vqb6) (by simp only [List.getElem?_toArray, List.getElem?_cons_succ, List.getElem?_cons_zero]; rfl) (by kernel_rfl) (by kernel_rfl) (by kernel_rfl) (fun _ _ _ h => h) (.inl ⟨by rfl, ?tqb6⟩) ?sqb6 ?_
            case tqb6 => (intro w' h; clear h; go_simp; try rfl)
            case sqb6 => exact HS1.out
            (try simp only [Act.put, List.setIfInBounds_toArray, List.set_cons_zero, List.set_cons_succ])
            refine wpAnyH_take (i := 7) (v := ?vqb7) (by simp only [List.getElem?_toArray, List.getElem?_cons_succ, List.getElem?_cons_zero]; rfl) (by kernel_rfl) (by kernel_rfl) (by kernel_rfl) (fun _ _ _ h => h) (.inl ⟨by rfl, ?tqb7⟩) ?sqb7 ?_
            case tqb7 => (intro w' h; clear h; go_simp; try rfl)
            case sqb7 => exact HS1.out
            (try simp only [Act.put, List.setIfInBounds_toArray, List.set_cons_zero, List.set_cons_succ])
            refine wpAnyH_take (i := 8) (v := ?vqb8) (by simp only [List.getElem?_toArray, List.getElem?_cons_succ, List.getElem?_cons_zero]; rfl) (by kernel_rfl) (by kernel_rfl) (by kernel_rfl) (fun _ _ _ h => h) (.inl ⟨by rfl, ?tqb8⟩) ?sqb8 ?_
            case tqb8 => (intro w' h; have FK := HSS.out w' h; clear h; go_split_ands; go_simp; try rfl)
            case sqb8 => exact HS1.out
            (try simp only [Act.put, List.setIfInBounds_toArray, List.set_cons_zero, List.set_cons_succ])
            refine wpAnyH_one (i := 4) (by kernel_rfl) ?_
            refine wpOp_call (by simp only [List.getElem?_toArray, List.getElem?_cons_succ, List.getElem?_cons_zero]; rfl) (by rfl) (by go_simp; first | exact ⟨rfl, rfl⟩ | rfl) ?_
            refine (area_any base w1.drew s.g s.gv s.bl HPD.out.rg HPD.out.ok).mono ?_
            rintro e w2 ⟨rfl, hl⟩
            have HL2 := Lib.hid hl
            have HP2 := Lib.hid (HPD.out.later hl)
            have HS2 := Lib.hid (show w2.heap[pb]? = w1.heap[pb]? ∧ w2.heap[w.heap.size]? = w1.heap[w.heap.size]? from ⟨hl.block pb (lt_of_block HPD.out.pr), hl.block w.heap.size (lt_of_block (show w1.drew.heap[w.heap.size]? = _ from HXS.out))⟩)
            clear hl
            refine ⟨_, rfl, HS2.out, ?_⟩
            (try simp only [Act.put, List.setIfInBounds_toArray, List.set_cons_zero, List.set_cons_succ])
            refine wpAnyH_one (i := 9) (by kernel_rfl) ?_
            refine wpOp_call (by simp only [List.getElem?_toArray, List.getElem?_cons_succ, List.getElem?_cons_zero]; rfl) (by rfl) (by go_simp; first | exact ⟨rfl, rfl⟩ | rfl) ?_
            refine (ref_area_any base w2 s.h s.hv (bdsOf s.bl) HP2.out.rf HP2.out.ok).mono ?_
            rintro e w3 ⟨rfl, hr⟩
            have HL3 := Lib.hid (below_via hr HL2.out)
            have HS3 := Lib.hid (show w3.heap[pb]? = w1.heap[pb]? ∧ w3.heap[w.heap.size]? = w1.heap[w.heap.size]? from by
              have k1 := HS2.out.1.trans HP1.out.pr
              have k2 := HS2.out.2.trans HXS.out
              exact ⟨(hr.block pb (lt_of_block k1)).trans HS2.out.1, (hr.block w.heap.size (lt_of_block k2)).trans HS2.out.2⟩)
            clear hr
            refine ⟨_, rfl, HS3.out, ?_⟩
            (try simp only [Act.put, List.setIfInBounds_toArray, List.set_cons_zero, List.set_cons_succ])
            refine wpAnyH_take (i := 10) (v := ?vqc10) (by simp only [List.getElem?_toArray, List.getElem?_cons_succ, List.getElem?_cons_zero]; rfl) (by kernel_rfl) (by kernel_rfl) (by kernel_rfl) (fun _ _ _ h => h) (.inl ⟨by rfl, ?tqc10⟩) ?sqc10 ?_
            case tqc10 => (intro w' h; clear h; go_simp; try rfl)
            case sqc10 => exact HS3.out
            (try simp only [Act.put, List.setIfInBounds_toArray, List.set_cons_zero, List.set_cons_succ])
            refine wpAnyH_take (i := 11) (v := ?vqc11) (by simp only [List.getElem?_toArray, List.getElem?_cons_succ, List.getElem?_cons_zero]; rfl) (by kernel_rfl) (by kernel_rfl) (by kernel_rfl) (fun _ _ _ h => h) (.inl ⟨by rfl, ?tqc11⟩) ?sqc11 ?_
            case tqc11 => (intro w' h; clear h; go_simp; try rfl)
            case sqc11 => exact HS3.out
            (try simp only [Act.put, List.setIfInBounds_toArray, List.set_cons_zero, List.set_cons_succ])
            refine wpAnyH_done (by kernel_rfl) (NoPanic.normal ?_) _
            have HZ := Lib.hid (show StepQ base w pb s (.returned (.bool true)) w3 from (HPD.out.same HL3.out).from_ HP.out (Below.drew HB1.out))
            clear HS1 HS2 HS3 HL2 HL3 HP2
            go_wp2
            go_ret
            exact HZ.out
          · skip
            have HZ := Lib.hid (show StepQ base w pb s (.returned (.bool true)) w1 from HP.out.same HB1.out)
            go_enter Try.func43, Try.ntmps43
            go_upto_region 1 with (fail)
            rw [← hw1]
            clear hw1
            go_wp2
            go_ret
            exact HZ.out
end Go.Proofs.Ytekcheccelllcaa
namespace Go.Proofs.Ytekcheccelllcaa
open Go.RowKit
set_option linter.unusedVariables false
set_option linter.unusedSimpArgs false

theorem infoSL_ : (Try.prog.info? 26).map (fun i => (i.zero, i.size, i.bytes)) = some (some (.slice none 0 0), 1, 24) := by kernel_rfl
set_option maxHeartbeats 2000000 in
/-- a list more is told, in both lists -/
theorem PqAt.tell {base : Nat} {w3 w4 w6 : World} {pb : Nat} {s : PrS} {o1 o2 : Obj} {b5 b6 n : Nat} {v5 v6 tv' wv' : Value} {x : List R4} (h : PqAt base w3 pb s)
    (o5 : w3.ownsRow b5 23 4 v5 n (cellsR x)) (o6 : w3.ownsRow b6 23 4 v6 n (cellsR x)) (hb5 : base ≤ b5) (hb6 : base ≤ b6) (f5 : ∀ k, v5.ownBlock = some k → ¬ SQ pb s k) (f6 : ∀ k, v6.ownBlock = some k → ¬ SQ pb s k) (hn : n = x.length) (hx2 : x.length ≤ 1024)
    (t4 : w4.ownsRow base 26 1 tv' (s.told.length + 1) (s.told.map (·.t) ++ [v5])) (g4 : (w3.alloc o1).grownBy w4 s.tv.ownBlock) (p4 : tv'.ownBlock = s.tv.ownBlock ∨ ∃ b, tv'.ownBlock = some b ∧ w3.heap.size ≤ b)
    (t6 : w6.ownsRow base 26 1 wv' (s.told.length + 1) (s.told.map (·.k) ++ [v6])) (g6 : ((w4.setCell ⟨pb, 2, none⟩ tv').alloc o2).grownBy w6 s.wv.ownBlock) (p6 : wv'.ownBlock = s.wv.ownBlock ∨ ∃ b, wv'.ownBlock = some b ∧ w4.heap.size ≤ b) :
    PqAt base (w6.setCell ⟨pb, 3, none⟩ wv') pb { s with tv := tv', wv := wv', told := s.told ++ [⟨v5, v6, x⟩] } ∧ Chg w3 (w6.setCell ⟨pb, 3, none⟩ wv') (fun k => k = pb ∨ s.tv.ownBlock = some k ∨ s.wv.ownBlock = some k) ∧ (w6.setCell ⟨pb, 3, none⟩ wv').ownsRow b5 23 4 v5 n (cellsR x) ∧ (w6.setCell ⟨pb, 3, none⟩ wv').ownsRow b6 23 4 v6 n (cellsR x) := by
  have hs4 : w4.grownBy (w4.setCell ⟨pb, 2, none⟩ tv') (some pb) := only_setCell (only_refl w4 (some pb)) (p := ⟨pb, 2, none⟩) (.inl rfl) tv'
  have hs6 : w6.grownBy (w6.setCell ⟨pb, 3, none⟩ wv') (some pb) := only_setCell (only_refl w6 (some pb)) (p := ⟨pb, 3, none⟩) (.inl rfl) wv'
  have zpb := lt_of_block h.pr
  have hz4 : w3.heap.size ≤ w4.heap.size := by have := g4.size; simp at this; omega
  have T : Chg w3 (w6.setCell ⟨pb, 3, none⟩ wv') (fun k => k = pb ∨ s.tv.ownBlock = some k ∨ s.wv.ownBlock = some k) := by
    have c1 := Chg.of_below (below_al (Below.refl w3.heap.size w3) o1) (fun k => k = pb ∨ s.tv.ownBlock = some k ∨ s.wv.ownBlock = some k)
    have c2 := c1.trans (Chg.of_grown g4 (S := fun k => k = pb ∨ s.tv.ownBlock = some k ∨ s.wv.ownBlock = some k) (fun k hk => .inl (.inr (.inl hk)))) (fun k hk => .inl hk)
    have c3 := c2.trans (Chg.of_grown hs4 (S := fun k => k = pb ∨ s.tv.ownBlock = some k ∨ s.wv.ownBlock = some k) (fun k hk => .inl (.inl (by injection hk with hk; exact hk.symm)))) (fun k hk => .inl hk)
    have c4 := c3.trans (Chg.of_below (below_al (Below.refl (w4.setCell ⟨pb, 2, none⟩ tv').heap.size _) o2) (fun k => k = pb ∨ s.tv.ownBlock = some k ∨ s.wv.ownBlock = some k)) (fun k hk => .inl hk)
    have c5 := c4.trans (Chg.of_grown g6 (S := fun k => k = pb ∨ s.tv.ownBlock = some k ∨ s.wv.ownBlock = some k) (fun k hk => .inl (.inr (.inr hk)))) (fun k hk => .inl hk)
    exact c5.trans (Chg.of_grown hs6 (S := fun k => k = pb ∨ s.tv.ownBlock = some k ∨ s.wv.ownBlock = some k) (fun k hk => .inl (.inl (by injection hk with hk; exact hk.symm)))) (fun k hk => .inl hk)
  -- a block of another type is none of those three
  have free : ∀ {k : Nat} {cs : Array Value} {t : TypeId} {fr : Nat × Nat}, w3.heap[k]? = some (.cells cs t fr) → t ≠ 91 → t ≠ 26 → ¬ (k = pb ∨ s.tv.ownBlock = some k ∨ s.wv.ownBlock = some k) := by
    intro k cs t fr hk h1 h2
    rintro (rfl | e | e)
    · exact blk_ne hk h.pr h1 rfl
    · obtain ⟨cs', fr', hq⟩ := row_blk h.tor e; exact blk_ne hk hq h2 rfl
    · obtain ⟨cs', fr', hq⟩ := row_blk h.wor e; exact blk_ne hk hq h2 rfl
  have keepR : ∀ {b : Nat} {t : TypeId} {k m : Nat} {v : Value} {xs : List Value}, w3.ownsRow b t k v m xs → t ≠ 91 → t ≠ 26 → (w6.setCell ⟨pb, 3, none⟩ wv').ownsRow b t k v m xs := by
    intro b t k m v xs hr h1 h2
    refine row_keepB hr fun g hg => ?_
    obtain ⟨cs, fr, hq⟩ := row_blk hr hg
    exact T.block g (lt_of_block hq) (free hq h1 h2)
  have keepB : ∀ {k : Nat} {cs : Array Value} {t : TypeId} {fr : Nat × Nat}, w3.heap[k]? = some (.cells cs t fr) → t ≠ 91 → t ≠ 26 → (w6.setCell ⟨pb, 3, none⟩ wv').heap[k]? = some (.cells cs t fr) := fun hk h1 h2 => (T.block _ (lt_of_block hk) (free hk h1 h2)).trans hk
  -- the pair's own block
  have q4 : w4.heap[pb]? = some (.cells #[.pointer (some ⟨s.g, 0, none⟩), .pointer (some ⟨s.h, 0, none⟩), s.tv, s.wv] 91 (0, 0)) := by
    rw [g4.block pb (by simp; omega) (fun e => row_ne_blk h.tor h.pr (by decide) e.symm)]
    exact (heap_alloc_old _ _ zpb).trans h.pr
  have q5 : (w4.setCell ⟨pb, 2, none⟩ tv').heap[pb]? = some (.cells #[.pointer (some ⟨s.g, 0, none⟩), .pointer (some ⟨s.h, 0, none⟩), tv', s.wv] 91 (0, 0)) := set_blk q4 2 tv'
  have q6 : w6.heap[pb]? = some (.cells #[.pointer (some ⟨s.g, 0, none⟩), .pointer (some ⟨s.h, 0, none⟩), tv', s.wv] 91 (0, 0)) := by
    rw [g6.block pb (by have := lt_of_block q5; simp at this ⊢; omega) (fun e => row_ne_blk h.wor h.pr (by decide) e.symm)]
    exact (heap_alloc_old _ _ (lt_of_block q5)).trans q5
  have htw : tv'.ownBlock = none ∨ tv'.ownBlock ≠ s.wv.ownBlock := by
    rcases p4 with e | ⟨b, e, hb⟩
    · rw [e]; exact h.tw
    · refine .inr fun e2 => ?_
      have := (row_lt h.wor b (e2.symm.trans e)).1
      omega
  have t5 : (w4.setCell ⟨pb, 2, none⟩ tv').ownsRow base 26 1 tv' (s.told.length + 1) (s.told.map (·.t) ++ [v5]) := t4.kept hs4 (.inr (row_ne_blk t4 q4 (by decide)))
  have t5b := row_later t5 (below_al (Below.refl (w4.setCell ⟨pb, 2, none⟩ tv').heap.size _) o2)
  have t6b : w6.ownsRow base 26 1 tv' (s.told.length + 1) (s.told.map (·.t) ++ [v5]) := t5b.kept g6 htw
  have t7 : (w6.setCell ⟨pb, 3, none⟩ wv').ownsRow base 26 1 tv' (s.told.length + 1) (s.told.map (·.t) ++ [v5]) := t6b.kept hs6 (.inr (row_ne_blk t6b q6 (by decide)))
  have u7 : (w6.setCell ⟨pb, 3, none⟩ wv').ownsRow base 26 1 wv' (s.told.length + 1) (s.told.map (·.k) ++ [v6]) := t6.kept hs6 (.inr (row_ne_blk t6 q6 (by decide)))
  have tw7 : tv'.ownBlock = none ∨ tv'.ownBlock ≠ wv'.ownBlock := by
    rcases p6 with e | ⟨b, e, hb⟩
    · rw [e]; exact htw
    · refine .inr fun e2 => ?_
      have := (row_lt t4 b (e2.trans e)).1
      omega
  have n5 := keepR o5 (by decide) (by decide)
  have n6 := keepR o6 (by decide) (by decide)
  have krg : ∀ k, SG s.g s.gv s.bl k → (w6.setCell ⟨pb, 3, none⟩ wv').heap[k]? = w3.heap[k]? := fun k hk => by
    refine T.block k (h.rg.lt k hk).1 ?_
    rcases hk with rfl | hk | ⟨e, he, hk⟩
    · exact free h.rg.pr (by decide) (by decide)
    · obtain ⟨cs, fr, hq⟩ := row_blk h.rg.bn.row hk; exact free hq (by decide) (by decide)
    · obtain ⟨cs, fr, hq⟩ := row_blk (h.rg.bn.en e he) hk; exact free hq (by decide) (by decide)
  have krf : ∀ k, SR s.h s.hv k → (w6.setCell ⟨pb, 3, none⟩ wv').heap[k]? = w3.heap[k]? := fun k hk => by
    refine T.block k (h.rf.lt k hk).1 ?_
    rcases hk with rfl | hk
    · exact free h.rf.pr (by decide) (by decide)
    · obtain ⟨cs, fr, hq⟩ := row_blk h.rf.own hk; exact free hq (by decide) (by decide)
  refine ⟨{ pr := set_blk q6 3 wv', rg := h.rg.keep krg, ok := h.ok, rf := h.rf.keep krf, tor := by simpa using t7, wor := by simpa using u7, te := ?_, we := ?_, dt := ?_, tx := ?_, tw := tw7, dh := ?_, bp := h.bp }, T, n5, n6⟩
  · intro e he
    rcases List.mem_append.1 he with he | he
    · exact keepR (h.te e he) (by decide) (by decide)
    · rw [List.mem_singleton] at he; subst he; rw [← hn]; exact row_baseG n5 hb5
  · intro e he
    rcases List.mem_append.1 he with he | he
    · exact keepR (h.we e he) (by decide) (by decide)
    · rw [List.mem_singleton] at he; subst he; rw [← hn]; exact row_baseG n6 hb6
  · refine List.pairwise_append.2 ⟨h.dt, List.pairwise_singleton _ _, fun a ha b hb => ?_⟩
    rw [List.mem_singleton] at hb
    subst hb
    refine (Classical.em (a.t.ownBlock = none)).imp id fun hne e => ?_
    cases hq : a.t.ownBlock with
    | none => exact hne hq
    | some k => exact f5 k (e.symm.trans hq) (.inr (.inr (.inr (.inr (.inr ⟨a, ha, .inl hq⟩)))))
  · intro e he
    rcases List.mem_append.1 he with he | he
    · exact h.tx e he
    · rw [List.mem_singleton] at he; subst he; exact hx2
  · intro e he
    rcases List.mem_append.1 he with he | he
    · exact h.dh e he
    · rw [List.mem_singleton] at he; subst he
      cases hq : v5.ownBlock with
      | none => exact .inl rfl
      | some k => exact .inr fun e => f5 k hq (.inr (.inr (.inl (.inr e.symm))))
set_option maxRecDepth 100000 in
set_option maxHeartbeats 16000000 in
theorem qstep_rects (base : Nat) (w : World) (pb : Nat) (s : PrS) (hp : PqAt base w pb s) (ht : s.told.length ≤ 3518437208882) (hbw : base ≤ w.heap.size) (r : R4) : Calls Try.prog 43 #[.pointer (some ⟨pb, 0, none⟩), .agg #[.int .i64 6, .int .i64 r.x, .int .i64 r.y, .int .i64 r.w, .int .i64 r.h]] w fun e w' => StepQ base w pb s e w' := by
  obtain ⟨i0, hi, hz0, hz1, hz2⟩ := info_parts infoSL_
  have HI := Lib.hid (And.intro hi (And.intro hz0 (And.intro hz1 hz2)))
  clear hi hz0 hz1 hz2
  obtain ⟨w1, hw1⟩ : ∃ z, z = w.alloc (.cells #[.int .i64 6, .int .i64 r.x, .int .i64 r.y, .int .i64 r.w, .int .i64 r.h] 66) := ⟨_, rfl⟩
  have B1 : Below w.heap.size w w1 := by rw [hw1]; exact below_al (Below.refl _ _) _
  have xs1 : w1.heap[w.heap.size]? = some (.cells #[.int .i64 6, .int .i64 r.x, .int .i64 r.y, .int .i64 r.w, .int .i64 r.h] 66 (0, 0)) := by rw [hw1]; exact heap_alloc_new _ _
  have HP := Lib.hid hp
  have HP1 := Lib.hid (hp.later B1)
  have HB1 := Lib.hid B1
  obtain ⟨pt, ct, htv⟩ := row_slice hp.tor
  obtain ⟨pw, cw, hwv⟩ := row_slice hp.wor
  have HSS := Lib.hid (show ∀ w' : World, Below w1.heap.size w1 w' → (pb < w'.heap.size ∧ w'.cell? ⟨pb, 0, none⟩ = some (.pointer (some ⟨s.g, 0, none⟩)) ∧ w'.cell? ⟨pb, 1, none⟩ = some (.pointer (some ⟨s.h, 0, none⟩)) ∧ w'.cell? ⟨pb, 2, none⟩ = some (.slice pt s.told.length ct) ∧ w'.cell? ⟨pb, 3, none⟩ = some (.slice pw s.told.length cw) ∧ w'.frozen? ⟨pb, 2, none⟩ = false) from fun w' h => by
    have h1 := (h.block _ (lt_of_block HP1.out.pr)).trans HP1.out.pr
    rw [htv, hwv] at h1
    refine ⟨lt_of_block h1, ?_, ?_, ?_, ?_, frozen_of_row _ _ _ _ _ h1⟩ <;> (rw [cell_of_row _ _ _ _ _ _ h1]; rfl))
  have z0 : w.heap.size < w1.heap.size := lt_of_block xs1
  have q0 : w1.cell? ⟨w.heap.size, 0, none⟩ = some (.int .i64 6) := by rw [cell_of_row _ _ _ _ _ _ xs1]; rfl
  have hsz : w.heap.size ≤ w1.heap.size := HB1.out.size
  clear hp xs1 B1
  obtain ⟨X, hX⟩ : ∃ X, X = rctsB (bdsOf s.bl) := ⟨_, rfl⟩
  have HXL := Lib.hid (show X.length ≤ 1024 from by rw [hX, rctsB_len]; exact HP1.out.ok.few)
  obtain ⟨nx, hnx⟩ : ∃ q, q = X.length := ⟨_, rfl⟩
  have HNX := Lib.hid hnx
  have HXX := Lib.hid hX
  clear hX hnx
  go_enter Try.func43, Try.ntmps43
  go_upto_region 1 with (fail)
  rw [← hw1]
  clear hw1
  go_upto_region 13 with (fail)
  clear q0 z0
  obtain ⟨zp, c0, c1, c2, c3, f2⟩ := HSS.out w1 (Below.refl _ _)
  go_wp2_with fail
  refine (rects_any base w1 s.g s.gv s.bl HP1.out.rg HP1.out.ok).mono ?_
  rintro e w2 ⟨v5, rfl, own5, hb2⟩
  rw [← HXX.out, ← HNX.out] at own5
  have HO5 := Lib.hid own5
  have HB2 := Lib.hid hb2
  obtain ⟨p5, k5, rfl⟩ := row_slice own5
  have hs2 := hb2.size
  clear own5 hb2 zp c0 c1 c2 c3 f2
  obtain ⟨zp, c0, c1, c2, c3, f2⟩ := HSS.out w2 HB2.out
  go_wp2_with fail
  refine (ref_rects_any base w2 s.h s.hv (bdsOf s.bl) (HP1.out.later HB2.out).rf HP1.out.ok).mono ?_
  rintro e w3 ⟨v6, rfl, own6, hb3⟩
  rw [← HXX.out, ← HNX.out] at own6
  have HO6 := Lib.hid own6
  have HN5 := Lib.hid (row_later HO5.out hb3)
  have HB3 := Lib.hid (below_via hb3 HB2.out)
  obtain ⟨p6, k6, rfl⟩ := row_slice own6
  have hs3 := hb3.size
  clear own6 hb3 zp c0 c1 c2 c3 f2
  have HP3 := Lib.hid (HP1.out.later HB3.out)
  obtain ⟨zp, c0, c1, c2, c3, f2⟩ := HSS.out w3 HB3.out
  go_wp2_with (at_builtin; go_must (refine append_keep rfl (.tmp 114) (.tmp 116) 33 rfl base 26 i0 _ 1 24 Try.underlying33 HI.out.1 HI.out.2.1 HI.out.2.2.1 HI.out.2.2.2 rfl (by decide) _ s.told.length _ rfl (by have := HP3.out.tor; rw [htv] at this; exact this.alloc _) ⟨w3.heap.size, 0, none⟩ 1 1 [.slice p5 nx k5] rfl rfl ?b1 ?b2 ?b3 ?b4 ?b5 ?_))
  (try case b1 => exact World.news_of_block (cs := #[.slice p5 nx k5]) (t := 26) (fr := (0, 0)) (heap_alloc_new _ _))
  (try case b2 => first | rfl | (intro u hu; rw [List.mem_singleton] at hu; subst hu; rfl))
  case b3 => unfold maxLen; omega
  case b4 => omega
  case b5 => first | omega | (simp; omega)
  intro v4 w4 own4 gr4 pl4
  obtain ⟨g4, cc4, rfl⟩ : ∃ g c, v4 = .slice (some ⟨g, 0, none⟩) (s.told.length + 1) c := by
    rcases row_form own4 with ⟨_, h, _⟩ | ⟨g, c, h, _⟩
    · omega
    · exact ⟨g, c, h⟩
  have x3 : w3.heap[pb]? = some (.cells #[.pointer (some ⟨s.g, 0, none⟩), .pointer (some ⟨s.h, 0, none⟩), .slice pt s.told.length ct, .slice pw s.told.length cw] 91 (0, 0)) := by have := HP3.out.pr; rwa [htv, hwv] at this
  have x4 : w4.heap[pb]? = some (.cells #[.pointer (some ⟨s.g, 0, none⟩), .pointer (some ⟨s.h, 0, none⟩), .slice pt s.told.length ct, .slice pw s.told.length cw] 91 (0, 0)) := by
    rw [gr4.block pb (by simp; omega) (fun e => by have := row_ne_blk HP3.out.tor HP3.out.pr (by decide); rw [htv] at this; exact this e.symm)]
    exact (heap_alloc_old _ _ zp).trans x3
  have y4 := lt_of_block x4
  have d2 : w4.cell? ⟨pb, 2, none⟩ = some (.slice pt s.told.length ct) := by rw [cell_of_row _ _ _ _ _ _ x4]; rfl
  have fz4 : w4.frozen? ⟨pb, 2, none⟩ = false := frozen_of_row _ _ _ _ _ x4
  have HX4 := Lib.hid x4
  have HW4 := Lib.hid (show (w4.setCell ⟨pb, 2, none⟩ (.slice (some ⟨g4, 0, none⟩) (s.told.length + 1) cc4)).ownsRow base 26 1 (.slice pw s.told.length cw) s.told.length (s.told.map (·.k)) from by
    have h0 := HP3.out.wor
    rw [hwv] at h0
    have h1 := row_later h0 (below_al (Below.refl w3.heap.size w3) (.cells #[.slice p5 nx k5] 26))
    have h2 := h1.kept gr4 (by
      have h3 := HP3.out.tw
      rw [htv, hwv] at h3
      cases hq : (Value.slice pw s.told.length cw).ownBlock with
      | none => exact .inl rfl
      | some k => exact .inr fun e => h3.elim (fun h4 => by rw [h4] at e; cases e) (fun h4 => h4 (e.symm.trans hq.symm)))
    exact h2.kept (only_setCell (only_refl w4 (some pb)) (p := ⟨pb, 2, none⟩) (.inl rfl) _) (.inr (row_ne_blk h2 x4 (by decide))))
  have HO4 := Lib.hid own4
  have HG4 := Lib.hid gr4
  have HL4 := Lib.hid pl4
  clear own4 gr4 pl4 x3 x4 zp c0 c1 c2 c3 f2
  go_upto_region 16 with (fail)
  obtain ⟨w5, hw5⟩ : ∃ z, z = w4.setCell ⟨pb, 2, none⟩ (.slice (some ⟨g4, 0, none⟩) (s.told.length + 1) cc4) := ⟨_, rfl⟩
  rw [← hw5]
  rw [← hw5] at HW4
  have x5 : w5.heap[pb]? = some (.cells #[.pointer (some ⟨s.g, 0, none⟩), .pointer (some ⟨s.h, 0, none⟩), .slice (some ⟨g4, 0, none⟩) (s.told.length + 1) cc4, .slice pw s.told.length cw] 91 (0, 0)) := by rw [hw5]; exact set_blk HX4.out 2 _
  have y5 := lt_of_block x5
  have e3 : w5.cell? ⟨pb, 3, none⟩ = some (.slice pw s.told.length cw) := by rw [cell_of_row _ _ _ _ _ _ x5]; rfl
  have HX5 := Lib.hid x5
  have HW5 := Lib.hid hw5
  have hz5 : base ≤ w5.heap.size := by have := HG4.out.size; rw [hw5]; simp at this ⊢; omega
  clear x5 hw5 d2 fz4 y4
  go_wp2_with (at_builtin; go_must (refine append_keep rfl (.tmp 124) (.tmp 126) 33 rfl base 26 i0 _ 1 24 Try.underlying33 HI.out.1 HI.out.2.1 HI.out.2.2.1 HI.out.2.2.2 rfl (by decide) _ s.told.length _ rfl (HW4.out.alloc _) ⟨w5.heap.size, 0, none⟩ 1 1 [.slice p6 nx k6] rfl rfl ?d1 ?d2 ?d3 ?d4 ?d5 ?_))
  (try case d1 => exact World.news_of_block (cs := #[.slice p6 nx k6]) (t := 26) (fr := (0, 0)) (heap_alloc_new _ _))
  (try case d2 => first | rfl | (intro u hu; rw [List.mem_singleton] at hu; subst hu; rfl))
  case d3 => unfold maxLen; omega
  case d4 => omega
  case d5 => first | omega | (simp; omega)
  intro v7 w6 own6 gr6 pl6
  obtain ⟨g6, cc6, rfl⟩ : ∃ g c, v7 = .slice (some ⟨g, 0, none⟩) (s.told.length + 1) c := by
    rcases row_form own6 with ⟨_, h, _⟩ | ⟨g, c, h, _⟩
    · omega
    · exact ⟨g, c, h⟩
  have x6 : w6.heap[pb]? = some (.cells #[.pointer (some ⟨s.g, 0, none⟩), .pointer (some ⟨s.h, 0, none⟩), .slice (some ⟨g4, 0, none⟩) (s.told.length + 1) cc4, .slice pw s.told.length cw] 91 (0, 0)) := by
    rw [gr6.block pb (by simp; omega) (fun e => by have := row_ne_blk HP3.out.wor HP3.out.pr (by decide); rw [hwv] at this; exact this e.symm)]
    exact (heap_alloc_old _ _ y5).trans HX5.out
  have y6 := lt_of_block x6
  have e6 : w6.cell? ⟨pb, 3, none⟩ = some (.slice pw s.told.length cw) := by rw [cell_of_row _ _ _ _ _ _ x6]; rfl
  have fz6 : w6.frozen? ⟨pb, 3, none⟩ = false := frozen_of_row _ _ _ _ _ x6
  have TELL := Lib.hid (PqAt.tell (n := nx) (x := X) HP3.out HN5.out HO6.out (by omega) (by omega)
    (fun k hk hsp => by have h1 := (row_lt HN5.out k hk).2; have h2 := (HP1.out.lt k hsp).1; omega)
    (fun k hk hsp => by have h1 := (row_lt HO6.out k hk).2; have h2 := (HP1.out.lt k hsp).1; omega)
    HNX.out HXL.out HO4.out (by rw [htv]; exact HG4.out) (by rw [htv]; exact HL4.out.imp id fun h => ⟨_, h.1, by simp⟩)
    own6 (by rw [hwv, ← HW5.out]; exact gr6) (by rw [hwv]; exact pl6.imp id fun h => ⟨_, h.1, by have := congrArg (fun z => z.heap.size) HW5.out; simp at this ⊢; omega⟩))
  have HQ4 := Lib.hid (show (Value.slice (some ⟨g4, 0, none⟩) (s.told.length + 1) cc4).ownBlock = s.tv.ownBlock ∨ ∃ b, (Value.slice (some ⟨g4, 0, none⟩) (s.told.length + 1) cc4).ownBlock = some b ∧ w.heap.size ≤ b from by rw [htv]; exact HL4.out.imp id fun h => ⟨_, h.1, by first | omega | (simp; omega)⟩)
  have HQ6 := Lib.hid (show (Value.slice (some ⟨g6, 0, none⟩) (s.told.length + 1) cc6).ownBlock = s.wv.ownBlock ∨ ∃ b, (Value.slice (some ⟨g6, 0, none⟩) (s.told.length + 1) cc6).ownBlock = some b ∧ w.heap.size ≤ b from by
    rw [hwv]
    exact pl6.imp id fun h => ⟨_, h.1, by have := congrArg (fun z => z.heap.size) HW5.out; have := HG4.out.size; simp at *; omega⟩)
  clear own6 gr6 pl6 x6 e3 y5 HO4 HG4 HL4 HW4
  go_upto_region 17 with (fail)
  obtain ⟨w7, hw7⟩ : ∃ z, z = w6.setCell ⟨pb, 3, none⟩ (.slice (some ⟨g6, 0, none⟩) (s.told.length + 1) cc6) := ⟨_, rfl⟩
  rw [← hw7]
  rw [← hw7] at TELL
  clear hw7 e6 fz6 y6
  go_wp2_with fail
  obtain ⟨pa, ca, ea, _, sla, _, _⟩ := own_sl TELL.out.2.2.1 HNX.out
  obtain ⟨pq, cq, eq, _, slq, _, _⟩ := own_sl TELL.out.2.2.2 HNX.out
  injection ea with ea1 ea2 ea3
  injection eq with eq1 eq2 eq3
  subst ea1 ea3 eq1 eq3
  have HSA := Lib.hid sla
  have HSQ := Lib.hid slq
  clear sla slq
  have hxl := HXL.out
  rw [← HNX.out] at hxl
  refine (ref_Same_any p5 p6 nx nx k5 k6 X X w7 HNX.out.symm HNX.out.symm (by omega) HSA.out HSQ.out).mono ?_
  rintro e w8 ⟨bb, rfl, hbb, hb8⟩
  obtain rfl : bb = true := hbb.2 rfl
  have HZ := Lib.hid (show StepQ base w pb s (.returned (.bool true)) w8 from by
    obtain ⟨t1, t2, _, _⟩ := TELL.out
    have c0 := Chg.of_below (below_via HB3.out HB1.out) (SQ pb s)
    have c1 : Chg w w7 (SQ pb s) := c0.trans t2 (fun k hk => .inl (by
      rcases hk with e | e | e
      · exact .inl e
      · exact .inr (.inr (.inr (.inl e)))
      · exact .inr (.inr (.inr (.inr (.inl e))))))
    have c2 := c1.trans (Chg.of_below hb8 (SQ pb s)) (fun k hk => .inl hk)
    refine ⟨rfl, _, t1.later hb8, c2, fun k hk => ?_, by simp⟩
    rcases Nat.lt_or_ge k w.heap.size with hlt | hge
    · refine .inl ?_
      rcases hk with e | e | e | e | e | ⟨u, hu, e⟩
      · exact .inl e
      · exact .inr (.inl e)
      · exact .inr (.inr (.inl e))
      · rcases HQ4.out with h | ⟨b, h, hb⟩
        · exact .inr (.inr (.inr (.inl (h.symm.trans e))))
        · have := h.symm.trans e; injection this with this; omega
      · rcases HQ6.out with h | ⟨b, h, hb⟩
        · exact .inr (.inr (.inr (.inr (.inl (h.symm.trans e)))))
        · have := h.symm.trans e; injection this with this; omega
      · rcases List.mem_append.1 hu with hu | hu
        · exact .inr (.inr (.inr (.inr (.inr ⟨u, hu, e⟩))))
        · rw [List.mem_singleton] at hu
          subst hu
          rcases e with e | e
          · have := (row_lt HN5.out k e).2; omega
          · have := (row_lt HO6.out k e).2; omega
    · exact .inr hge)
  clear hb8
  go_wp2
  go_ret
  exact HZ.out
/-- a step, whatever it is -/
theorem qpair_step (base : Nat) (w : World) (pb : Nat) (s : PrS) (hp : PqAt base w pb s) (ht : s.told.length ≤ 3518437208882) (hbw : base ≤ w.heap.size) (o : Int) (r : R4) (hr : isR r) : Calls Try.prog 43 #[.pointer (some ⟨pb, 0, none⟩), .agg #[.int .i64 o, .int .i64 r.x, .int .i64 r.y, .int .i64 r.w, .int .i64 r.h]] w fun e w' => StepQ base w pb s e w' := by
  by_cases h6 : o = 6
  · subst h6
    exact qstep_rects base w pb s hp ht hbw r
  · exact qstep_any base w pb s hp o r hr h6
end Go.Proofs.Ytekcheccelllcaa
namespace Go.Proofs.Ytekcheccelllcaa
open Go.RowKit
set_option linter.unusedVariables false
set_option linter.unusedSimpArgs false
namespace Ch

/-- the lists' blocks -/
def VS (V : List Value) : Nat → Prop := fun k => ∃ t, t < V.length ∧ (V.getD t undef).ownBlock = some k
/-- all but list i, which is being gone on with -/
structure Co (w wr : World) (base b off : Nat) (V : List Value) (ln : Nat → Nat) (i : Nat) (Gs : List Value) (mv : Value) : Prop where
  a : ∀ t, t < V.length → wr.cell? ⟨b, off + t, none⟩ = some (V.getD t undef)
  rd : ∀ t, t < V.length → t ≠ i → RdV wr (V.getD t undef) (mkr t (ln t))
  own : ∀ t, i < t → t < V.length → wr.ownsRow base 23 4 (V.getD t undef) (ln t) (cellsR (mkr t (ln t)))
  gl : Gs.length = i
  gs : ∀ t, t < i → wr.ownsRow base 23 4 (Gs.getD t undef) (ln t + 70) (cellsR (mkr t (ln t) ++ tl t 70))
  gb : ∀ t, t < i → far w (V.getD t undef) (Gs.getD t undef)
  mo : wr.ownsRow w.heap.size 26 1 mv i Gs
  be : Below base w wr
  ch : Chg w wr (VS V)
theorem Co.kept {w wr w2 : World} {base b off i : Nat} {V Gs : List Value} {ln : Nat → Nat} {mv : Value} {row : Option Nat} (h : Co w wr base b off V ln i Gs mv) (st : Sta w base b V) (gr : wr.grownBy w2 row) (hb : row ≠ some b)
    (hv : ∀ t, t < V.length → t ≠ i → (V.getD t undef).ownBlock = none ∨ (V.getD t undef).ownBlock ≠ row) (hg : ∀ t, t < i → (Gs.getD t undef).ownBlock = none ∨ (Gs.getD t undef).ownBlock ≠ row) (hm : mv.ownBlock = none ∨ mv.ownBlock ≠ row) (hr : ∀ k, row = some k → base ≤ k) (hs : ∀ k, row = some k → VS V k ∨ w.heap.size ≤ k) : Co w w2 base b off V ln i Gs mv :=
  ⟨fun t ht => gr.cell (h.a t ht) (fun e => hb e.symm), fun t ht hi => (h.rd t ht hi).kept gr (hv t ht hi), fun t h1 h2 => (h.own t h1 h2).kept gr (hv t h2 (by omega)), h.gl, fun t ht => (h.gs t ht).kept gr (hg t ht), h.gb, h.mo.kept gr hm,
    Below.grown h.be gr (Nat.le_trans st.bs h.be.size) hr, h.ch.trans (Chg.of_grown gr (S := fun k => row = some k) (fun k hk => .inl hk)) hs⟩
/-- between two lists -/
structure Ap (w wr : World) (base b off : Nat) (V : List Value) (ln : Nat → Nat) (i : Nat) (Gs : List Value) (mv : Value) : Prop where
  co : Co w wr base b off V ln i Gs mv
  rdi : i < V.length → RdV wr (V.getD i undef) (mkr i (ln i))
  owi : i < V.length → wr.ownsRow base 23 4 (V.getD i undef) (ln i) (cellsR (mkr i (ln i)))
/-- within list i: q more are there -/
structure Inn (w wr : World) (base b off : Nat) (V : List Value) (ln : Nat → Nat) (i q : Nat) (Gs : List Value) (mv gv : Value) : Prop where
  co : Co w wr base b off V ln i Gs mv
  rdi : RdV wr (V.getD i undef) (mkr i (ln i))
  go : wr.ownsRow base 23 4 gv (ln i + q) (cellsR (mkr i (ln i) ++ tl i q))
  fr : far w (V.getD i undef) gv
  gd : ∀ t, t < i → (Gs.getD t undef).ownBlock ≠ gv.ownBlock
theorem Ap.start {w wr : World} {base b off i : Nat} {V Gs : List Value} {ln : Nat → Nat} {mv : Value} (h : Ap w wr base b off V ln i Gs mv) (st : Sta w base b V) (hi : i < V.length) : Inn w wr base b off V ln i 0 Gs mv (V.getD i undef) := by
  refine ⟨h.co, h.rdi hi, by simpa [tl] using h.owi hi, .inl rfl, fun t ht he => ?_⟩
  obtain ⟨g, hg⟩ := own_some (h.co.gs t ht) (by omega)
  rw [hg] at he
  rcases h.co.gb t ht with h1 | ⟨k, h1, h2⟩
  · rcases st.dis t i (by omega) hi (by omega) with h3 | h3
    · rw [h3, hg] at h1; cases h1
    · exact h3 (by rw [← h1, hg, he])
  · rw [hg] at h1
    cases h1
    have := st.vlt i hi _ he.symm
    omega
theorem Inn.alloc {w wr : World} {base b off i q : Nat} {V Gs : List Value} {ln : Nat → Nat} {mv gv : Value} (h : Inn w wr base b off V ln i q Gs mv gv) (st : Sta w base b V) (o : Obj) : Inn w (wr.alloc o) base b off V ln i q Gs mv gv := by
  have gr : wr.grownBy (wr.alloc o) none := ⟨rfl, rfl, rfl, by simp, fun k hk _ => heap_alloc_old wr o hk⟩
  have key : ∀ v : Value, v.ownBlock = none ∨ v.ownBlock ≠ none := fun v => by by_cases h : v.ownBlock = none <;> simp [h]
  exact ⟨h.co.kept st gr (by simp) (fun t _ _ => key _) (fun t _ => key _) (key _) (fun k hk => by cases hk) (fun k hk => by cases hk), h.rdi.kept gr (key _), h.go.kept gr (key _), h.fr, h.gd⟩
theorem far_ne {w wr : World} {base b off i q : Nat} {V Gs : List Value} {ln : Nat → Nat} {mv gv : Value} (h : Inn w wr base b off V ln i q Gs mv gv) (st : Sta w base b V) (hi : i < V.length) : gv.ownBlock ≠ some b ∧ ∀ t, t < V.length → t ≠ i → (V.getD t undef).ownBlock = none ∨ (V.getD t undef).ownBlock ≠ gv.ownBlock := by
  rcases h.fr with h1 | ⟨k, h1, h2⟩
  · refine ⟨by rw [h1]; exact st.out i hi, fun t ht hti => ?_⟩
    rw [h1]
    exact st.dis t i ht hi hti
  · refine ⟨by rw [h1]; intro e; cases e; have := st.blt; omega, fun t ht hti => .inr fun e => ?_⟩
    rw [h1] at e
    have := st.vlt t ht k e
    omega
theorem Inn.app {w wr w2 : World} {base b off i q : Nat} {V Gs : List Value} {ln : Nat → Nat} {mv gv v2 : Value} (h : Inn w wr base b off V ln i q Gs mv gv) (st : Sta w base b V) (hi : i < V.length) (gr : wr.grownBy w2 gv.ownBlock)
    (ho : w2.ownsRow base 23 4 v2 (ln i + (q + 1)) (cellsR (mkr i (ln i) ++ tl i (q + 1)))) (loc : v2.ownBlock = gv.ownBlock ∨ (v2.ownBlock = some wr.heap.size ∧ wr.grownBy w2 none)) : Inn w w2 base b off V ln i (q + 1) Gs mv v2 := by
  obtain ⟨f1, f2⟩ := far_ne h st hi
  have hm : mv.ownBlock = none ∨ mv.ownBlock ≠ gv.ownBlock := own_own_ne h.co.mo h.go (by decide)
  have hco : Co w w2 base b off V ln i Gs mv := h.co.kept st gr f1 f2 (fun t ht => .inr (h.gd t ht)) hm (fun k hk => (own_lt h.go k hk).2) (fun k hk => by
    rcases h.fr with f | ⟨j, f, f'⟩
    · exact .inl ⟨i, hi, f.symm.trans hk⟩
    · rw [f] at hk; injection hk with hk; exact .inr (hk ▸ f'))
  have key : ∀ v : Value, v.ownBlock = none ∨ v.ownBlock ≠ none := fun v => by by_cases h : v.ownBlock = none <;> simp [h]
  refine ⟨hco, ?_, ho, ?_, fun t ht => ?_⟩
  · rcases loc with l | ⟨l, g2⟩
    · by_cases he : (V.getD i undef).ownBlock = gv.ownBlock
      · -- both in one row
        obtain ⟨p, c, hv, hc, hs⟩ := h.rdi
        refine ⟨p, c, hv, hc, fun h0 => ?_⟩
        obtain ⟨g, rfl, hg, hr⟩ := hs h0
        obtain ⟨p2, c2, hv2, _, hs2⟩ := RdV.of_own ho (by simp [mk_len, tl_len])
        obtain ⟨g2, rfl, hgw, hr2⟩ := hs2 (by simp [tl_len])
        have hgg : g2 = g := by
          rw [hv2] at l
          rw [hv, ← l] at he
          simp only [Value.ownBlock, Option.some.injEq] at he
          exact he.symm
        subst hgg
        exact ⟨g2, rfl, hgw, hr2.left⟩
      · exact h.rdi.kept gr (.inr he)
    · exact h.rdi.kept g2 (key _)
  · rcases loc with l | ⟨l, _⟩
    · rcases h.fr with f | ⟨k, f, f'⟩
      · exact .inl (l.trans f)
      · exact .inr ⟨k, l.trans f, f'⟩
    · exact .inr ⟨_, l, h.co.be.size⟩
  · rcases loc with l | ⟨l, _⟩
    · rw [l]; exact h.gd t ht
    · rw [l]
      intro e
      have := (own_lt (h.co.gs t ht) _ e).1
      omega
theorem Inn.done {w wr w2 : World} {base b off i : Nat} {V Gs : List Value} {ln : Nat → Nat} {mv gv m2 : Value} (h : Inn w wr base b off V ln i 70 Gs mv gv) (st : Sta w base b V) (hi : i < V.length) (gr : wr.grownBy w2 mv.ownBlock)
    (ho : w2.ownsRow w.heap.size 26 1 m2 (i + 1) (Gs ++ [gv])) : Ap w w2 base b off V ln (i + 1) (Gs ++ [gv]) m2 := by
  have mlt : ∀ k, mv.ownBlock = some k → w.heap.size ≤ k := fun k hk => (own_lt h.co.mo k hk).2
  have nb : mv.ownBlock ≠ some b := fun e => by have := mlt b e; have := st.blt; omega
  have nv : ∀ t, t < V.length → (V.getD t undef).ownBlock = none ∨ (V.getD t undef).ownBlock ≠ mv.ownBlock := fun t ht => by
    by_cases he : (V.getD t undef).ownBlock = mv.ownBlock
    · left
      cases hk : (V.getD t undef).ownBlock with
      | none => rfl
      | some k =>
        have h1 := st.vlt t ht k hk
        have h2 := mlt k (by rw [← he, hk])
        omega
    · exact .inr he
  have be : Below base w w2 := Below.grown h.co.be gr (Nat.le_trans st.bs h.co.be.size) (fun k hk => Nat.le_trans st.bs (mlt k hk))
  have len : Gs.length = i := h.co.gl
  have gl : ∀ t, t < i → (Gs ++ [gv]).getD t undef = Gs.getD t undef := fun t ht => by simp [List.getD_eq_getElem?_getD, List.getElem?_append_left (show t < Gs.length by omega)]
  have gi : (Gs ++ [gv]).getD i undef = gv := by simp [List.getD_eq_getElem?_getD, ← len]
  have gown : w2.ownsRow base 23 4 gv (ln i + 70) (cellsR (mkr i (ln i) ++ tl i 70)) := h.go.kept gr (own_own_ne h.go h.co.mo (by decide))
  refine ⟨⟨fun t ht => gr.cell (h.co.a t ht) (fun e => nb e.symm), fun t ht hti => ?_, fun t h1 h2 => (h.co.own t (by omega) h2).kept gr (nv t h2), by simp [len], fun t ht => ?_, fun t ht => ?_, ho, be, h.co.ch.trans (Chg.of_grown gr (S := fun k => mv.ownBlock = some k) (fun k hk => .inl hk)) (fun k hk => .inr (mlt k hk))⟩, fun hi2 => ?_, fun hi2 => ?_⟩
  · by_cases e : t = i
    · subst e; exact h.rdi.kept gr (nv t ht)
    · exact (h.co.rd t ht e).kept gr (nv t ht)
  · by_cases e : t = i
    · subst e; rw [gi]; exact gown
    · rw [gl t (by omega)]
      exact (h.co.gs t (by omega)).kept gr (own_own_ne (h.co.gs t (by omega)) h.co.mo (by decide))
  · by_cases e : t = i
    · subst e; rw [gi]; exact h.fr
    · rw [gl t (by omega)]; exact h.co.gb t (by omega)
  · exact (h.co.rd (i + 1) hi2 (by omega)).kept gr (nv _ hi2)
  · exact (h.co.own (i + 1) (by omega) hi2).kept gr (nv _ hi2)
/-- list i has its first k marks -/
def Marked (X : List (List R4)) (i k : Nat) : Prop := ∀ t, t < k → (X.getD i []).getD t zR = ⟨(i : Int), (t : Int), -5, -6⟩

theorem infoSl : (Try.prog.info? 26).map (fun i => (i.zero, i.size, i.bytes)) = some (some (.slice none 0 0), 1, 24) := by kernel_rfl
theorem Inn.val {w wr : World} {base b off i q : Nat} {V Gs : List Value} {ln : Nat → Nat} {mv gv : Value} (h : Inn w wr base b off V ln i q Gs mv gv) : ∃ G, G = gv := ⟨_, rfl⟩
theorem Inn.mval {w wr : World} {base b off i q : Nat} {V Gs : List Value} {ln : Nat → Nat} {mv gv : Value} (h : Inn w wr base b off V ln i q Gs mv gv) : ∃ G, G = mv := ⟨_, rfl⟩
theorem Ap.mval {w wr : World} {base b off i : Nat} {V Gs : List Value} {ln : Nat → Nat} {mv : Value} (h : Ap w wr base b off V ln i Gs mv) : ∃ G, G = mv := ⟨_, rfl⟩
theorem below_of {a w w1 : World} {base : Nat} (h2 : Below base w w1) (h1 : Below base a w) : Below base a w1 := h1.trans h2
theorem Ap.drewN {w wr : World} {base b off i : Nat} {V Gs : List Value} {ln : Nat → Nat} {mv : Value} (h : Ap w wr base b off V ln i Gs mv) (n : Nat) : Ap w (wr.drewN n) base b off V ln i Gs mv :=
  ⟨⟨h.co.a, h.co.rd, h.co.own, h.co.gl, h.co.gs, h.co.gb, h.co.mo, ⟨h.co.be.os, h.co.be.tape, h.co.be.output, h.co.be.size, h.co.be.block⟩, ⟨h.co.ch.os, h.co.ch.tape, h.co.ch.output, h.co.ch.size, h.co.ch.block⟩⟩, h.rdi, h.owi⟩
/-- what is read of list i -/
structure Looks (wr : World) (b off i l : Nat) (p : Option Addr) (c g2 c2 hm : Nat) : Prop where
  cv : wr.cell? ⟨b, off + i, none⟩ = some (.slice p l c)
  rd : ∀ k, k < l → ∃ g, p = some ⟨g, 0, none⟩ ∧ g < wr.heap.size ∧ wr.cell? ⟨g, k * 4, none⟩ = some (.int .i64 (i : Int)) ∧ wr.cell? ⟨g, k * 4 + 1, none⟩ = some (.int .i64 (k : Int)) ∧ wr.cell? ⟨g, k * 4 + 2, none⟩ = some (.int .i64 (-5)) ∧ wr.cell? ⟨g, k * 4 + 3, none⟩ = some (.int .i64 (-6))
  cm : wr.cell? ⟨hm, i, none⟩ = some (.slice (some ⟨g2, 0, none⟩) (l + 70) c2)
  gd : ∀ k, k < 70 → wr.cell? ⟨g2, (l + k) * 4, none⟩ = some (.int .i64 (-1 - (i : Int))) ∧ wr.cell? ⟨g2, (l + k) * 4 + 1, none⟩ = some (.int .i64 (k : Int)) ∧ wr.cell? ⟨g2, (l + k) * 4 + 2, none⟩ = some (.int .i64 (-7)) ∧ wr.cell? ⟨g2, (l + k) * 4 + 3, none⟩ = some (.int .i64 (-8))
theorem Looks.drewN {wr : World} {b off i l : Nat} {p : Option Addr} {c g2 c2 hm : Nat} (h : Looks wr b off i l p c g2 c2 hm) (n : Nat) : Looks (wr.drewN n) b off i l p c g2 c2 hm := ⟨h.cv, h.rd, h.cm, h.gd⟩
theorem Ap.look {w wr : World} {base b off n i : Nat} {V Gs : List Value} {ln : Nat → Nat} {mv : Value} (h : Ap w wr base b off V ln n Gs mv) (hV : V.length = n) (hi : i < n) :
    ∃ p c g2 c2 hm cm, mv = .slice (some ⟨hm, 0, none⟩) n cm ∧ n ≤ cm ∧ ln i ≤ c ∧ hm < wr.heap.size ∧ Looks wr b off i (ln i) p c g2 c2 hm ∧ Ap w wr base b off V ln n Gs mv := by
  obtain ⟨p, c, hv, hc, hs⟩ := h.co.rd i (by omega) (by omega)
  obtain ⟨p2, c2, hv2, hc2, hs2⟩ := RdV.of_own (h.co.gs i hi) (by simp [mkr, mk_len, tl_len])
  obtain ⟨g2, rfl, _, hr2⟩ := hs2 (by simp [tl_len])
  simp only [mkr, mk_len] at hv hc hs
  simp only [List.length_append, mkr, mk_len, tl_len] at hv2 hc2
  obtain ⟨hm, hmb⟩ := own_some h.co.mo (by omega)
  have hmo := h.co.mo.cells hmb
  obtain ⟨cm, hmv, hcm⟩ : ∃ cm, mv = .slice (some ⟨hm, 0, none⟩) n cm ∧ n ≤ cm := by
    rcases h.co.mo.2 with ⟨rfl, h0⟩ | ⟨g', cap, cur, rfl, _, _, hnc, _⟩
    · omega
    · have : g' = hm := by simpa [Value.ownBlock] using hmb
      subst this
      exact ⟨cap, rfl, hnc⟩
  refine ⟨p, c, g2, c2, hm, cm, hmv, hcm, hc, (own_lt h.co.mo hm hmb).1, ⟨?_, fun k hk => ?_, ?_, fun k hk => ?_⟩, h⟩
  · rw [h.co.a i (by omega), hv]
  · obtain ⟨g, rfl, hg, hr⟩ := hs (by omega)
    obtain ⟨r0, r1, r2, r3⟩ := hr k (by rw [mk_len]; exact hk)
    simp only [Nat.zero_add, mk_at i (ln i) k hk] at r0 r1 r2 r3
    exact ⟨g, rfl, hg, r0, r1, r2, r3⟩
  · have hG : Gs[i]? = some (Gs.getD i undef) := by
      rw [List.getD_eq_getElem?_getD, List.getElem?_eq_getElem (show i < Gs.length by rw [h.co.gl]; exact hi)]; rfl
    have := hmo i _ hG
    rw [addr_add] at this
    rw [this, hv2]
  · obtain ⟨r0, r1, r2, r3⟩ := hr2 (ln i + k) (by simp [mk_len, tl_len]; omega)
    have e : (mkr i (ln i) ++ tl i 70).getD (ln i + k) zR = ⟨-1 - (i : Int), (k : Int), -7, -8⟩ := by
      rw [List.getD_eq_getElem?_getD, List.getElem?_append_right (by simp [mkr, mk_len])]
      rw [show ln i + k - (mkr i (ln i)).length = k by simp [mkr, mk_len]]
      rw [← List.getD_eq_getElem?_getD]
      exact tl_at i 70 k hk
    simp only [Nat.zero_add, e] at r0 r1 r2 r3
    exact ⟨r0, r1, r2, r3⟩
/-- the lists have their marks: from here on they are gone on with -/
theorem ap_zero {w wm : World} {base b off n : Nat} {V : List Value} {X : List (List R4)} (hV : V.length = n) (hT : Told wm base b off V X) (hm : ∀ t, t < n → Marked X t (X.getD t []).length) (hb : Below base w wm) (hbase : base ≤ w.heap.size) :
    Sta wm base b V ∧ Ap wm wm base b off V (fun t => (X.getD t []).length) 0 [] (.slice none 0 0) := by
  have st : Sta wm base b V := ⟨hT.blk, fun t ht g hg => (own_lt (hT.own t ht) g hg).1, hT.dis, hT.out, Nat.le_trans hbase hb.size⟩
  have e : ∀ t, t < V.length → X.getD t [] = mkr t (X.getD t []).length := fun t ht => mk_full (hm t (by omega))
  have ow : ∀ t, t < V.length → wm.ownsRow base 23 4 (V.getD t undef) (X.getD t []).length (cellsR (mkr t (X.getD t []).length)) := fun t ht => by
    have h := hT.own t ht
    rw [← e t ht]
    exact h
  have rd : ∀ t, t < V.length → RdV wm (V.getD t undef) (mkr t (X.getD t []).length) := fun t ht => RdV.of_own (ow t ht) (by rw [mkr, mk_len])
  exact ⟨st, ⟨fun t ht => hT.at_ t ht, fun t ht _ => rd t ht, fun t _ ht => ow t ht, rfl, fun t ht => by omega, fun t ht => by omega, ⟨rfl, .inl ⟨rfl, rfl⟩⟩, Below.refl _ _, Chg.refl _ _⟩, fun h => rd 0 h, fun h => ow 0 h⟩

set_option maxRecDepth 100000 in
set_option maxHeartbeats 32000000 in
theorem apart_ch (base b off n cap : Nat) (V : List Value) (X : List (List R4)) (w : World) (hV : V.length = n) (hT : Told w base b off V X) (hn : n ≤ 3518437208883) (hl : ∀ L ∈ X, L.length ≤ 1099511627776) (hbase : base ≤ w.heap.size) :
    Calls Try.prog 22 #[.slice (some ⟨b, off, none⟩) n cap] w fun e w' => e = .returned (.bool true) ∧ Below base w w' ∧ Chg w w' (VS V) := by
  have HV := Lib.hid hV
  have HT := Lib.hid hT
  have HL := Lib.hid hl
  clear hV hT hl
  go_enter Try.func22, Try.ntmps22
  go_wp2
  go_loopw [3] (fun i wr => ∃ k : Nat, ∃ X' : List (List R4), k ≤ n ∧ i = .int .i64 k ∧ RowKit.Hid (Told wr base b off V X' ∧ X'.map List.length = X.map List.length ∧ ∀ t, t < k → Marked X' t (X'.getD t []).length) ∧ Below base w wr ∧ RowKit.Hid (Chg w wr (VS V))) (fun i _ => n - (intOf i).toNat)
  case atStart => exact ⟨0, X, Nat.zero_le _, rfl, Lib.hid ⟨HT.out, rfl, fun t ht => by omega⟩, Below.refl _ _, Lib.hid (Chg.refl _ _)⟩
  case round =>
    rename_i wr
    obtain ⟨k, X', hk, rfl, HS, BW, CW⟩ := hrel
    by_cases hlt : k < n
    · have hbw : b < wr.heap.size := HS.out.1.blk
      have hlk : (X.getD k []).length ≤ 1099511627776 := by
        rw [List.getD_eq_getElem?_getD]
        cases h2 : X[k]? with
        | none => simp
        | some L => exact HL.out L (List.mem_of_getElem? h2)
      go_wp2
      go_loopw [4] (fun j wr2 => ∃ t : Nat, ∃ X2 : List (List R4), t ≤ (X.getD k []).length ∧ j = .int .i64 t ∧ RowKit.Hid (Told wr2 base b off V X2 ∧ X2.map List.length = X.map List.length ∧ (∀ s, s < k → Marked X2 s (X2.getD s []).length) ∧ Marked X2 k t) ∧ Below base w wr2 ∧ RowKit.Hid (Chg w wr2 (VS V))) (fun j _ => (X.getD k []).length - (intOf j).toNat)
      case atStart => exact ⟨0, X', Nat.zero_le _, rfl, Lib.hid ⟨HS.out.1, HS.out.2.1, HS.out.2.2, fun s hs => by omega⟩, BW, CW⟩
      case round =>
        rename_i wr2
        obtain ⟨t, X2, ht, rfl, HS2, BW2, CW2⟩ := hrel
        have cV := HS2.out.1.at_ k (by rw [HV.out]; exact hlt)
        have el : (X2.getD k []).length = (X.getD k []).length := by
          have h1 := congrArg (fun l => l.getD k 0) HS2.out.2.1
          simp only [List.getD_eq_getElem?_getD, List.getElem?_map] at h1 ⊢
          cases h2 : X2[k]? <;> cases h3 : X[k]? <;> simp_all
        obtain ⟨pk, ck, hvk, hck, slk, _, hgk⟩ := own_sl (HS2.out.1.own k (by rw [HV.out]; exact hlt)) rfl
        rw [el] at hvk hck hgk
        rw [hvk] at cV
        have SLK := Lib.hid slk
        clear slk
        by_cases htl : t < (X.getD k []).length
        · obtain ⟨g, rfl, hgb, hgw⟩ := hgk (by omega)
          have hfz := HS2.out.1.own k (by rw [HV.out]; exact hlt)
          rw [hvk, el] at hfz
          have f0 := hfz.frozenAt (t * 4); have f1 := hfz.frozenAt (t * 4 + 1); have f2 := hfz.frozenAt (t * 4 + 2); have f3 := hfz.frozenAt (t * 4 + 3)
          obtain ⟨b', off', hp', _, hr'⟩ := SLK.out (by omega)
          cases hp'
          obtain ⟨c0, c1, c2, c3⟩ := hr' t (by omega)
          simp only [Nat.zero_add] at c0 c1 c2 c3
          have HFZ := Lib.hid hfz
          clear hfz hr'
          go_wp2
          go_roundw
          case rel =>
            obtain ⟨x1, e1, ow, gr, sz⟩ := own_set4 HFZ.out t ⟨(k : Int), (t : Int), -5, -6⟩ (by omega)
            try rw [← e1]
            refine ⟨t + 1, X2.set k ((X2.getD k []).set t ⟨(k : Int), (t : Int), -5, -6⟩), by omega, by go_num, ?_, ?_, ?_⟩
            · have hkV : k < V.length := by rw [HV.out]; exact hlt
              have hX2 : k < X2.length := by rw [HS2.out.1.len]; exact hkV
              have hg2 : (V.getD k undef).ownBlock = some g := by rw [hvk]; rfl
              refine Lib.hid ⟨HS2.out.1.grown hkV hg2 gr (by rw [hvk, List.length_set, el]; exact ow), ?_, fun s hs => ?_, ?_⟩
              · rw [← HS2.out.2.1]
                apply List.ext_getElem?
                intro m
                simp only [List.getElem?_map, List.getElem?_set]
                by_cases hm : k = m
                · subst hm; simp [hX2, List.getD_eq_getElem?_getD]
                · simp [hm]
              · have e3 : (X2.set k ((X2.getD k []).set t ⟨(k : Int), (t : Int), -5, -6⟩)).getD s [] = X2.getD s [] := by simp [List.getD_eq_getElem?_getD, List.getElem?_set, show ¬ k = s by omega]
                unfold Marked; rw [e3]; exact HS2.out.2.2.1 s hs
              · have e3 : (X2.set k ((X2.getD k []).set t ⟨(k : Int), (t : Int), -5, -6⟩)).getD k [] = (X2.getD k []).set t ⟨(k : Int), (t : Int), -5, -6⟩ := by simp [List.getD_eq_getElem?_getD, hX2]
                unfold Marked; rw [e3]
                exact mk_step (by rw [el]; exact htl) HS2.out.2.2.2
            · exact Below.grown BW2 gr (by have := BW2.size; omega) (fun k hk => by cases hk; exact hgb)
            · exact Lib.hid (CW2.out.trans (Chg.of_grown gr (S := fun q => some g = some q) (fun q hq => .inl hq)) (fun q hq => .inl ⟨k, by rw [HV.out]; exact hlt, by rw [hvk]; exact hq⟩))
          case measure => simp [intOf]; omega
        · have htt : t = (X.getD k []).length := by omega
          go_wp2
          go_roundw
          case rel => exact ⟨k + 1, X2, by omega, by go_num, Lib.hid ⟨HS2.out.1, HS2.out.2.1, fun s hs => by
            by_cases hsk : s < k
            · exact HS2.out.2.2.1 s hsk
            · have : s = k := by omega
              subst this; rw [el, ← htt]; exact HS2.out.2.2.2⟩, BW2, CW2⟩
          case measure => simp [intOf]; omega
    · have hkl : k = n := by omega
      subst hkl
      obtain ⟨st, ap⟩ := ap_zero HV.out HS.out.1 HS.out.2.2 BW hbase
      have eln : ∀ t, (X'.getD t []).length = (X.getD t []).length := fun t => by
        have h1 := congrArg (fun l => l.getD t 0) HS.out.2.1
        simp only [List.getD_eq_getElem?_getD, List.getElem?_map] at h1 ⊢
        cases h2 : X'[t]? <;> cases h3 : X[t]? <;> simp_all
      have hll : ∀ t, (X'.getD t []).length ≤ 1099511627776 := fun t => by
        rw [eln t, List.getD_eq_getElem?_getD]
        cases h2 : X[t]? with
        | none => simp
        | some L => exact HL.out L (List.mem_of_getElem? h2)
      obtain ⟨wm, rfl⟩ : ∃ wm : World, wm = wr := ⟨_, rfl⟩
      obtain ⟨ln, hln⟩ : ∃ ln : Nat → Nat, ln = fun t => (X'.getD t []).length := ⟨_, rfl⟩
      rw [← hln] at ap
      have HLL : RowKit.Hid (∀ t, ln t ≤ 1099511627776) := by rw [hln]; exact Lib.hid hll
      have ST := Lib.hid st
      have AP := Lib.hid ap
      clear st ap eln hll hln HS HT HL
      obtain ⟨i0, hi, hz0, hz1, hz2⟩ := info_parts infoRect
      obtain ⟨j0, hj, hy0, hy1, hy2⟩ := info_parts infoSl
      go_wp2
      go_loopw [5, 6, 7, 8] (fun mv i _ _ wr => ∃ t : Nat, ∃ Gs : List Value, t ≤ k ∧ i = .int .i64 t ∧ RowKit.Hid (Ap wm wr base b off V ln t Gs mv)) (fun _ i _ _ _ => k - (intOf i).toNat)
      case atStart => exact ⟨0, [], Nat.zero_le _, rfl, AP⟩
      case round =>
        clear AP
        obtain ⟨t, Gs, ht, rfl, AP⟩ := hrel
        by_cases hlt : t < k
        · have cV := AP.out.co.a t (by rw [HV.out]; exact hlt)
          have IN0 := Lib.hid (AP.out.start ST.out (by rw [HV.out]; exact hlt))
          clear AP
          have hVt : t < V.length := by rw [HV.out]; exact hlt
          have eV : V.getD t undef = V[t] := by simp [List.getD_eq_getElem?_getD, hVt]
          rw [eV] at IN0
          clear eV
          go_wp2
          go_loopw [7, 8] (fun gv q wr => ∃ q' : Nat, q' ≤ 70 ∧ q = .int .i64 q' ∧ RowKit.Hid (Inn wm wr base b off V ln t q' Gs _ gv)) (fun _ q _ => 70 - (intOf q).toNat)
          case atStart => exact ⟨0, by omega, rfl, IN0⟩
          case round =>
            clear IN0 cV
            obtain ⟨q', hq', rfl, HI⟩ := hrel
            obtain ⟨G, hG⟩ := HI.out.val
            subst hG
            obtain ⟨mv, hmv⟩ := HI.out.mval
            subst hmv
            have hlt_ := HLL.out t
            have hbs := HI.out.co.be.size
            have hbb := ST.out.bs
            by_cases hq : q' < 70
            · go_wp2_with (at_builtin; go_must (refine append_keep rfl (.tmp 50) (.tmp 55) 26 rfl base 23 i0 (.agg #[.int .i64 0, .int .i64 0, .int .i64 0, .int .i64 0]) 4 32 Try.underlying26 hi hz0 hz1 hz2 rfl (by decide) _ _ _ rfl ((HI.out.alloc ST.out _).go) ⟨wr.heap.size, 0, none⟩ 1 1 (cellsR [⟨-1 - (t : Int), (q' : Int), -7, -8⟩]) rfl rfl ?c1 ?c2 ?c3 ?c4 ?c5 ?_))
              case c1 =>
                intro j u hj
                simp [cellsR] at hj
                match j, hj with
                | 0, hj => simp at hj; subst hj; simp [Addr.add, go_sem]
                | 1, hj => simp at hj; subst hj; simp [Addr.add, go_sem]
                | 2, hj => simp at hj; subst hj; simp [Addr.add, go_sem]
                | 3, hj => simp at hj; subst hj; simp [Addr.add, go_sem]
              case c2 => exact cellsR_one _
              case c3 => unfold maxLen; omega
              case c4 => omega
              case c5 => simp; omega
              intro v2 w2 own2 gr2 loc2
              have IN2 := Lib.hid (Inn.app (HI.out.alloc ST.out _) ST.out hVt gr2 (by rw [tl_succ, ← List.append_assoc, cellsR_append]; exact own2) (loc2.imp id fun h => ⟨by rw [World.size_alloc]; exact h.1, h.2⟩))
              clear own2 gr2 loc2 HI hbs hlt_ hbb
              go_wp2
              go_roundw
              case rel => exact ⟨q' + 1, by omega, by go_num, IN2⟩
              case measure => simp [intOf]; omega
            · obtain rfl : q' = 70 := by omega
              obtain ⟨p5, c5, hv5, _⟩ := own_sl HI.out.go (by simp [mkr, mk_len, tl_len])
              subst hv5
              go_wp2_with (at_builtin; go_must (refine append_keep rfl (.tmp 57) (.tmp 59) 33 rfl wm.heap.size 26 j0 (.slice none 0 0) 1 24 Try.underlying33 hj hy0 hy1 hy2 rfl (by decide) _ _ _ rfl ((HI.out.alloc ST.out _).co.mo) ⟨wr.heap.size, 0, none⟩ 1 1 [.slice p5 (ln t + 70) c5] rfl rfl (cell_one_new _ _ _) ?d2 ?d3 ?d4 ?d5 ?_))
              case d2 =>
                intro u hu
                simp only [List.mem_singleton] at hu
                subst hu
                rfl
              case d3 => unfold maxLen; omega
              case d4 => omega
              case d5 => simp; omega
              intro m2 w2 own2 gr2 _
              have AP2 := Lib.hid (Inn.done (HI.out.alloc ST.out _) ST.out hVt gr2 own2)
              clear own2 gr2 HI hbs hlt_ hbb
              go_wp2
              go_roundw
              case rel => exact ⟨t + 1, _, by omega, by go_num, AP2⟩
              case measure => simp [intOf]; omega
        · have htk : t = k := by omega
          subst htk
          obtain ⟨mv, hmv⟩ := AP.out.mval
          subst hmv
          go_wp2
          go_loopw [9, 10, 11] (fun i _ _ wr => ∃ i' : Nat, i' ≤ t ∧ i = .int .i64 i' ∧ RowKit.Hid (Ap wm wr base b off V ln t Gs mv)) (fun i _ _ _ => t - (intOf i).toNat)
          case atStart => exact ⟨0, Nat.zero_le _, rfl, AP⟩
          case round =>
            clear AP hlt ht
            obtain ⟨i', hi', rfl, AP⟩ := hrel
            by_cases hlt : i' < t
            · have hl1 := HLL.out i'
              obtain ⟨p, c, g2, c2, hm, cm, rfl, hnm, hcc, hmw, LK⟩ := AP.out.look HV.out hlt
              have HLK := Lib.hid LK
              clear LK AP
              go_wp2
              go_loopw [10] (fun i wr => ∃ k' : Nat, k' ≤ ln i' ∧ i = .int .i64 k' ∧ RowKit.Hid (Looks wr b off i' (ln i') p c g2 c2 hm ∧ Ap wm wr base b off V ln t Gs (.slice (some ⟨hm, 0, none⟩) t cm))) (fun i _ => ln i' - (intOf i).toNat)
              case atStart => exact ⟨0, Nat.zero_le _, rfl, HLK⟩
              case round =>
                clear HLK
                obtain ⟨k', hk', rfl, HLK⟩ := hrel
                have cV := HLK.out.1.cv
                by_cases hk2 : k' < ln i'
                · obtain ⟨g, rfl, _, d0, d1, d2, d3⟩ := HLK.out.1.rd k' hk2
                  go_wp2
                  go_roundw
                  case rel => exact ⟨k' + 1, by omega, by go_num, HLK⟩
                  case measure => simp [intOf]; omega
                · go_wp2
                  go_loopw [11] (fun i wr => ∃ k' : Nat, k' ≤ 70 ∧ i = .int .i64 k' ∧ RowKit.Hid (Looks wr b off i' (ln i') p c g2 c2 hm ∧ Ap wm wr base b off V ln t Gs (.slice (some ⟨hm, 0, none⟩) t cm))) (fun i _ => 70 - (intOf i).toNat)
                  case atStart => exact ⟨0, Nat.zero_le _, rfl, HLK⟩
                  case round =>
                    clear HLK cV hk2 hk'
                    obtain ⟨q', hq', rfl, HLK⟩ := hrel
                    by_cases hq : q' < 70
                    · have cV := HLK.out.1.cv
                      have cM := HLK.out.1.cm
                      obtain ⟨d0, d1, d2, d3⟩ := HLK.out.1.gd q' hq
                      have q1 : IntKind.i64.wrap ((ln i' : Int) + q') = ln i' + q' := IntWalk.i64_in _ (by omega)
                      have q2 : ((ln i' : Int) + q').toNat = ln i' + q' := by omega
                      have q3 : 0 ≤ (ln i' : Int) + q' := by omega
                      have q4 : (ln i' : Int) + q' < ((ln i' + 70 : Nat) : Int) := by omega
                      have q5 : IntKind.i64.wrap (-1 - (i' : Int)) = -1 - i' := IntWalk.i64_in _ (by omega)
                      go_wp2
                      go_quiet (fail)
                      clear q1 q2 q3 q4 q5
                      go_wp2
                      go_roundw
                      case rel => exact ⟨q' + 1, by omega, by go_num, Lib.hid ⟨HLK.out.1.drewN _, HLK.out.2.drewN _⟩⟩
                      case measure => simp [intOf]; omega
                    · go_wp2
                      go_roundw
                      case rel => exact ⟨i' + 1, by omega, by go_num, Lib.hid HLK.out.2⟩
                      case measure => simp [intOf]; omega
            · go_wp2
              go_ret
              exact ⟨rfl, below_of AP.out.co.be BW, CW.out.trans AP.out.co.ch (fun k hk => .inl hk)⟩
end Ch
end Go.Proofs.Ytekcheccelllcaa
namespace Go.Proofs.Ytekcheccelllcaa
open Go.RowKit
set_option linter.unusedVariables false
set_option linter.unusedSimpArgs false

set_option maxRecDepth 100000 in
set_option maxHeartbeats 8000000 in
theorem apart_nil (w : World) : Calls Try.prog 22 #[.slice none 0 0] w fun e w' => e = .returned (.bool true) ∧ Below w.heap.size w w' := by
  go_enter Try.func22, Try.ntmps22
  go_wp2
  go_loopw [3] (fun i wr => i = .int .i64 0 ∧ RowKit.Hid (Below w.heap.size w wr)) (fun i _ => 0)
  case atStart => exact ⟨rfl, Lib.hid (Below.refl _ _)⟩
  case round =>
    obtain ⟨rfl, HW⟩ := hrel
    go_wp2
    go_loopw [6] (fun i wr => i = .int .i64 0 ∧ RowKit.Hid (Below w.heap.size w wr)) (fun i _ => 0)
    case atStart => exact ⟨rfl, HW⟩
    case round =>
      clear HW
      obtain ⟨rfl, HW⟩ := hrel
      go_wp2
      go_loopw [9] (fun i wr => i = .int .i64 0 ∧ RowKit.Hid (Below w.heap.size w wr)) (fun i _ => 0)
      case atStart => exact ⟨rfl, HW⟩
      case round =>
        clear HW
        obtain ⟨rfl, HW⟩ := hrel
        go_wp2
        go_ret
        exact ⟨rfl, HW.out⟩
/-- what stands behind apart -/
structure Aft (base : Nat) (w w2 : World) (pb : Nat) (s : PrS) : Prop where
  rg : RegAt base w2 s.g s.gv s.bl
  rf : RfAt base w2 s.h s.hv (rctsB (bdsOf s.bl))
  pr : w2.heap[pb]? = w.heap[pb]?
  ch : Chg w w2 (SQ pb s)
theorem Aft.of {base : Nat} {w w2 : World} {pb : Nat} {s : PrS} (h : PqAt base w pb s) (c : Chg w w2 (fun k => ∃ e ∈ s.told, e.t.ownBlock = some k)) : Aft base w w2 pb s := by
  have fr : ∀ {k : Nat} {cs : Array Value} {t : TypeId} {fr : Nat × Nat}, w.heap[k]? = some (.cells cs t fr) → t ≠ 23 → ¬ ∃ e ∈ s.told, e.t.ownBlock = some k := fun hk ht ⟨e, he, hq⟩ => by
    obtain ⟨cs', fr', hb⟩ := row_blk (h.te e he) hq
    exact blk_ne hk hb ht rfl
  refine ⟨h.rg.keep fun k hk => c.block k (h.rg.lt k hk).1 ?_, h.rf.keep fun k hk => c.block k (h.rf.lt k hk).1 ?_, c.block pb (lt_of_block h.pr) (fr h.pr (by decide)), ⟨c.os, c.tape, c.output, c.size, fun k hk hn => c.block k hk fun ⟨e, he, hq⟩ => hn (.inr (.inr (.inr (.inr (.inr ⟨e, he, .inl hq⟩)))))⟩⟩
  · rcases hk with rfl | hk | ⟨e, he, hk⟩
    · exact fr h.rg.pr (by decide)
    · obtain ⟨cs, f, hb⟩ := row_blk h.rg.bn.row hk; exact fr hb (by decide)
    · obtain ⟨cs, f, hb⟩ := row_blk (h.rg.bn.en e he) hk; exact fr hb (by decide)
  · rcases hk with rfl | hk
    · exact fr h.rf.pr (by decide)
    · rintro ⟨e, he, hq⟩
      rcases h.dh e he with h1 | h1
      · rw [hq] at h1; cases h1
      · exact h1 (hq.trans hk.symm)
theorem told_getD {l : List Tle} {i : Nat} (hi : i < l.length) : (l.map (·.t)).getD i undef = (l[i]).t ∧ (l.map (·.x)).getD i [] = (l[i]).x ∧ (l.map (·.t))[i]? = some (l[i]).t ∧ (l.map (·.k))[i]? = some (l[i]).k := by
  refine ⟨?_, ?_, ?_, ?_⟩ <;> simp [List.getD_eq_getElem?_getD, hi]
/-- the lists that were told, for apart -/
theorem PqAt.told_ {base : Nat} {w : World} {pb : Nat} {s : PrS} (h : PqAt base w pb s) {gt ct : Nat} (htv : s.tv = .slice (some ⟨gt, 0, none⟩) s.told.length ct) : Told w base gt 0 (s.told.map (·.t)) (s.told.map (·.x)) := by
  have hr := h.tor
  rw [htv] at hr
  refine ⟨by simp, (row_lt hr gt rfl).1, fun i hi => ?_, fun i hi => ?_, fun i j hi hj hij => ?_, fun i hi => ?_⟩
  · have hi2 : i < s.told.length := by simpa using hi
    have := row_cells hr i _ (told_getD hi2).2.2.1
    rw [(told_getD hi2).1]
    exact this
  · have hi2 : i < s.told.length := by simpa using hi
    rw [(told_getD hi2).1, (told_getD hi2).2.1]
    exact h.te _ (List.getElem_mem hi2)
  · have hi2 : i < s.told.length := by simpa using hi
    have hj2 : j < s.told.length := by simpa using hj
    rw [(told_getD hi2).1, (told_getD hj2).1]
    rcases Nat.lt_or_gt_of_ne hij with h1 | h1
    · exact List.pairwise_iff_getElem.1 h.dt i j hi2 hj2 h1
    · have := List.pairwise_iff_getElem.1 h.dt j i hj2 hi2 h1
      by_cases e : (s.told[i]).t.ownBlock = none
      · exact .inl e
      · refine .inr fun e2 => ?_
        rcases this with h3 | h3
        · rw [← e2] at h3; exact e h3
        · exact h3 e2.symm
  · have hi2 : i < s.told.length := by simpa using hi
    rw [(told_getD hi2).1]
    intro e
    obtain ⟨cs, f, hb⟩ := row_blk (h.te _ (List.getElem_mem hi2)) e
    obtain ⟨cs', f', hb'⟩ := row_blk hr (g := gt) rfl
    exact blk_ne hb hb' (by decide) rfl
/-- apart of what was told -/
theorem qapart_any (base : Nat) (w : World) (pb : Nat) (s : PrS) (h : PqAt base w pb s) (ht : s.told.length ≤ 3518437208882) (hbw : base ≤ w.heap.size) : Calls Try.prog 22 #[s.tv] w fun e w' => e = .returned (.bool true) ∧ Aft base w w' pb s := by
  rcases row_form h.tor with ⟨e, e0, _⟩ | ⟨gt, ct, e, _, _, _, _⟩
  · rw [e]
    refine (apart_nil w).mono ?_
    rintro e w' ⟨rfl, hb⟩
    exact ⟨rfl, Aft.of h (Chg.of_below hb _)⟩
  · have hT := h.told_ e
    rw [e]
    refine (Ch.apart_ch base gt 0 s.told.length ct _ _ w (by simp) hT (by omega) (fun L hL => ?_) hbw).mono ?_
    · obtain ⟨u, hu, rfl⟩ := List.mem_map.1 hL
      have := h.tx u hu
      omega
    · rintro e w' ⟨rfl, _, c⟩
      refine ⟨rfl, Aft.of h ⟨c.os, c.tape, c.output, c.size, fun k hk hn => c.block k hk fun ⟨i, hi, hq⟩ => hn ?_⟩⟩
      have hi2 : i < s.told.length := by simpa using hi
      rw [(told_getD hi2).1] at hq
      exact ⟨_, List.getElem_mem hi2, hq⟩
set_option maxRecDepth 100000 in
set_option maxHeartbeats 16000000 in
theorem whole_any (base : Nat) (w : World) (pb : Nat) (s : PrS) (hp : PqAt base w pb s) (ht : s.told.length ≤ 3518437208882) (hbw : base ≤ w.heap.size) : Calls Try.prog 44 #[.pointer (some ⟨pb, 0, none⟩)] w fun e w' => e = .returned (.bool true) ∧ Chg w w' (SQ pb s) := by
  have HP := Lib.hid hp
  obtain ⟨n, hn⟩ : ∃ n, n = s.told.length := ⟨_, rfl⟩
  obtain ⟨pt, ct, htv⟩ := row_slice hp.tor
  obtain ⟨pw, cw, hwv⟩ := row_slice hp.wor
  rw [← hn] at htv hwv ht
  have HN := Lib.hid hn
  have HTV := Lib.hid htv
  have HWV := Lib.hid hwv
  have HSS := Lib.hid (show ∀ w' : World, w'.heap[pb]? = w.heap[pb]? → (pb < w'.heap.size ∧ w'.cell? ⟨pb, 0, none⟩ = some (.pointer (some ⟨s.g, 0, none⟩)) ∧ w'.cell? ⟨pb, 1, none⟩ = some (.pointer (some ⟨s.h, 0, none⟩)) ∧ w'.cell? ⟨pb, 2, none⟩ = some (.slice pt n ct) ∧ w'.cell? ⟨pb, 3, none⟩ = some (.slice pw n cw)) from fun w' h => by
    have h1 := h.trans HP.out.pr
    rw [htv, hwv] at h1
    refine ⟨lt_of_block h1, ?_, ?_, ?_, ?_⟩ <;> (rw [cell_of_row _ _ _ _ _ _ h1]; rfl))
  skip
  clear hp hn htv hwv
  obtain ⟨z, k0, k1, k2, k3⟩ := HSS.out w rfl
  go_enter Try.func44, Try.ntmps44
  go_wp2
  clear z k0 k1 k2 k3
  go_loopw [3] (fun iv wr => ∃ i : Nat, iv = .int .i64 i ∧ i ≤ n ∧ RowKit.Hid (Below w.heap.size w wr)) (fun iv _ => n - (intOf iv).toNat)
  case atStart => exact ⟨0, rfl, Nat.zero_le _, Lib.hid (Below.refl _ _)⟩
  case round =>
    obtain ⟨i, rfl, hi, HW⟩ := hrel
    have HPR := Lib.hid (HP.out.later HW.out)
    have HPB := Lib.hid (show wr.heap[pb]? = w.heap[pb]? from HW.out.block pb (lt_of_block HP.out.pr))
    obtain ⟨z, k0, k1, k2, k3⟩ := HSS.out wr HPB.out
    by_cases hlt : i < n
    · have hii : (i : Int) < (n : Int) := by omega
      have hi2 : i < s.told.length := by rw [← HN.out]; exact hlt
      obtain ⟨gt, hgt⟩ : ∃ g, pt = some ⟨g, 0, none⟩ := by
        have h := HPR.out.tor
        rw [HTV.out] at h
        rcases row_form h with ⟨_, e, _⟩ | ⟨g, c, e, _⟩
        · omega
        · injection e with e1 e2 e3; exact ⟨g, e1⟩
      obtain ⟨gw, hgw⟩ : ∃ g, pw = some ⟨g, 0, none⟩ := by
        have h := HPR.out.wor
        rw [HWV.out] at h
        rcases row_form h with ⟨_, e, _⟩ | ⟨g, c, e, _⟩
        · omega
        · injection e with e1 e2 e3; exact ⟨g, e1⟩
      subst hgt
      subst hgw
      have r1 := HPR.out.tor
      have r2 := HPR.out.wor
      rw [HTV.out] at r1
      rw [HWV.out] at r2
      have c0 := row_cells r1 i _ (told_getD hi2).2.2.1
      have c1 := row_cells r2 i _ (told_getD hi2).2.2.2
      rw [Nat.zero_add] at c0 c1
      have zt := (row_lt r1 gt rfl).1
      have zw := (row_lt r2 gw rfl).1
      obtain ⟨E, hE⟩ : ∃ E, E = s.told[i] := ⟨_, rfl⟩
      rw [← hE] at c0 c1
      have hEM : E ∈ s.told := by rw [hE]; exact List.getElem_mem hi2
      have HTE := Lib.hid (HPR.out.te E hEM)
      have HWE := Lib.hid (HPR.out.we E hEM)
      have HTX := Lib.hid (HPR.out.tx E hEM)
      clear hE hEM r1 r2 k0 k1
      obtain ⟨et, ek, ex⟩ := E
      simp only at c0 c1 HTE HWE HTX
      obtain ⟨p1, d1, e1, _, sl1, _, _⟩ := own_sl HTE.out rfl
      obtain ⟨p2, d2, e2, _, sl2, _, _⟩ := own_sl HWE.out rfl
      subst e1 e2
      have HS1 := Lib.hid sl1
      have HS2 := Lib.hid sl2
      have HKK := Lib.hid (And.intro k2 (And.intro k3 (And.intro c0 c1)))
      have hxl := HTX.out
      clear sl1 sl2
      have HSF := Lib.hid (show ∀ W : World, Below wr.heap.size wr W → (pb < W.heap.size ∧ W.cell? ⟨pb, 2, none⟩ = some (.slice (some ⟨gt, 0, none⟩) n ct) ∧ W.cell? ⟨pb, 3, none⟩ = some (.slice (some ⟨gw, 0, none⟩) n cw) ∧ W.cell? ⟨gt, i, none⟩ = some (.slice p1 ex.length d1) ∧ W.cell? ⟨gw, i, none⟩ = some (.slice p2 ex.length d2)) from fun W hb => by
        obtain ⟨k2, k3, c0, c1⟩ := HKK.out
        have e := (bcell hb).1
        have zp := lt_of_block HPR.out.pr
        exact ⟨by have := hb.size; omega, by rw [e _ _ zp]; exact k2, by rw [e _ _ zp]; exact k3, by rw [e _ _ zt]; exact c0, by rw [e _ _ zw]; exact c1⟩)
      clear c0 c1 HKK
      go_upto_region 4 with (fail)
      clear k2 k3 z
      refine wp_region_noPanic ?_
      refine wp_region_lexH (fun w' => Below wr.heap.size wr w') (by kernel_rfl) (by kernel_rfl) (fun _ _ _ _ _ h => h) (Below.drew (Below.refl _ _)) ?_
      apply lexH_run (by rfl)
      · (intro w h; clear h; go_simp; try rfl)
      (try simp only [Act.put, List.setIfInBounds_toArray, List.set_cons_zero, List.set_cons_succ])
      apply lexH_run (by rfl)
      · (intro w h; clear h; go_simp; try rfl)
      (try simp only [Act.put, List.setIfInBounds_toArray, List.set_cons_zero, List.set_cons_succ])
      apply lexH_run (by rfl)
      · (intro w h; clear h; go_simp; try rfl)
      (try simp only [Act.put, List.setIfInBounds_toArray, List.set_cons_zero, List.set_cons_succ])
      apply lexH_run (by rfl)
      · (intro w h; have FK := HSF.out w h; clear h; go_split_ands; go_simp; try rfl)
      (try simp only [Act.put, List.setIfInBounds_toArray, List.set_cons_zero, List.set_cons_succ])
      apply lexH_run (by rfl)
      · (intro w h; clear h; go_simp; try rfl)
      (try simp only [Act.put, List.setIfInBounds_toArray, List.set_cons_zero, List.set_cons_succ])
      apply lexH_run (by rfl)
      · (intro w h; clear h; go_simp; try rfl)
      (try simp only [Act.put, List.setIfInBounds_toArray, List.set_cons_zero, List.set_cons_succ])
      apply lexH_run (by rfl)
      · (intro w h; have FK := HSF.out w h; clear h; go_split_ands; go_simp; try rfl)
      (try simp only [Act.put, List.setIfInBounds_toArray, List.set_cons_zero, List.set_cons_succ])
      apply lexH_run (by rfl)
      · (intro w h; clear h; go_simp; try rfl)
      (try simp only [Act.put, List.setIfInBounds_toArray, List.set_cons_zero, List.set_cons_succ])
      apply lexH_run (by rfl)
      · (intro w h; clear h; go_simp; try rfl)
      (try simp only [Act.put, List.setIfInBounds_toArray, List.set_cons_zero, List.set_cons_succ])
      apply lexH_run (by rfl)
      · (intro w h; clear h; go_simp; try rfl)
      (try simp only [Act.put, List.setIfInBounds_toArray, List.set_cons_zero, List.set_cons_succ])
      apply lexH_run (by rfl)
      · (intro w h; have FK := HSF.out w h; clear h; go_split_ands; go_simp; try rfl)
      (try simp only [Act.put, List.setIfInBounds_toArray, List.set_cons_zero, List.set_cons_succ])
      apply lexH_run (by rfl)
      · (intro w h; clear h; go_simp; try rfl)
      (try simp only [Act.put, List.setIfInBounds_toArray, List.set_cons_zero, List.set_cons_succ])
      apply lexH_run (by rfl)
      · (intro w h; clear h; go_simp; try rfl)
      (try simp only [Act.put, List.setIfInBounds_toArray, List.set_cons_zero, List.set_cons_succ])
      apply lexH_run (by rfl)
      · (intro w h; have FK := HSF.out w h; clear h; go_split_ands; go_simp; try rfl)
      (try simp only [Act.put, List.setIfInBounds_toArray, List.set_cons_zero, List.set_cons_succ])
      refine lexH_call (by kernel_rfl) (by rfl) (by go_simp; first | exact ⟨rfl, rfl⟩ | rfl) ?_
      intro hS
      refine (ref_Same_any p1 p2 ex.length ex.length d1 d2 ex ex _ rfl rfl (by omega) (HS1.out.later hS) (HS2.out.later hS)).mono ?_
      rintro e5 w5 ⟨bb, rfl, hbb, hb5⟩
      obtain rfl : bb = true := hbb.2 rfl
      have HB5 := Lib.hid (below_via hb5 hS)
      refine ⟨_, rfl, HB5.out, ?_⟩
      clear hb5 hS hbb
      (try simp only [Act.put, List.setIfInBounds_toArray, List.set_cons_zero, List.set_cons_succ])
      apply lexH_run (by rfl)
      · (intro w h; clear h; go_simp; try rfl)
      (try simp only [Act.put, List.setIfInBounds_toArray, List.set_cons_zero, List.set_cons_succ])
      apply lexH_nil
      refine NoPanic.normal ?_
      have HW5 := Lib.hid (below_via HB5.out HW.out)
      clear HSF HS1 HS2 HB5 HTE HWE HPR HPB
      go_wp2
      go_roundw
      case rel => exact ⟨i + 1, by go_num, by omega, HW5⟩
      case measure => simp [intOf] <;> omega
    · have hii : ¬ (i : Int) < (n : Int) := by omega
      go_upto_region 6 with (fail)
      clear z k0 k1 k2 k3
      have HPD := Lib.hid (HPR.out.later (Below.drew (Below.refl wr.heap.size wr)))
      have hbd : base ≤ wr.drew.heap.size := Nat.le_trans hbw HW.out.size
      have CA := Lib.hid (qapart_any base wr.drew pb s HPD.out (by rw [← HN.out]; exact ht) hbd)
      rw [HTV.out] at CA
      have HS0 := Lib.hid (show wr.drew.heap[pb]? = w.heap[pb]? from HPB.out)
      refine wp_region_noPanic ?_
      refine wp_region_held (S := fun w' => w'.heap[pb]? = w.heap[pb]?) (by kernel_rfl) ?_
      change wpAnyH _ _ _ _ _ 32 (Array.replicate 32 false) _ _
      refine wpAnyH_take (i := 0) (v := ?va0) (by simp only [List.getElem?_toArray, List.getElem?_cons_succ, List.getElem?_cons_zero]; rfl) (by kernel_rfl) (by kernel_rfl) (by kernel_rfl) (fun _ _ _ h => h) (.inl ⟨by rfl, ?ta0⟩) ?sa0 ?_
      case ta0 => (intro w' h; clear h; go_simp; try rfl)
      case sa0 => exact HS0.out
      (try simp only [Act.put, List.setIfInBounds_toArray, List.set_cons_zero, List.set_cons_succ])
      refine wpAnyH_take (i := 1) (v := ?va1) (by simp only [List.getElem?_toArray, List.getElem?_cons_succ, List.getElem?_cons_zero]; rfl) (by kernel_rfl) (by kernel_rfl) (by kernel_rfl) (fun _ _ _ h => h) (.inl ⟨by rfl, ?ta1⟩) ?sa1 ?_
      case ta1 => (intro w' h; clear h; go_simp; try rfl)
      case sa1 => exact HS0.out
      (try simp only [Act.put, List.setIfInBounds_toArray, List.set_cons_zero, List.set_cons_succ])
      refine wpAnyH_take (i := 2) (v := ?va2) (by simp only [List.getElem?_toArray, List.getElem?_cons_succ, List.getElem?_cons_zero]; rfl) (by kernel_rfl) (by kernel_rfl) (by kernel_rfl) (fun _ _ _ h => h) (.inl ⟨by rfl, ?ta2⟩) ?sa2 ?_
      case ta2 => (intro w' h; clear h; go_simp; try rfl)
      case sa2 => exact HS0.out
      (try simp only [Act.put, List.setIfInBounds_toArray, List.set_cons_zero, List.set_cons_succ])
      refine wpAnyH_take (i := 3) (v := ?va3) (by simp only [List.getElem?_toArray, List.getElem?_cons_succ, List.getElem?_cons_zero]; rfl) (by kernel_rfl) (by kernel_rfl) (by kernel_rfl) (fun _ _ _ h => h) (.inl ⟨by rfl, ?ta3⟩) ?sa3 ?_
      case ta3 => (intro w' h; have FK := HSS.out w' h; clear h; go_split_ands; go_simp; try rfl)
      case sa3 => exact HS0.out
      (try simp only [Act.put, List.setIfInBounds_toArray, List.set_cons_zero, List.set_cons_succ])
      refine wpAnyH_one (i := 4) (by kernel_rfl) ?_
      refine wpOp_call (by simp only [List.getElem?_toArray, List.getElem?_cons_succ, List.getElem?_cons_zero]; rfl) (by rfl) (by go_simp; first | exact ⟨rfl, rfl⟩ | rfl) ?_
      refine (CA.out).mono ?_
      rintro e2 w2 ⟨rfl, haf⟩
      have HAF := Lib.hid haf
      have HS2 := Lib.hid (show w2.heap[pb]? = w.heap[pb]? from haf.pr.trans HS0.out)
      clear haf
      refine ⟨_, rfl, HS2.out, ?_⟩
      (try simp only [Act.put, List.setIfInBounds_toArray, List.set_cons_zero, List.set_cons_succ])
      refine wpAnyH_take (i := 5) (v := ?vb5) (by simp only [List.getElem?_toArray, List.getElem?_cons_succ, List.getElem?_cons_zero]; rfl) (by kernel_rfl) (by kernel_rfl) (by kernel_rfl) (fun _ _ _ h => h) (.inl ⟨by rfl, ?tb5⟩) ?sb5 ?_
      case tb5 => (intro w' h; clear h; go_simp; try rfl)
      case sb5 => exact HS2.out
      (try simp only [Act.put, List.setIfInBounds_toArray, List.set_cons_zero, List.set_cons_succ])
      refine wpAnyH_take (i := 6) (v := ?vb6) (by simp only [List.getElem?_toArray, List.getElem?_cons_succ, List.getElem?_cons_zero]; rfl) (by kernel_rfl) (by kernel_rfl) (by kernel_rfl) (fun _ _ _ h => h) (.inl ⟨by rfl, ?tb6⟩) ?sb6 ?_
      case tb6 => (intro w' h; clear h; go_simp; try rfl)
      case sb6 => exact HS2.out
      (try simp only [Act.put, List.setIfInBounds_toArray, List.set_cons_zero, List.set_cons_succ])
      refine wpAnyH_take (i := 7) (v := ?vb7) (by simp only [List.getElem?_toArray, List.getElem?_cons_succ, List.getElem?_cons_zero]; rfl) (by kernel_rfl) (by kernel_rfl) (by kernel_rfl) (fun _ _ _ h => h) (.inl ⟨by rfl, ?tb7⟩) ?sb7 ?_
      case tb7 => (intro w' h; clear h; go_simp; try rfl)
      case sb7 => exact HS2.out
      (try simp only [Act.put, List.setIfInBounds_toArray, List.set_cons_zero, List.set_cons_succ])
      refine wpAnyH_take (i := 8) (v := ?vb8) (by simp only [List.getElem?_toArray, List.getElem?_cons_succ, List.getElem?_cons_zero]; rfl) (by kernel_rfl) (by kernel_rfl) (by kernel_rfl) (fun _ _ _ h => h) (.inl ⟨by rfl, ?tb8⟩) ?sb8 ?_
      case tb8 => (intro w' h; clear h; go_simp; try rfl)
      case sb8 => exact HS2.out
      (try simp only [Act.put, List.setIfInBounds_toArray, List.set_cons_zero, List.set_cons_succ])
      refine wpAnyH_take (i := 9) (v := ?vb9) (by simp only [List.getElem?_toArray, List.getElem?_cons_succ, List.getElem?_cons_zero]; rfl) (by kernel_rfl) (by kernel_rfl) (by kernel_rfl) (fun _ _ _ h => h) (.inl ⟨by rfl, ?tb9⟩) ?sb9 ?_
      case tb9 => (intro w' h; have FK := HSS.out w' h; clear h; go_split_ands; go_simp; try rfl)
      case sb9 => exact HS2.out
      (try simp only [Act.put, List.setIfInBounds_toArray, List.set_cons_zero, List.set_cons_succ])
      refine wpAnyH_take (i := 11) (v := ?vb11) (by simp only [List.getElem?_toArray, List.getElem?_cons_succ, List.getElem?_cons_zero]; rfl) (by kernel_rfl) (by kernel_rfl) (by kernel_rfl) (fun _ _ _ h => h) (.inl ⟨by rfl, ?tb11⟩) ?sb11 ?_
      case tb11 => (intro w' h; clear h; go_simp; try rfl)
      case sb11 => exact HS2.out
      (try simp only [Act.put, List.setIfInBounds_toArray, List.set_cons_zero, List.set_cons_succ])
      refine wpAnyH_take (i := 12) (v := ?vb12) (by simp only [List.getElem?_toArray, List.getElem?_cons_succ, List.getElem?_cons_zero]; rfl) (by kernel_rfl) (by kernel_rfl) (by kernel_rfl) (fun _ _ _ h => h) (.inl ⟨by rfl, ?tb12⟩) ?sb12 ?_
      case tb12 => (intro w' h; clear h; go_simp; try rfl)
      case sb12 => exact HS2.out
      (try simp only [Act.put, List.setIfInBounds_toArray, List.set_cons_zero, List.set_cons_succ])
      refine wpAnyH_take (i := 13) (v := ?vb13) (by simp only [List.getElem?_toArray, List.getElem?_cons_succ, List.getElem?_cons_zero]; rfl) (by kernel_rfl) (by kernel_rfl) (by kernel_rfl) (fun _ _ _ h => h) (.inl ⟨by rfl, ?tb13⟩) ?sb13 ?_
      case tb13 => (intro w' h; clear h; go_simp; try rfl)
      case sb13 => exact HS2.out
      (try simp only [Act.put, List.setIfInBounds_toArray, List.set_cons_zero, List.set_cons_succ])
      refine wpAnyH_take (i := 14) (v := ?vb14) (by simp only [List.getElem?_toArray, List.getElem?_cons_succ, List.getElem?_cons_zero]; rfl) (by kernel_rfl) (by kernel_rfl) (by kernel_rfl) (fun _ _ _ h => h) (.inl ⟨by rfl, ?tb14⟩) ?sb14 ?_
      case tb14 => (intro w' h; have FK := HSS.out w' h; clear h; go_split_ands; go_simp; try rfl)
      case sb14 => exact HS2.out
      (try simp only [Act.put, List.setIfInBounds_toArray, List.set_cons_zero, List.set_cons_succ])
      refine wpAnyH_one (i := 10) (by kernel_rfl) ?_
      refine wpOp_call (by simp only [List.getElem?_toArray, List.getElem?_cons_succ, List.getElem?_cons_zero]; rfl) (by rfl) (by go_simp; first | exact ⟨rfl, rfl⟩ | rfl) ?_
      refine (area_any base w2 s.g s.gv s.bl HAF.out.rg HPD.out.ok).mono ?_
      rintro e3 w3 ⟨rfl, hb3⟩
      have HB3 := Lib.hid hb3
      have HS3 := Lib.hid (show w3.heap[pb]? = w.heap[pb]? from (hb3.block pb (by have h := HS2.out.trans HP.out.pr; exact lt_of_block h)).trans HS2.out)
      clear hb3
      refine ⟨_, rfl, HS3.out, ?_⟩
      (try simp only [Act.put, List.setIfInBounds_toArray, List.set_cons_zero, List.set_cons_succ])
      refine wpAnyH_one (i := 15) (by kernel_rfl) ?_
      refine wpOp_call (by simp only [List.getElem?_toArray, List.getElem?_cons_succ, List.getElem?_cons_zero]; rfl) (by rfl) (by go_simp; first | exact ⟨rfl, rfl⟩ | rfl) ?_
      refine (ref_area_any base w3 s.h s.hv (bdsOf s.bl) (HAF.out.rf.later HB3.out) HPD.out.ok).mono ?_
      rintro e4 w4 ⟨rfl, hb4⟩
      have HB4 := Lib.hid (below_via hb4 HB3.out)
      have HS4 := Lib.hid (show w4.heap[pb]? = w.heap[pb]? from (hb4.block pb (by have h := HS3.out.trans HP.out.pr; exact lt_of_block h)).trans HS3.out)
      clear hb4
      refine ⟨_, rfl, HS4.out, ?_⟩
      (try simp only [Act.put, List.setIfInBounds_toArray, List.set_cons_zero, List.set_cons_succ])
      refine wpAnyH_take (i := 16) (v := ?vc16) (by simp only [List.getElem?_toArray, List.getElem?_cons_succ, List.getElem?_cons_zero]; rfl) (by kernel_rfl) (by kernel_rfl) (by kernel_rfl) (fun _ _ _ h => h) (.inl ⟨by rfl, ?tc16⟩) ?sc16 ?_
      case tc16 => (intro w' h; clear h; go_simp; try rfl)
      case sc16 => exact HS4.out
      (try simp only [Act.put, List.setIfInBounds_toArray, List.set_cons_zero, List.set_cons_succ])
      refine wpAnyH_take (i := 17) (v := ?vc17) (by simp only [List.getElem?_toArray, List.getElem?_cons_succ, List.getElem?_cons_zero]; rfl) (by kernel_rfl) (by kernel_rfl) (by kernel_rfl) (fun _ _ _ h => h) (.inl ⟨by rfl, ?tc17⟩) ?sc17 ?_
      case tc17 => (intro w' h; clear h; go_simp; try rfl)
      case sc17 => exact HS4.out
      (try simp only [Act.put, List.setIfInBounds_toArray, List.set_cons_zero, List.set_cons_succ])
      refine wpAnyH_take (i := 18) (v := ?vc18) (by simp only [List.getElem?_toArray, List.getElem?_cons_succ, List.getElem?_cons_zero]; rfl) (by kernel_rfl) (by kernel_rfl) (by kernel_rfl) (fun _ _ _ h => h) (.inl ⟨by rfl, ?tc18⟩) ?sc18 ?_
      case tc18 => (intro w' h; clear h; go_simp; try rfl)
      case sc18 => exact HS4.out
      (try simp only [Act.put, List.setIfInBounds_toArray, List.set_cons_zero, List.set_cons_succ])
      refine wpAnyH_take (i := 19) (v := ?vc19) (by simp only [List.getElem?_toArray, List.getElem?_cons_succ, List.getElem?_cons_zero]; rfl) (by kernel_rfl) (by kernel_rfl) (by kernel_rfl) (fun _ _ _ h => h) (.inl ⟨by rfl, ?tc19⟩) ?sc19 ?_
      case tc19 => (intro w' h; clear h; go_simp; try rfl)
      case sc19 => exact HS4.out
      (try simp only [Act.put, List.setIfInBounds_toArray, List.set_cons_zero, List.set_cons_succ])
      refine wpAnyH_take (i := 20) (v := ?vc20) (by simp only [List.getElem?_toArray, List.getElem?_cons_succ, List.getElem?_cons_zero]; rfl) (by kernel_rfl) (by kernel_rfl) (by kernel_rfl) (fun _ _ _ h => h) (.inl ⟨by rfl, ?tc20⟩) ?sc20 ?_
      case tc20 => (intro w' h; clear h; go_simp; try rfl)
      case sc20 => exact HS4.out
      (try simp only [Act.put, List.setIfInBounds_toArray, List.set_cons_zero, List.set_cons_succ])
      refine wpAnyH_take (i := 21) (v := ?vc21) (by simp only [List.getElem?_toArray, List.getElem?_cons_succ, List.getElem?_cons_zero]; rfl) (by kernel_rfl) (by kernel_rfl) (by kernel_rfl) (fun _ _ _ h => h) (.inl ⟨by rfl, ?tc21⟩) ?sc21 ?_
      case tc21 => (intro w' h; clear h; go_simp; try rfl)
      case sc21 => exact HS4.out
      (try simp only [Act.put, List.setIfInBounds_toArray, List.set_cons_zero, List.set_cons_succ])
      refine wpAnyH_take (i := 22) (v := ?vc22) (by simp only [List.getElem?_toArray, List.getElem?_cons_succ, List.getElem?_cons_zero]; rfl) (by kernel_rfl) (by kernel_rfl) (by kernel_rfl) (fun _ _ _ h => h) (.inl ⟨by rfl, ?tc22⟩) ?sc22 ?_
      case tc22 => (intro w' h; have FK := HSS.out w' h; clear h; go_split_ands; go_simp; try rfl)
      case sc22 => exact HS4.out
      (try simp only [Act.put, List.setIfInBounds_toArray, List.set_cons_zero, List.set_cons_succ])
      refine wpAnyH_take (i := 24) (v := ?vc24) (by simp only [List.getElem?_toArray, List.getElem?_cons_succ, List.getElem?_cons_zero]; rfl) (by kernel_rfl) (by kernel_rfl) (by kernel_rfl) (fun _ _ _ h => h) (.inl ⟨by rfl, ?tc24⟩) ?sc24 ?_
      case tc24 => (intro w' h; clear h; go_simp; try rfl)
      case sc24 => exact HS4.out
      (try simp only [Act.put, List.setIfInBounds_toArray, List.set_cons_zero, List.set_cons_succ])
      refine wpAnyH_take (i := 25) (v := ?vc25) (by simp only [List.getElem?_toArray, List.getElem?_cons_succ, List.getElem?_cons_zero]; rfl) (by kernel_rfl) (by kernel_rfl) (by kernel_rfl) (fun _ _ _ h => h) (.inl ⟨by rfl, ?tc25⟩) ?sc25 ?_
      case tc25 => (intro w' h; clear h; go_simp; try rfl)
      case sc25 => exact HS4.out
      (try simp only [Act.put, List.setIfInBounds_toArray, List.set_cons_zero, List.set_cons_succ])
      refine wpAnyH_take (i := 26) (v := ?vc26) (by simp only [List.getElem?_toArray, List.getElem?_cons_succ, List.getElem?_cons_zero]; rfl) (by kernel_rfl) (by kernel_rfl) (by kernel_rfl) (fun _ _ _ h => h) (.inl ⟨by rfl, ?tc26⟩) ?sc26 ?_
      case tc26 => (intro w' h; clear h; go_simp; try rfl)
      case sc26 => exact HS4.out
      (try simp only [Act.put, List.setIfInBounds_toArray, List.set_cons_zero, List.set_cons_succ])
      refine wpAnyH_take (i := 27) (v := ?vc27) (by simp only [List.getElem?_toArray, List.getElem?_cons_succ, List.getElem?_cons_zero]; rfl) (by kernel_rfl) (by kernel_rfl) (by kernel_rfl) (fun _ _ _ h => h) (.inl ⟨by rfl, ?tc27⟩) ?sc27 ?_
      case tc27 => (intro w' h; have FK := HSS.out w' h; clear h; go_split_ands; go_simp; try rfl)
      case sc27 => exact HS4.out
      (try simp only [Act.put, List.setIfInBounds_toArray, List.set_cons_zero, List.set_cons_succ])
      refine wpAnyH_one (i := 23) (by kernel_rfl) ?_
      refine wpOp_call (by simp only [List.getElem?_toArray, List.getElem?_cons_succ, List.getElem?_cons_zero]; rfl) (by rfl) (by go_simp; first | exact ⟨rfl, rfl⟩ | rfl) ?_
      refine (rects_any base w4 s.g s.gv s.bl (HAF.out.rg.later HB4.out) HPD.out.ok).mono ?_
      rintro e5 w5 ⟨v5, rfl, own5, hb5⟩
      have HB5 := Lib.hid (below_via hb5 HB4.out)
      have HS5 := Lib.hid (show w5.heap[pb]? = w.heap[pb]? from (hb5.block pb (by have h := HS4.out.trans HP.out.pr; exact lt_of_block h)).trans HS4.out)
      obtain ⟨p5, c5, hv5, _, sl5, _, _⟩ := own_sl own5 rfl
      subst hv5
      have HL5 := Lib.hid sl5
      clear own5 sl5 hb5
      refine ⟨_, rfl, HS5.out, ?_⟩
      (try simp only [Act.put, List.setIfInBounds_toArray, List.set_cons_zero, List.set_cons_succ])
      refine wpAnyH_one (i := 28) (by kernel_rfl) ?_
      refine wpOp_call (by simp only [List.getElem?_toArray, List.getElem?_cons_succ, List.getElem?_cons_zero]; rfl) (by rfl) (by go_simp; first | exact ⟨rfl, rfl⟩ | rfl) ?_
      refine (ref_rects_any base w5 s.h s.hv (bdsOf s.bl) (HAF.out.rf.later HB5.out) HPD.out.ok).mono ?_
      rintro e6 w6 ⟨v6, rfl, own6, hb6⟩
      have HB6 := Lib.hid (below_via hb6 HB5.out)
      have HS6 := Lib.hid (show w6.heap[pb]? = w.heap[pb]? from (hb6.block pb (by have h := HS5.out.trans HP.out.pr; exact lt_of_block h)).trans HS5.out)
      obtain ⟨p6, c6, hv6, _, sl6, _, _⟩ := own_sl own6 rfl
      subst hv6
      have HL6 := Lib.hid sl6
      have HL56 := Lib.hid (HL5.out.later hb6)
      have hfew : (rctsB (bdsOf s.bl)).length ≤ 1024 := by rw [rctsB_len]; exact HPD.out.ok.few
      clear own6 sl6 hb6
      refine ⟨_, rfl, HS6.out, ?_⟩
      (try simp only [Act.put, List.setIfInBounds_toArray, List.set_cons_zero, List.set_cons_succ])
      refine wpAnyH_one (i := 29) (by kernel_rfl) ?_
      refine wpOp_call (by simp only [List.getElem?_toArray, List.getElem?_cons_succ, List.getElem?_cons_zero]; rfl) (by rfl) (by go_simp; first | exact ⟨rfl, rfl⟩ | rfl) ?_
      refine (ref_Same_any p5 p6 _ _ c5 c6 (rctsB (bdsOf s.bl)) (rctsB (bdsOf s.bl)) w6 rfl rfl (by omega) HL56.out HL6.out).mono ?_
      rintro e7 w7 ⟨bb, rfl, hbb, hb7⟩
      obtain rfl : bb = true := hbb.2 rfl
      have HB7 := Lib.hid (below_via hb7 HB6.out)
      have HS7 := Lib.hid (show w7.heap[pb]? = w.heap[pb]? from (hb7.block pb (by have h := HS6.out.trans HP.out.pr; exact lt_of_block h)).trans HS6.out)
      clear hb7 hbb
      refine ⟨_, rfl, HS7.out, ?_⟩
      (try simp only [Act.put, List.setIfInBounds_toArray, List.set_cons_zero, List.set_cons_succ])
      refine wpAnyH_take (i := 30) (v := ?vd30) (by simp only [List.getElem?_toArray, List.getElem?_cons_succ, List.getElem?_cons_zero]; rfl) (by kernel_rfl) (by kernel_rfl) (by kernel_rfl) (fun _ _ _ h => h) (.inl ⟨by rfl, ?td30⟩) ?sd30 ?_
      case td30 => (intro w' h; clear h; go_simp; try rfl)
      case sd30 => exact HS7.out
      (try simp only [Act.put, List.setIfInBounds_toArray, List.set_cons_zero, List.set_cons_succ])
      refine wpAnyH_take (i := 31) (v := ?vd31) (by simp only [List.getElem?_toArray, List.getElem?_cons_succ, List.getElem?_cons_zero]; rfl) (by kernel_rfl) (by kernel_rfl) (by kernel_rfl) (fun _ _ _ h => h) (.inl ⟨by rfl, ?td31⟩) ?sd31 ?_
      case td31 => (intro w' h; clear h; go_simp; try rfl)
      case sd31 => exact HS7.out
      (try simp only [Act.put, List.setIfInBounds_toArray, List.set_cons_zero, List.set_cons_succ])
      refine wpAnyH_done (by kernel_rfl) (NoPanic.normal ?_) _
      have HZ := Lib.hid (show Chg w w7 (SQ pb s) from ((Chg.of_below (HW.out.trans (Below.drew (Below.refl _ _))) (SQ pb s)).trans HAF.out.ch (fun k hk => .inl hk)).trans (Chg.of_below HB7.out (SQ pb s)) (fun k hk => .inl hk))
      clear HSS HS0 HS2 HS3 HS4 HS5 HS6 HS7 HB3 HB4 HB5 HB6 HB7 HAF HL5 HL6 HL56 CA HPD HPR HPB
      go_wp2
      go_ret
      exact ⟨rfl, HZ.out⟩
end Go.Proofs.Ytekcheccelllcaa
namespace Go.Proofs.Ytekcheccelllcaa
open Go.RowKit
set_option linter.unusedVariables false
set_option linter.unusedSimpArgs false

theorem RegAt.baseG {base base' : Nat} {w : World} {g : Nat} {v : Value} {l : List BV} (h : RegAt base w g v l) (hb : base' ≤ base) : RegAt base' w g v l :=
  ⟨h.pr, ⟨row_baseG h.bn.row hb, fun e he => row_baseG (h.bn.en e he) hb⟩, Nat.le_trans hb h.bg⟩
theorem RfAt.baseG {base base' : Nat} {w : World} {g : Nat} {v : Value} {L : List R4} (h : RfAt base w g v L) (hb : base' ≤ base) : RfAt base' w g v L := ⟨h.pr, row_baseG h.own hb, Nat.le_trans hb h.bh⟩
theorem sl_src {w : World} {p : Option Addr} {n : Nat} {L : List R4} (h : SlAt w p L) (hn : n = L.length) : Src w p n 4 (cellsR L) := by
  refine ⟨by rw [hn, cellsR_len], fun h0 => ?_⟩
  obtain ⟨b, off, e, hb, hr⟩ := h (by omega)
  refine ⟨b, off, e, hb, fun j u hu => ?_⟩
  have hj : j < (cellsR L).length := (List.getElem?_eq_some_iff.1 hu).1
  rw [cellsR_len] at hj
  obtain ⟨i, r, hr2, rfl⟩ : ∃ i r, r < 4 ∧ j = i * 4 + r := ⟨j / 4, j % 4, Nat.mod_lt _ (by decide), by omega⟩
  obtain ⟨d0, d1, d2, d3⟩ := cellsR_at L i (by omega)
  obtain ⟨c0, c1, c2, c3⟩ := hr i (by omega)
  match r, hr2 with
  | 0, _ => rw [Nat.add_zero, d0] at hu; rw [← Nat.add_assoc, Nat.add_zero, c0]; exact hu
  | 1, _ => rw [d1] at hu; rw [← Nat.add_assoc, c1]; exact hu
  | 2, _ => rw [d2] at hu; rw [← Nat.add_assoc, c2]; exact hu
  | 3, _ => rw [d3] at hu; rw [← Nat.add_assoc, c3]; exact hu
/-- what begun tells -/
def BegunQ (w : World) (e : Ending) (w' : World) : Prop :=
  (e = .returned (.tuple #[.pointer none, .bool true]) ∧ Below w.heap.size w w') ∨
  ∃ (pb : Nat) (s : PrS), e = .returned (.tuple #[.pointer (some ⟨pb, 0, none⟩), .bool true]) ∧ PqAt w.heap.size w' pb s ∧ s.told = [] ∧ Below w.heap.size w w'
set_option maxRecDepth 100000 in
set_option maxHeartbeats 16000000 in
theorem begunq_any (p : Option Addr) (n c : Nat) (L : List R4) (w : World) (hL : L.length = n) (hlen : n ≤ 4398046511103) (hp : SlAt w p L) (hr : ∀ r ∈ L, isR r) : Calls Try.prog 42 #[.slice p n c] w fun e w' => BegunQ w e w' := by
  have HL := Lib.hid hL
  have HP := Lib.hid hp
  have HRR := Lib.hid hr
  obtain ⟨j0, hi0, hz0, hz1, hz2⟩ := info_parts infoRect8
  have HJ0 := Lib.hid (And.intro hi0 (And.intro hz0 (And.intro hz1 hz2)))
  clear hi0 hz0 hz1 hz2
  have HSR := Lib.hid (sl_src hp hL.symm)
  clear hp hr hL
  go_enter Try.func42, Try.ntmps42
  go_wp2_with (at_builtin; go_must (refine wpList_append_src _ rfl (.tmp 11) (.tmp 12) 26 rfl w.heap.size 23 j0 _ 4 32 Try.underlying26 HJ0.out.1 HJ0.out.2.1 HJ0.out.2.2.1 HJ0.out.2.2.2 rfl (by decide) _ 0 [] rfl (World.ownsRow_nil w w.heap.size 23 4) p n c _ rfl HSR.out ?r1 ?r2 ?r3 ?r4 ?_))
  (try case r1 => (intro u hu; obtain ⟨q, _, hq⟩ := List.mem_flatMap.1 hu; simp at hq; rcases hq with rfl | rfl | rfl | rfl <;> rfl))
  (try case r2 => unfold maxLen; omega)
  (try case r3 => omega)
  (try case r4 => exact Nat.le_refl _)
  intro v2 w2 own2 gr2 _
  have HB2 := Lib.hid (show Below w.heap.size w w2 from ⟨gr2.os, gr2.tape, gr2.output, gr2.size, fun k hk => gr2.block k hk (by simp [Value.ownBlock])⟩)
  have HO2 := Lib.hid (show w2.ownsRow w.heap.size 23 4 v2 n (cellsR L) from by have := own2; (try simp only [Nat.zero_add, List.nil_append] at this); exact this)
  clear own2 gr2
  have hz2 := HB2.out.size
  have HO2A := Lib.hid (row_later HO2.out (below_al (Below.refl w2.heap.size w2) (.cells #[.int .i64 (-71), .int .i64 0, .int .i64 1, .int .i64 1] 23)))
  go_wp2_with (at_builtin; go_must (refine append_keep rfl (.tmp 14) (.tmp 16) 26 rfl w.heap.size 23 j0 (.agg #[.int .i64 0, .int .i64 0, .int .i64 0, .int .i64 0]) 4 32 Try.underlying26 HJ0.out.1 HJ0.out.2.1 HJ0.out.2.2.1 HJ0.out.2.2.2 rfl (by decide) _ n _ rfl HO2A.out ⟨w2.heap.size, 0, none⟩ 1 1 [.int .i64 (-71), .int .i64 0, .int .i64 1, .int .i64 1] rfl rfl ?e0 ?e1 ?e2 ?e3 ?e4 ?_))
  (try case e0 => exact World.news_of_block (cs := #[.int .i64 (-71), .int .i64 0, .int .i64 1, .int .i64 1]) (t := 23) (fr := (0, 0)) (heap_alloc_new _ _))
  (try case e1 => (intro u hu; simp at hu; rcases hu with rfl | rfl | rfl | rfl <;> rfl))
  (try case e2 => unfold maxLen; omega)
  (try case e3 => omega)
  (try case e4 => first | omega | (simp; omega))
  intro v3 w3 own3 gr3 _
  obtain ⟨LF, hLF⟩ : ∃ q, q = L ++ [⟨-71, 0, 1, 1⟩] := ⟨_, rfl⟩
  have HLF := Lib.hid (show LF.length = n + 1 from by rw [hLF, List.length_append, HL.out]; rfl)
  have hown3 : w3.ownsRow w.heap.size 23 4 v3 (n + 1) (cellsR LF) := by rw [hLF, cellsR_append]; exact own3
  obtain ⟨gf, cf, rfl⟩ : ∃ g c, v3 = .slice (some ⟨g, 0, none⟩) (n + 1) c := by
    rcases row_form hown3 with ⟨_, h, _⟩ | ⟨g, c, h, _⟩
    · omega
    · exact ⟨g, c, h⟩
  have hcf : n + 1 ≤ cf := by
    rcases row_form hown3 with ⟨_, h, _⟩ | ⟨g, c, h, hc, _⟩
    · omega
    · injection h with _ _ h3; rw [h3]; exact hc
  have HOF := Lib.hid hown3
  have HB3 := Lib.hid (show Below w.heap.size w w3 from Below.grown (below_al HB2.out _) gr3 (by simp; omega) (fun q hq => (row_lt HO2A.out q hq).2))
  have hgf := row_lt hown3 gf rfl
  have HGF := Lib.hid hgf
  have HSK := Lib.hid (show SlAt w3 (some ⟨gf, 0, none⟩) L from fun h0 => ⟨gf, 0, rfl, hgf.1, fun i hi => by
    obtain ⟨d0, d1, d2, d3⟩ := cellsR_at LF i (by rw [HLF.out]; have := HL.out; omega)
    have e : LF.getD i zR = L.getD i zR := by rw [hLF, List.getD_eq_getElem?_getD, List.getD_eq_getElem?_getD, List.getElem?_append_left hi]
    rw [e] at d0 d1 d2 d3
    have q0 := row_cells HOF.out _ _ d0
    have q1 := row_cells HOF.out _ _ d1
    have q2 := row_cells HOF.out _ _ d2
    have q3 := row_cells HOF.out _ _ d3
    simp only [Nat.zero_add] at q0 q1 q2 q3 ⊢
    exact ⟨q0, q1, q2, q3⟩⟩)
  have HX71 := Lib.hid (show w3.cell? ⟨gf, n * 4, none⟩ = some (.int .i64 (-71)) from by
    obtain ⟨d0, _⟩ := cellsR_at LF n (by rw [HLF.out]; omega)
    have e : LF.getD n zR = ⟨-71, 0, 1, 1⟩ := by rw [hLF, List.getD_eq_getElem?_getD, List.getElem?_append_right (by rw [HL.out]; exact Nat.le_refl _), HL.out]; simp
    rw [e] at d0
    have q0 := row_cells HOF.out _ _ d0
    rw [Nat.zero_add] at q0
    exact q0)
  clear own3 gr3 hLF hown3 hgf HO2A HO2
  have hnc : (n : Int) ≤ (cf : Int) := by omega
  go_wp2_with fail
  refine (new_any (some ⟨gf, 0, none⟩) n cf L w3 HL.out (by omega) HSK.out HRR.out).mono ?_
  intro e w4 hn4
  obtain ⟨hb4, hn4⟩ := hn4
  have HB4 := Lib.hid hb4
  cases hq : newB L with
  | none =>
    rw [hq] at hn4
    have hn4 : e = .returned (.tuple #[.pointer none, .int .i64 4]) := hn4
    subst hn4
    go_wp2_with fail
    refine (ref_new_any p n c L w4 HL.out (by omega) (HP.out.later (below_via HB4.out HB3.out)) HRR.out).mono ?_
    intro e w5 hn5
    obtain ⟨hb5, hn5⟩ := hn5
    have HB5 := Lib.hid hb5
    rw [hq] at hn5
    have hn5 : e = .returned (.tuple #[.pointer none, .int .i64 4]) := hn5
    subst hn5
    clear hb4 hb5
    have HB53 := Lib.hid (below_via HB5.out HB4.out)
    have HK5 := Lib.hid (HSK.out.later HB53.out)
    have HP5 := Lib.hid (HP.out.later (below_via HB53.out HB3.out))
    go_wp2_with fail
    refine (ref_Same_any (some ⟨gf, 0, none⟩) p n n cf c L L w5 HL.out HL.out (by omega) HK5.out HP5.out).mono ?_
    rintro e w6 ⟨bb, rfl, hbb, hb6⟩
    obtain rfl : bb = true := hbb.2 rfl
    have HB6 := Lib.hid hb6
    have HB63 := Lib.hid (below_via hb6 HB53.out)
    have zf : gf < w6.heap.size := by have := HGF.out.1; have := HB63.out.size; omega
    have x7 : w6.cell? ⟨gf, n * 4, none⟩ = some (.int .i64 (-71)) := by rw [(bcell HB63.out).1 _ _ HGF.out.1]; exact HX71.out
    have hnn : (n : Int) < ((n + 1 : Nat) : Int) := by omega
    have hnn2 : (n : Int) < (n : Int) + 1 := by omega
    have HOF6 := Lib.hid (row_later HOF.out HB63.out)
    clear hb6 hbb
    go_wp2
    go_loopw [10] (fun iv wr => ∃ (i : Nat) (M : List R4), iv = .int .i64 i ∧ i ≤ n ∧ M.length = n + 1 ∧ RowKit.Hid (wr.ownsRow w.heap.size 23 4 (.slice (some ⟨gf, 0, none⟩) (n + 1) cf) (n + 1) (cellsR M)) ∧ RowKit.Hid (Chg w6 wr (fun k => k = gf))) (fun iv _ => n - (intOf iv).toNat)
    case atStart => exact ⟨0, LF, rfl, Nat.zero_le _, HLF.out, HOF6, Lib.hid (Chg.refl _ _)⟩
    case round =>
      clear HOF6
      obtain ⟨i, M, rfl, hi, hml, HO, HC⟩ := hrel
      by_cases hlt : i < n
      · have hii : (i : Int) < (n : Int) := by omega
        have f0 := HO.out.frozenAt (i * 4)
        have f1 := HO.out.frozenAt (i * 4 + 1)
        have f2 := HO.out.frozenAt (i * 4 + 2)
        have f3 := HO.out.frozenAt (i * 4 + 3)
        obtain ⟨d0, d1, d2, d3⟩ := cellsR_at M i (by omega)
        have c0 := row_cells HO.out _ _ d0
        have c1 := row_cells HO.out _ _ d1
        have c2 := row_cells HO.out _ _ d2
        have c3 := row_cells HO.out _ _ d3
        rw [Nat.zero_add] at c0 c1 c2 c3
        clear d0 d1 d2 d3
        have zg := (row_lt HO.out gf rfl).1
        go_wp2
        go_roundw
        case rel =>
          obtain ⟨x1, e1, ow, gr, sz⟩ := own_set4 HO.out i ⟨9, 9, 9, 9⟩ (by omega)
          try rw [← e1]
          exact ⟨i + 1, _, by go_num, by omega, by rw [List.length_set]; exact hml, Lib.hid ow, Lib.hid (HC.out.trans (Chg.of_grown gr (S := fun k => some gf = some k) (fun k hk => .inl hk)) (fun k hk => .inl (by injection hk with hk; exact hk.symm)))⟩
        case measure => simp [intOf] <;> omega
      · have hii : ¬ (i : Int) < (n : Int) := by omega
        have HWR := Lib.hid (show Below w.heap.size w wr from (below_via HB63.out HB3.out).trans (HC.out.under (fun k hk => by rw [hk]; exact HGF.out.2) (below_via HB63.out HB3.out).size))
        clear HO HC
        go_wp2
        go_ret2
        exact .inl ⟨rfl, HWR.out⟩
  | some bs =>
    rw [hq] at hn4
    obtain ⟨g, gv, l, he4, hrg, hbd⟩ := hn4
    subst he4
    have HRG := Lib.hid hrg
    have HBD := Lib.hid hbd
    clear hrg hbd
    go_wp2_with fail
    refine (ref_new_any p n c L w4 HL.out (by omega) (HP.out.later (below_via HB4.out HB3.out)) HRR.out).mono ?_
    intro e w5 hn5
    obtain ⟨hb5, hn5⟩ := hn5
    have HB5 := Lib.hid hb5
    rw [hq] at hn5
    obtain ⟨h, hv, he5, hrf⟩ := hn5
    subst he5
    have HRF := Lib.hid hrf
    clear hrf
    clear hb4 hb5
    have HB53 := Lib.hid (below_via HB5.out HB4.out)
    have HK5 := Lib.hid (HSK.out.later HB53.out)
    have HP5 := Lib.hid (HP.out.later (below_via HB53.out HB3.out))
    go_wp2_with fail
    refine (ref_Same_any (some ⟨gf, 0, none⟩) p n n cf c L L w5 HL.out HL.out (by omega) HK5.out HP5.out).mono ?_
    rintro e w6 ⟨bb, rfl, hbb, hb6⟩
    obtain rfl : bb = true := hbb.2 rfl
    have HB6 := Lib.hid hb6
    have HB63 := Lib.hid (below_via hb6 HB53.out)
    have zf : gf < w6.heap.size := by have := HGF.out.1; have := HB63.out.size; omega
    have x7 : w6.cell? ⟨gf, n * 4, none⟩ = some (.int .i64 (-71)) := by rw [(bcell HB63.out).1 _ _ HGF.out.1]; exact HX71.out
    have hnn : (n : Int) < ((n + 1 : Nat) : Int) := by omega
    have hnn2 : (n : Int) < (n : Int) + 1 := by omega
    have HOF6 := Lib.hid (row_later HOF.out HB63.out)
    clear hb6 hbb
    go_wp2
    go_loopw [10] (fun iv wr => ∃ (i : Nat) (M : List R4), iv = .int .i64 i ∧ i ≤ n ∧ M.length = n + 1 ∧ RowKit.Hid (wr.ownsRow w.heap.size 23 4 (.slice (some ⟨gf, 0, none⟩) (n + 1) cf) (n + 1) (cellsR M)) ∧ RowKit.Hid (Chg w6 wr (fun k => k = gf))) (fun iv _ => n - (intOf iv).toNat)
    case atStart => exact ⟨0, LF, rfl, Nat.zero_le _, HLF.out, HOF6, Lib.hid (Chg.refl _ _)⟩
    case round =>
      clear HOF6
      obtain ⟨i, M, rfl, hi, hml, HO, HC⟩ := hrel
      by_cases hlt : i < n
      · have hii : (i : Int) < (n : Int) := by omega
        have f0 := HO.out.frozenAt (i * 4)
        have f1 := HO.out.frozenAt (i * 4 + 1)
        have f2 := HO.out.frozenAt (i * 4 + 2)
        have f3 := HO.out.frozenAt (i * 4 + 3)
        obtain ⟨d0, d1, d2, d3⟩ := cellsR_at M i (by omega)
        have c0 := row_cells HO.out _ _ d0
        have c1 := row_cells HO.out _ _ d1
        have c2 := row_cells HO.out _ _ d2
        have c3 := row_cells HO.out _ _ d3
        rw [Nat.zero_add] at c0 c1 c2 c3
        clear d0 d1 d2 d3
        have zg := (row_lt HO.out gf rfl).1
        go_wp2
        go_roundw
        case rel =>
          obtain ⟨x1, e1, ow, gr, sz⟩ := own_set4 HO.out i ⟨9, 9, 9, 9⟩ (by omega)
          try rw [← e1]
          exact ⟨i + 1, _, by go_num, by omega, by rw [List.length_set]; exact hml, Lib.hid ow, Lib.hid (HC.out.trans (Chg.of_grown gr (S := fun k => some gf = some k) (fun k hk => .inl hk)) (fun k hk => .inl (by injection hk with hk; exact hk.symm)))⟩
        case measure => simp [intOf] <;> omega
      · have hii : ¬ (i : Int) < (n : Int) := by omega
        have HWR := Lib.hid (show Below w.heap.size w wr from (below_via HB63.out HB3.out).trans (HC.out.under (fun k hk => by rw [hk]; exact HGF.out.2) (below_via HB63.out HB3.out).size))
        have hz3 := HB3.out.size
        have hz4 := HB4.out.size
        have hgf2 := HGF.out.1
        have HRG6 := Lib.hid (((HRG.out.later HB5.out).later HB6.out).other HC.out (fun k hk e => by have := (HRG.out.lt k hk).2; have e : k = gf := e; omega))
        have HRF6 := Lib.hid ((HRF.out.later HB6.out).keep fun k hk => HC.out.block k ((HRF.out.later HB6.out).lt k hk).1 (fun e => by have := (HRF.out.lt k hk).2; have e : k = gf := e; omega))
        have HOKL := Lib.hid (newB_some hq).ok
        clear HO HC x7
        go_wp2
        go_ret2
        have hba : Below wr.heap.size wr (wr.alloc (.cells #[.pointer (some ⟨g, 0, none⟩), .pointer (some ⟨h, 0, none⟩), .slice none 0 0, .slice none 0 0] 91)) := below_al (Below.refl _ _) _
        refine .inr ⟨wr.heap.size, ⟨g, h, gv, hv, .slice none 0 0, .slice none 0 0, l, []⟩, rfl, ?_, rfl, below_via hba HWR.out⟩
        have hrr : rctsB (bdsOf l) = rctsB bs := by rw [HBD.out]
        exact ⟨heap_alloc_new _ _, (HRG6.out.later hba).baseG (by omega), by show RegOk (bdsOf l); rw [HBD.out]; exact HOKL.out, by have := (HRF6.out.later hba).baseG (base' := w.heap.size) (by omega); rw [← hrr] at this; exact this, ⟨rfl, .inl ⟨rfl, rfl⟩⟩, ⟨rfl, .inl ⟨rfl, rfl⟩⟩, fun e he => (by cases he), fun e he => (by cases he), List.Pairwise.nil, fun e he => (by cases he), .inl rfl, fun e he => (by cases he), HWR.out.size⟩
end Go.Proofs.Ytekcheccelllcaa
