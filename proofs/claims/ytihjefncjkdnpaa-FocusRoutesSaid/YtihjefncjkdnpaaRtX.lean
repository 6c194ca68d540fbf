/- RtX: RtP RtA RtB RtC RtD RtE RtF in one text. -/
import Derived.Test.YtihjefncjkdnpaaRoZ
import Derived.Test.YtihjefncjkdnpaaKep
import Derived.Test.YtihjefncjkdnpaaAppK
import Derived.Test.YtihjefncjkdnpaaAnyZ
namespace Go.Proofs.Ytihjefncjkdnpaa
open Go.RowKit Go.Deep
set_option linter.unusedVariables false
set_option linter.unusedSimpArgs false

/-- a step of the script -/
structure Stp where
  do_ : Int
  n : Int
  more : Int
  yes : Bool
  puts : Bool
  e : Int
def zStp : Stp := ⟨0, 0, 0, false, false, 0⟩
/-- On: the takers and the answer -/
def onR (N : Nat) (R : List (Int × Nat)) (n : Int) (num : Nat) : List (Int × Nat) := if n < 0 ∨ (N : Int) ≤ n ∨ 4096 ≤ R.length then R else R ++ [(n, num)]
def onE (N : Nat) (R : List (Int × Nat)) (n : Int) : Int := if n < 0 ∨ (N : Int) ≤ n then 2 else if 4096 ≤ R.length then 4 else 0
theorem onR_len (N : Nat) {R : List (Int × Nat)} (n : Int) (num : Nat) (h : R.length ≤ 4096) : (onR N R n num).length ≤ 4096 := by
  unfold onR
  split
  · exact h
  · rw [List.length_append]; simp; omega
/-- the numbers at a node -/
def ofN (R : List (Int × Nat)) (k : Int) : List (Int × Nat) := R.filter fun x => decide (x.1 = k)
def numsOf (R : List (Int × Nat)) (k : Int) : List Nat := (ofN R k).map Prod.snd
theorem numsOf_add (R : List (Int × Nat)) (n : Int) (num : Nat) (k : Int) : numsOf (R ++ [(n, num)]) k = if k = n then numsOf R k ++ [num] else numsOf R k := by
  unfold numsOf ofN
  rw [List.filter_append]
  by_cases h : k = n
  · subst h; simp
  · rw [if_neg h, List.filter_cons_of_neg (by simp; exact fun e => h e.symm)]; simp
theorem numsOf_len (R : List (Int × Nat)) (k : Int) : (numsOf R k).length ≤ R.length := by
  unfold numsOf ofN
  rw [List.length_map]
  exact List.length_filter_le _ _
theorem mem_numsOf {R : List (Int × Nat)} {k : Int} {x : Nat} (h : x ∈ numsOf R k) : ∃ y ∈ R, y.2 = x := by
  unfold numsOf ofN at h
  obtain ⟨y, h1, h2⟩ := List.mem_map.1 h
  exact ⟨y, (List.mem_filter.1 h1).1, h2⟩
section
variable (N : Nat) (dl : List Stp)
/-- a taker's call: the router's takers, who was called; the answer -/
def takeS (g : List (Int × Nat) × List Nat) (num : Nat) : (List (Int × Nat) × List Nat) × Bool :=
  ((if (dl.getD num zStp).puts then onR N g.1 (dl.getD num zStp).more (num + 1) else g.1, g.2 ++ [num]), (dl.getD num zStp).yes)
def sentR : List (Int × Nat) × List Nat → List (Int × Nat) → (List (Int × Nat) × List Nat) × Int
  | g, [] => (g, -1)
  | g, (k, num) :: l => if (takeS N dl g num).2 = true then ((takeS N dl g num).1, k) else sentR (takeS N dl g num).1 l
theorem sentR_at (nm : Value → Nat) (k : Int) (l' : List (Int × Nat)) : ∀ (l : List (Int × Nat)) (vs : List Value) (g : List (Int × Nat) × List Nat), vs.map nm = l.map Prod.snd → (∀ x ∈ l, x.1 = k) →
    sentR N dl g (l ++ l') = if (callL (fun g v => takeS N dl g (nm v)) g vs).2 = true then ((callL (fun g v => takeS N dl g (nm v)) g vs).1, k) else sentR N dl (callL (fun g v => takeS N dl g (nm v)) g vs).1 l'
  | [], [], g, _, _ => by simp [callL]
  | [], _ :: _, _, h, _ => by cases h
  | _ :: _, [], _, h, _ => by cases h
  | (k1, num) :: l, v :: vs, g, h, hk => by
    simp only [List.map_cons, List.cons.injEq] at h
    obtain ⟨h1, h2⟩ := h
    have e : k1 = k := hk _ (List.mem_cons_self ..)
    subst e
    rw [List.cons_append, sentR, callL]
    simp only [h1]
    by_cases hy : (takeS N dl g num).2 = true
    · rw [if_pos hy, if_pos hy]; simp
    · rw [if_neg hy, if_neg hy]
      exact sentR_at nm k1 l' l vs _ h2 fun x hx => hk x (List.mem_cons_of_mem _ hx)
/-- the program's Send is the document's way -/
theorem send_sent (nm : Value → Nat) (R : List (Int × Nat)) (ts : Int → List Value) (hts : ∀ k, (ts k).map nm = numsOf R k) : ∀ (ks : List Int) (g : List (Int × Nat) × List Nat), sendS (fun g v => takeS N dl g (nm v)) ts g ks = sentR N dl g (ks.flatMap fun k => ofN R k)
  | [], g => rfl
  | k :: ks, g => by
    rw [List.flatMap_cons, sendS, sentR_at N dl nm k _ (ofN R k) (ts k) g (hts k) (fun x hx => by simpa using (List.mem_filter.1 hx).2)]
    split
    · rfl
    · exact send_sent nm R ts hts ks _
theorem takeS_len {g : List (Int × Nat) × List Nat} (num : Nat) (h : g.1.length ≤ 4096) : (takeS N dl g num).1.1.length ≤ 4096 := by
  unfold takeS
  simp only
  split
  · exact onR_len _ _ _ h
  · exact h
theorem sentR_len : ∀ (l : List (Int × Nat)) (g : List (Int × Nat) × List Nat), g.1.length ≤ 4096 → (sentR N dl g l).1.1.length ≤ 4096 ∧ (sentR N dl g l).1.2.length ≤ g.2.length + l.length
  | [], g, h => ⟨h, by rw [sentR]; simp⟩
  | (k, num) :: l, g, h => by
    have h1 := takeS_len N dl num h
    have h2 : (takeS N dl g num).1.2.length = g.2.length + 1 := by unfold takeS; simp
    rw [sentR]
    split
    · exact ⟨h1, by rw [List.length_cons]; simp only; omega⟩
    · have := sentR_len l _ h1
      rw [List.length_cons]
      exact ⟨this.1, by omega⟩
end
end Go.Proofs.Ytihjefncjkdnpaa
namespace Go.Proofs.Ytihjefncjkdnpaa
open Go.RowKit Go.Deep
set_option linter.unusedVariables false
set_option linter.unusedSimpArgs false

set_option maxRecDepth 100000 in
set_option maxHeartbeats 4000000 in
/-- a nil router -/
theorem On_nil (n : Int) (v : Value) (w : World) : Calls Try.prog 22 #[.pointer none, .int .i64 n, v] w fun e w' => e = .returned (.int .i64 1) ∧ w = w' := by
  go_enter Try.func22, Try.ntmps22
  go_wp2
  go_ret
  exact ⟨rfl, rfl⟩
set_option maxRecDepth 100000 in
set_option maxHeartbeats 4000000 in
/-- no such node -/
theorem On_arg (rb N : Nat) (n : Int) (v pv mv : Value) (many : Int) (w : World) (h : w.heap[rb]? = some (.cells #[.int .i64 N, pv, mv, .int .i64 many] 101 (0, 0))) (hn : n < 0 ∨ (N : Int) ≤ n) : Calls Try.prog 22 #[.pointer (some ⟨rb, 0, none⟩), .int .i64 n, v] w fun e w' => e = .returned (.int .i64 2) ∧ w = w' := by
  have c0 : w.cell? ⟨rb, 0, none⟩ = some (.int .i64 N) := by rw [cell_of_row _ _ _ _ _ _ h]; rfl
  have zb := lt_of_block h
  clear h
  rcases hn with hn | hn
  · go_enter Try.func22, Try.ntmps22
    go_wp2
    go_ret
    exact ⟨rfl, rfl⟩
  · have h0 : ¬ n < 0 := by omega
    have h1 : ¬ n < (N : Int) := by omega
    go_enter Try.func22, Try.ntmps22
    go_wp2
    go_ret
    exact ⟨rfl, rfl⟩
set_option maxRecDepth 100000 in
set_option maxHeartbeats 4000000 in
/-- no taker -/
theorem On_none (rb N : Nat) (n : Int) (pv mv : Value) (many : Int) (w : World) (h : w.heap[rb]? = some (.cells #[.int .i64 N, pv, mv, .int .i64 many] 101 (0, 0))) (hn : 0 ≤ n) (hn2 : n < (N : Int)) : Calls Try.prog 22 #[.pointer (some ⟨rb, 0, none⟩), .int .i64 n, .nilFunc] w fun e w' => e = .returned (.int .i64 1) ∧ w = w' := by
  have hnil : ∀ w : World, (binOp .eql 91 .nilFunc .nilFunc).run Try.prog w = .ok (.bool true) w := fun w => rfl
  have c0 : w.cell? ⟨rb, 0, none⟩ = some (.int .i64 N) := by rw [cell_of_row _ _ _ _ _ _ h]; rfl
  have zb := lt_of_block h
  clear h
  go_enter Try.func22, Try.ntmps22
  go_wp2
  go_ret
  exact ⟨rfl, rfl⟩
set_option maxRecDepth 100000 in
set_option maxHeartbeats 4000000 in
/-- no room -/
theorem On_full (rb N : Nat) (n : Int) (pv mv : Value) (many : Int) (K : FuncId) (cap : Array Value) (w : World) (h : w.heap[rb]? = some (.cells #[.int .i64 N, pv, mv, .int .i64 many] 101 (0, 0))) (hn : 0 ≤ n) (hn2 : n < (N : Int)) (hm : 4096 ≤ many) : Calls Try.prog 22 #[.pointer (some ⟨rb, 0, none⟩), .int .i64 n, .func (.func K) #[] cap] w fun e w' => e = .returned (.int .i64 4) ∧ w = w' := by
  have hnil : ∀ w : World, (binOp .eql 91 (.func (.func K) #[] cap) .nilFunc).run Try.prog w = .ok (.bool false) w := fun w => rfl
  have c0 : w.cell? ⟨rb, 0, none⟩ = some (.int .i64 N) := by rw [cell_of_row _ _ _ _ _ _ h]; rfl
  have c3 : w.cell? ⟨rb, 3, none⟩ = some (.int .i64 many) := by rw [cell_of_row _ _ _ _ _ _ h]; rfl
  have zb := lt_of_block h
  have hm1 : ¬ many < 4096 := by omega
  clear h
  go_enter Try.func22, Try.ntmps22
  go_wp2
  go_ret
  exact ⟨rfl, rfl⟩
set_option maxRecDepth 100000 in
set_option maxHeartbeats 8000000 in
/-- New refuses -/
theorem focus_New_no (p : Option Addr) (c : Nat) (T : List Nd) (w : World) (hT : TreeAt w (.slice p T.length c) T) (hck : ¬ (checkT T).1 = 0) : Calls Try.prog 20 #[.agg #[.slice p T.length c]] w fun e w' => e = .returned (.tuple #[.pointer none, .int .i64 (checkT T).1]) ∧ Below w.heap.size w w' := by
  have HT := Lib.hid hT
  have hlen := hT.len
  clear hT
  go_enter Try.func20, Try.ntmps20
  go_wp2_with fail
  refine (tree_Check_any p c T _ (HT.out.later (by go_grown))).mono ?_
  generalize (checkT T).2 = c2 at *
  generalize hc1 : (checkT T).1 = c1 at *
  rintro e w1 ⟨rfl, hb1⟩
  have B1 : Below w.heap.size w w1 := below_via hb1 (by go_grown)
  clear hb1
  go_wp2
  go_ret2
  exact ⟨by simp [go_sem, hc1], B1⟩
end Go.Proofs.Ytihjefncjkdnpaa
namespace Go.Proofs.Ytihjefncjkdnpaa
open Go.RowKit Go.Deep
set_option linter.unusedVariables false
set_option linter.unusedSimpArgs false

def tkC (x : Int × Nat) : List Value := [.int .i64 x.1, .int .i64 x.2]
def tksC (M : List (Int × Nat)) : List Value := M.flatMap tkC
theorem tksC_len (M : List (Int × Nat)) : (tksC M).length = M.length * 2 := by
  unfold tksC
  induction M with
  | nil => rfl
  | cons x M ih => rw [List.flatMap_cons, List.length_append, ih, List.length_cons]; simp [tkC]; omega
theorem tksC_app (M : List (Int × Nat)) (x : Int × Nat) : tksC (M ++ [x]) = tksC M ++ tkC x := by unfold tksC; rw [List.flatMap_append]; simp
/-- the reference's router in memory -/
structure RfAt (base : Nat) (w : World) (g : Nat) (qv tv : Value) (P : List Int) (M : List (Int × Nat)) : Prop where
  pl : w.heap[g]? = some (.cells #[qv, tv] 104 (0, 0))
  pa : w.ownsRow base 3 1 qv P.length (P.map (Value.int .i64))
  own : w.ownsRow base 135 2 tv M.length (tksC M)
  bg : base ≤ g
theorem RfAt.ne {base : Nat} {w : World} {g : Nat} {qv tv : Value} {P : List Int} {M : List (Int × Nat)} (h : RfAt base w g qv tv P M) : tv.ownBlock ≠ some g := row_ne_blk h.own h.pl (by decide)
theorem RfAt.cells {base : Nat} {w : World} {g : Nat} {qv tv : Value} {P : List Int} {M : List (Int × Nat)} (h : RfAt base w g qv tv P M) : g < w.heap.size ∧ w.cell? ⟨g, 0, none⟩ = some qv ∧ w.cell? ⟨g, 1, none⟩ = some tv ∧ w.frozen? ⟨g, 1, none⟩ = false := by
  refine ⟨lt_of_block h.pl, ?_, ?_, ?_⟩ <;> simp [World.cell?, World.frozen?, h.pl]
theorem RfAt.later {base : Nat} {w w' : World} {g : Nat} {qv tv : Value} {P : List Int} {M : List (Int × Nat)} (h : RfAt base w g qv tv P M) (hb : Below w.heap.size w w') : RfAt base w' g qv tv P M := ⟨(hb.block _ (lt_of_block h.pl)).trans h.pl, row_later h.pa hb, row_later h.own hb, h.bg⟩
def SRf (g : Nat) (tv : Value) : Nat → Prop := fun k => k = g ∨ tv.ownBlock = some k
def RfPost (base : Nat) (w w' : World) (g : Nat) (qv tv : Value) (P : List Int) (M' : List (Int × Nat)) : Prop := ∃ tv', RfAt base w' g qv tv' P M' ∧ Chg w w' (SRf g tv) ∧ (tv'.ownBlock = tv.ownBlock ∨ ∃ b, tv'.ownBlock = some b ∧ w.heap.size ≤ b)
theorem RfPost.refl {base : Nat} {w : World} {g : Nat} {qv tv : Value} {P : List Int} {M : List (Int × Nat)} (h : RfAt base w g qv tv P M) : RfPost base w w g qv tv P M := ⟨tv, h, Chg.refl _ _, .inl rfl⟩
theorem refOn_end {base g : Nat} {qv tv v4 : Value} {P : List Int} {M : List (Int × Nat)} {w w4 : World} {o : Obj} {E : List Value} {t : Int × Nat} (hg4 : w4.heap[g]? = some (.cells #[qv, tv] 104 (0, 0))) (hp : RfAt base w g qv tv P M) (own4 : w4.ownsRow base 135 2 v4 (M.length + 1) (tksC M ++ E)) (gr4 : (w.alloc o).grownBy w4 tv.ownBlock) (pl4 : v4.ownBlock = tv.ownBlock ∨ ∃ b, v4.ownBlock = some b ∧ w.heap.size ≤ b) (hE : E = tkC t) :
    RfPost base w (w4.setCell ⟨g, 1, none⟩ v4) g qv tv P (M ++ [t]) := by
  have hs : w4.grownBy (w4.setCell ⟨g, 1, none⟩ v4) (some g) := only_setCell (only_refl w4 (some g)) (p := ⟨g, 1, none⟩) (.inl rfl) v4
  refine ⟨v4, ⟨?_, ?_, ?_, hp.bg⟩, ?_, ?_⟩
  · exact set_blk hg4 1 v4
  · have hq := (row_later hp.pa (below_al (Below.refl _ _) o)).kept gr4 (row_ne (row_later hp.pa (below_al (Below.refl _ _) o)) (row_later hp.own (below_al (Below.refl _ _) o)) (by decide))
    exact hq.kept hs (.inr (row_ne_blk hq hg4 (by decide)))
  · rw [tksC_app, List.length_append]
    refine World.ownsRow.kept (w := w4) ?_ hs (.inr (row_ne_blk own4 hg4 (by decide)))
    rw [← hE]
    exact own4
  · refine Chg.trans (Chg.trans (Chg.of_below (below_al (Below.refl w.heap.size w) o) (SRf g tv)) (Chg.of_grown gr4 (S := SRf g tv) (fun k hk => .inl (.inr hk))) (fun k hk => .inl hk)) (Chg.of_grown hs (S := SRf g tv) (fun k hk => .inl (.inl (by injection hk with hk; exact hk.symm)))) (fun k hk => .inl hk)
  · exact pl4
theorem infoTaker_ : (Try.prog.info? 135).map (fun i => (i.zero, i.size, i.bytes)) = some (some (.agg #[.int .i64 0, .int .i64 0]), 2, 16) := by kernel_rfl
set_option maxRecDepth 100000 in
set_option maxHeartbeats 8000000 in
/-- On of the reference -/
theorem refOn_any (base g : Nat) (qv tv : Value) (P : List Int) (M : List (Int × Nat)) (n : Int) (num : Nat) (w : World) (hp : RfAt base w g qv tv P M) (hM : M.length ≤ 4096) : Calls Try.prog 55 #[.pointer (some ⟨g, 0, none⟩), .int .i64 n, .bool false, .int .i64 num] w fun e w' => e = .returned (.int .i64 (onE P.length M n)) ∧ RfPost base w w' g qv tv P (onR P.length M n num) := by
  obtain ⟨i0, hi, hz0, hz1, hz2⟩ := info_parts infoTaker_
  have HI := Lib.hid (And.intro hi (And.intro hz0 (And.intro hz1 hz2)))
  clear hi hz0 hz1 hz2
  obtain ⟨zg, c0, c1, fz⟩ := hp.cells
  obtain ⟨qp, qc, rfl⟩ := row_slice hp.pa
  obtain ⟨tp, tc, rfl⟩ := row_slice hp.own
  have HP := Lib.hid hp
  have HR := Lib.hid (RfPost.refl hp)
  clear hp
  by_cases h0 : n < 0
  · rw [show onE P.length M n = 2 by unfold onE; rw [if_pos (.inl h0)], show onR P.length M n num = M by unfold onR; rw [if_pos (.inl h0)]]
    go_enter Try.func55, Try.ntmps55
    go_wp2
    go_ret
    exact ⟨rfl, HR.out⟩
  by_cases h1 : (P.length : Int) ≤ n
  · rw [show onE P.length M n = 2 by unfold onE; rw [if_pos (.inr h1)], show onR P.length M n num = M by unfold onR; rw [if_pos (.inr (.inl h1))]]
    go_enter Try.func55, Try.ntmps55
    go_wp2
    go_ret
    exact ⟨rfl, HR.out⟩
  by_cases h2 : 4096 ≤ M.length
  · have h2i : (4096 : Int) ≤ (M.length : Int) := by omega
    rw [show onE P.length M n = 4 by unfold onE; rw [if_neg (by omega), if_pos h2], show onR P.length M n num = M by unfold onR; rw [if_pos (.inr (.inr h2))]]
    go_enter Try.func55, Try.ntmps55
    go_wp2
    go_ret
    exact ⟨rfl, HR.out⟩
  · have h2i : ¬ (4096 : Int) ≤ (M.length : Int) := by omega
    rw [show onE P.length M n = 0 by unfold onE; rw [if_neg (by omega), if_neg h2], show onR P.length M n num = M ++ [(n, num)] by unfold onR; rw [if_neg (by omega)]]
    clear HR
    go_enter Try.func55, Try.ntmps55
    go_wp2_with (at_builtin; go_must (refine append_keep rfl (.tmp 31) (.tmp 35) 102 rfl base 135 i0 _ 2 16 Try.underlying102 HI.out.1 HI.out.2.1 HI.out.2.2.1 HI.out.2.2.2 rfl (by decide) _ M.length _ rfl (HP.out.own.alloc _) ⟨w.heap.size, 0, none⟩ 1 1 [.int .i64 n, .int .i64 num] rfl rfl ?b1 ?b2 ?b3 ?b4 ?b5 ?_))
    (try case b1 => exact World.news_of_block (cs := #[.int .i64 n, .int .i64 num]) (t := 135) (fr := (0, 0)) (heap_alloc_new _ _))
    case b2 => first | exact ⟨rfl, rfl⟩ | (intro u hu; simp only [List.mem_cons, List.not_mem_nil, or_false] at hu; rcases hu with rfl | rfl <;> rfl)
    case b3 => unfold maxLen; omega
    case b4 => omega
    case b5 => have := HP.out.bg; simp; omega
    intro v4 w4 own4 gr4 pl4
    obtain ⟨g5, c5, rfl⟩ : ∃ g c, v4 = .slice (some ⟨g, 0, none⟩) (M.length + 1) c := by
      rcases row_form own4 with ⟨_, h, _⟩ | ⟨g, c, h, _⟩
      · omega
      · exact ⟨g, c, h⟩
    have hg4 : w4.heap[g]? = some (.cells #[.slice qp P.length qc, .slice tp M.length tc] 104 (0, 0)) := by
      rw [gr4.block g (by simp; omega) (fun e => HP.out.ne e.symm)]
      exact (heap_alloc_old _ _ zg).trans HP.out.pl
    have zg4 : g < w4.heap.size := lt_of_block hg4
    have fz4 : w4.frozen? ⟨g, 1, none⟩ = false := by simp [World.frozen?, hg4]
    have d4 : w4.cell? ⟨g, 1, none⟩ = some (.slice tp M.length tc) := by simp [World.cell?, hg4]
    have HZ := Lib.hid (refOn_end (t := (n, num)) hg4 HP.out own4 gr4 (pl4.imp id fun h => ⟨_, h.1, by omega⟩) (by simp [tkC]))
    clear own4 gr4 pl4 hg4 c0 c1 fz zg
    go_wp2
    go_ret
    exact ⟨rfl, HZ.out⟩
/-- On of the reference: nil -/
def onN (N : Nat) (n : Int) : Int := if n < 0 ∨ (N : Int) ≤ n then 2 else 1
set_option maxRecDepth 100000 in
set_option maxHeartbeats 8000000 in
theorem refOn_nil (base g : Nat) (qv tv : Value) (P : List Int) (M : List (Int × Nat)) (n : Int) (w : World) (hp : RfAt base w g qv tv P M) : Calls Try.prog 55 #[.pointer (some ⟨g, 0, none⟩), .int .i64 n, .bool true, .int .i64 0] w fun e w' => e = .returned (.int .i64 (onN P.length n)) ∧ w = w' := by
  obtain ⟨zg, c0, c1, fz⟩ := hp.cells
  obtain ⟨qp, qc, rfl⟩ := row_slice hp.pa
  obtain ⟨tp, tc, rfl⟩ := row_slice hp.own
  clear hp
  by_cases h0 : n < 0
  · rw [show onN P.length n = 2 by unfold onN; rw [if_pos (.inl h0)]]
    go_enter Try.func55, Try.ntmps55
    go_wp2
    go_ret
    exact ⟨rfl, rfl⟩
  by_cases h1 : (P.length : Int) ≤ n
  · rw [show onN P.length n = 2 by unfold onN; rw [if_pos (.inr h1)]]
    go_enter Try.func55, Try.ntmps55
    go_wp2
    go_ret
    exact ⟨rfl, rfl⟩
  · rw [show onN P.length n = 1 by unfold onN; rw [if_neg (by omega)]]
    go_enter Try.func55, Try.ntmps55
    go_wp2
    go_ret
    exact ⟨rfl, rfl⟩
end Go.Proofs.Ytihjefncjkdnpaa
namespace Go.Proofs.Ytihjefncjkdnpaa
open Go.RowKit Go.Deep
set_option linter.unusedVariables false
set_option linter.unusedSimpArgs false

set_option maxRecDepth 100000 in
set_option maxHeartbeats 8000000 in
theorem refRoutes_New_no (p : Option Addr) (c : Nat) (T : List Nd) (w : World) (hT : TreeAt w (.slice p T.length c) T) (hck : ¬ (checkT T).1 = 0) : Calls Try.prog 21 #[.agg #[.slice p T.length c]] w fun e w' => e = .returned (.tuple #[.pointer none, .int .i64 (checkT T).1]) ∧ Below w.heap.size w w' := by
  have HT := Lib.hid hT
  clear hT
  go_enter Try.func21, Try.ntmps21
  go_wp2_with fail
  refine (ref_Check_any p c T _ (HT.out.later (by go_grown))).mono ?_
  generalize (checkT T).2 = c2 at *
  generalize hc1 : (checkT T).1 = c1 at *
  rintro e w1 ⟨rfl, hb1⟩
  have B1 : Below w.heap.size w w1 := below_via hb1 (by go_grown)
  clear hb1
  go_wp2
  go_ret2
  exact ⟨by simp [go_sem, hc1], B1⟩
set_option maxRecDepth 100000 in
set_option maxHeartbeats 8000000 in
theorem refRoutes_New_yes (p : Option Addr) (c : Nat) (T : List Nd) (w : World) (hT : TreeAt w (.slice p T.length c) T) (hck : (checkT T).1 = 0) : Calls Try.prog 21 #[.agg #[.slice p T.length c]] w fun e w' => ∃ g qv, e = .returned (.tuple #[.pointer (some ⟨g, 0, none⟩), .int .i64 0]) ∧ RfAt w.heap.size w' g qv (.slice none 0 0) (parL T) [] ∧ Below w.heap.size w w' := by
  have HT := Lib.hid hT
  have HCK := Lib.hid hck
  clear hT hck
  go_enter Try.func21, Try.ntmps21
  go_wp2_with fail
  refine (ref_Check_any p c T _ (HT.out.later (by go_grown))).mono ?_
  rw [HCK.out]
  generalize (checkT T).2 = c2 at *
  rintro e w1 ⟨rfl, hb1⟩
  have B1 : Below w.heap.size w w1 := below_via hb1 (by go_grown)
  have x0 : w1.cell? ⟨w.heap.size, 0, none⟩ = some (.slice p T.length c) := by rw [(bcell hb1).1 _ _ (by simp)]; simp [go_sem]
  have z0 : w.heap.size < w1.heap.size := by have := hb1.size; simp at this; omega
  clear hb1
  go_wp2_with fail
  refine (ref_Parents_any p c T _ (HT.out.later B1)).mono ?_
  rintro e w2 ⟨v, rfl, own, hb2⟩
  have B2 := below_via hb2 B1
  have HPV := Lib.hid (row_sink_ own B1.size)
  obtain ⟨pv, cv, rfl⟩ := row_slice own
  have HRA := Lib.hid (show RfAt w.heap.size (w2.alloc (.cells #[.slice pv (parL T).length cv, .slice none 0 0] 104)) w2.heap.size (.slice pv (parL T).length cv) (.slice none 0 0) (parL T) [] from
    ⟨heap_alloc_new _ _, row_later HPV.out (below_al (Below.refl _ _) _), ⟨rfl, .inl ⟨rfl, rfl⟩⟩, B2.size⟩)
  have B3 := Lib.hid (below_al B2 (.cells #[.slice pv (parL T).length cv, .slice none 0 0] 104))
  clear own hb2 x0 z0
  go_wp2
  go_ret2
  exact ⟨_, _, rfl, HRA.out, B3.out⟩
theorem tksC_get : ∀ (M : List (Int × Nat)) (i : Nat), i < M.length → (tksC M)[i * 2]? = some (.int .i64 (M.getD i (0, 0)).1) ∧ (tksC M)[i * 2 + 1]? = some (.int .i64 (M.getD i (0, 0)).2)
  | [], i, h => absurd h (Nat.not_lt_zero _)
  | x :: M, 0, _ => ⟨rfl, rfl⟩
  | x :: M, i + 1, h => by
    have := tksC_get M i (by simpa using h)
    rw [show (i + 1) * 2 = i * 2 + 2 by omega]
    exact this
theorem ofN_take (M : List (Int × Nat)) (k : Int) {i : Nat} (h : i < M.length) : ofN (M.take (i + 1)) k = ofN (M.take i) k ++ if (M.getD i (0, 0)).1 = k then [M.getD i (0, 0)] else [] := by
  unfold ofN
  rw [List.take_add_one, List.filter_append, List.getElem?_eq_getElem h, List.getD_eq_getElem?_getD, List.getElem?_eq_getElem h]
  simp only [Option.toList_some, Option.getD_some]
  by_cases e : M[i].1 = k
  · rw [if_pos e, List.filter_cons_of_pos (by simpa using e)]; rfl
  · rw [if_neg e, List.filter_cons_of_neg (by simpa using e)]; rfl
def wayR (P : List Int) (M : List (Int × Nat)) (fu : Nat) (n : Int) : List (Int × Nat) := (wayP P fu n).flatMap fun k => ofN M k
theorem ofN_len (M : List (Int × Nat)) (k : Int) : (ofN M k).length ≤ M.length := List.length_filter_le _ _
def RetWay (P : List Int) (M : List (Int × Nat)) (n : Int) (w : World) (e : Ending) (w' : World) : Prop := ∃ v, e = .returned v ∧ w'.ownsRow w.heap.size 135 2 v (wayR P M P.length n).length (tksC (wayR P M P.length n)) ∧ Below w.heap.size w w'
set_option maxRecDepth 100000 in
set_option maxHeartbeats 16000000 in
theorem refWay_any (base g : Nat) (qv tv : Value) (P : List Int) (M : List (Int × Nat)) (n : Nat) (w : World) (hp : RfAt base w g qv tv P M) (hM : M.length ≤ 4096) (hP : P.length ≤ 4096) (hU : UpOk P) (hn : n < P.length) : Calls Try.prog 81 #[.pointer (some ⟨g, 0, none⟩), .int .i64 n] w (RetWay P M n w) := by
  obtain ⟨i0, hi, hz0, hz1, hz2⟩ := info_parts infoTaker_
  have HI := Lib.hid (And.intro hi (And.intro hz0 (And.intro hz1 hz2)))
  clear hi hz0 hz1 hz2
  obtain ⟨qp, qc, rfl⟩ := row_slice hp.pa
  obtain ⟨tp, tc, rfl⟩ := row_slice hp.own
  have HP := Lib.hid hp
  have HU := Lib.hid hU
  have HPOST := Lib.hid (fun (v : Value) (W' : World) (ho : W'.ownsRow w.heap.size 135 2 v (wayR P M P.length n).length (tksC (wayR P M P.length n))) (hb : Below w.heap.size w W') => show RetWay P M n w (.returned v) W' from ⟨v, rfl, ho, hb⟩)
  generalize RetWay P M n w = post at *
  clear hp hU
  go_enter Try.func81, Try.ntmps81
  go_wp2
  go_loopw [1, 5, 6] (fun nv lv _ wr => ∃ (q : Int) (fu : Nat) (L : List (Int × Nat)), nv = .int .i64 q ∧ -1 ≤ q ∧ q < (P.length : Int) ∧ q < (fu : Int) ∧ fu ≤ P.length ∧ L.length + fu * 4096 ≤ P.length * 4096 ∧ RowKit.Hid (L ++ wayR P M fu q = wayR P M P.length n) ∧ RowKit.Hid (wr.ownsRow w.heap.size 135 2 lv L.length (tksC L)) ∧ Below w.heap.size w wr) (fun nv _ _ _ => (intOf nv + 1).toNat)
  case atStart => exact ⟨n, P.length, [], rfl, by omega, by omega, by omega, by omega, by simp, Lib.hid rfl, Lib.hid ⟨rfl, .inl ⟨rfl, rfl⟩⟩, Below.refl _ _⟩
  case round =>
    obtain ⟨q, fu, L, rfl, hq0, hqN, hqf, hfP, hLf, HWY, HLO, BR⟩ := hrel
    obtain ⟨wo, rfl⟩ : ∃ wo : World, wo = wr := ⟨_, rfl⟩
    obtain ⟨lp, lc, rfl⟩ := row_slice HLO.out
    by_cases hq : q < 0
    · have HEND := Lib.hid (HPOST.out _ wo (by
        have e : L = wayR P M P.length n := by rw [← HWY.out, wayR, wayP_neg P fu hq]; simp
        rw [← e]; exact HLO.out) BR)
      clear HWY HLO HPOST
      go_wp2
      exact HEND.out
    · obtain ⟨q, rfl⟩ := Int.eq_ofNat_of_zero_le (show 0 ≤ q by omega)
      have hqn : q < P.length := by omega
      obtain ⟨fv, rfl⟩ : ∃ fv, fu = fv + 1 := ⟨fu - 1, by omega⟩
      have hup := HU.out q hqn
      have HWY2 := Lib.hid (show (L ++ ofN M (q : Int)) ++ wayR P M fv (P.getD q 0) = wayR P M P.length n by
        rw [← HWY.out]; unfold wayR; rw [wayP, if_neg hq, List.flatMap_cons, Int.toNat_natCast, List.append_assoc])
      have HUP := Lib.hid hup
      clear hup HWY
      go_wp2
      go_loopw [5, 6] (fun lv iv wr => ∃ (i : Nat), iv = .int .i64 i ∧ i ≤ M.length ∧ RowKit.Hid (wr.ownsRow w.heap.size 135 2 lv (L ++ ofN (M.take i) (q : Int)).length (tksC (L ++ ofN (M.take i) (q : Int)))) ∧ Below w.heap.size w wr) (fun _ iv _ => M.length - (intOf iv).toNat)
      case atStart => exact ⟨0, rfl, by omega, Lib.hid (by simpa [ofN] using HLO.out), BR⟩
      case round =>
        obtain ⟨i, rfl, hi, HLI, BI⟩ := hrel
        obtain ⟨wi, rfl⟩ : ∃ wi : World, wi = wr := ⟨_, rfl⟩
        have HQ := Lib.hid (HP.out.later BI)
        obtain ⟨zg, c0, c1, _⟩ := HQ.out.cells
        obtain ⟨lp2, lc2, rfl⟩ := row_slice HLI.out
        by_cases hlt : i < M.length
        · have hii : (i : Int) < (M.length : Int) := by omega
          obtain ⟨tb, rfl, ht, htz⟩ : ∃ b, tp = some ⟨b, 0, none⟩ ∧ (∀ j v, (tksC M)[j]? = some v → wi.cell? ⟨b, j, none⟩ = some v) ∧ b < wi.heap.size := by
            rcases row_form HQ.out.own with ⟨_, h0, _⟩ | ⟨b, c, e, _, _, h3, _⟩
            · omega
            · cases e
              exact ⟨b, rfl, fun j v hv => by have := row_cells HQ.out.own j v hv; rwa [Nat.zero_add] at this, h3⟩
          have ct := tksC_get M i hlt
          have ct0 := ht _ _ ct.1
          have ct1 := ht _ _ ct.2
          have HTK := Lib.hid (ofN_take M (q : Int) hlt)
          generalize M.getD i (0, 0) = x at *
          obtain ⟨xn, xk⟩ := x
          simp only at ct0 ct1
          clear ht ct
          by_cases hx : xn = (q : Int)
          · subst hx
            have hL2 : (L ++ ofN (M.take i) (q : Int)).length ≤ 16777216 := by
              rw [List.length_append]; have := ofN_len (M.take i) (q : Int); rw [List.length_take] at this; omega
            have HLN := Lib.hid (show L ++ ofN (M.take (i + 1)) (q : Int) = (L ++ ofN (M.take i) (q : Int)) ++ [((q : Int), xk)] by rw [HTK.out, if_pos rfl, List.append_assoc])
            generalize L ++ ofN (M.take i) (q : Int) = L2 at *
            go_wp2_with (at_builtin; go_must (refine append_keep rfl (.tmp 35) (.tmp 43) 102 rfl w.heap.size 135 i0 _ 2 16 Try.underlying102 HI.out.1 HI.out.2.1 HI.out.2.2.1 HI.out.2.2.2 rfl (by decide) _ L2.length _ rfl (HLI.out.alloc _) ⟨wi.heap.size, 0, none⟩ 1 1 [.int .i64 (q : Int), .int .i64 xk] rfl rfl ?b1 ?b2 ?b3 ?b4 ?b5 ?_))
            (try case b1 => exact World.news_of_block (cs := #[.int .i64 (q : Int), .int .i64 xk]) (t := 135) (fr := (0, 0)) (heap_alloc_new _ _))
            case b2 => first | exact ⟨rfl, rfl⟩ | (intro u hu; simp only [List.mem_cons, List.not_mem_nil, or_false] at hu; rcases hu with rfl | rfl <;> rfl)
            case b3 => unfold maxLen; omega
            case b4 => omega
            case b5 => have := BI.size; simp; omega
            intro v4 w4 own4 gr4 pl4
            have B4 : Below w.heap.size w w4 := Below.grown (below_via (below_al (Below.refl wi.heap.size wi) _) BI) gr4 (by simp; have := BI.size; omega) (fun k hk => (row_lt HLI.out k hk).2)
            have HL4 := Lib.hid (show w4.ownsRow w.heap.size 135 2 v4 (L ++ ofN (M.take (i + 1)) (q : Int)).length (tksC (L ++ ofN (M.take (i + 1)) (q : Int))) by rw [HLN.out, tksC_app, List.length_append]; exact own4)
            clear own4 gr4 pl4 ct0 ct1 c0 c1
            go_wp2
            go_roundw
            case rel => exact ⟨i + 1, by go_num, by omega, HL4, B4⟩
            case measure => simp [intOf]; omega
          · have HL4 := Lib.hid (show wi.ownsRow w.heap.size 135 2 (.slice lp2 (L ++ ofN (M.take i) (q : Int)).length lc2) (L ++ ofN (M.take (i + 1)) (q : Int)).length (tksC (L ++ ofN (M.take (i + 1)) (q : Int))) by rw [HTK.out, if_neg hx, List.append_nil]; exact HLI.out)
            clear HLI
            go_wp2
            go_roundw
            case rel => exact ⟨i + 1, by go_num, by omega, HL4, BI⟩
            case measure => simp [intOf]; omega
        · obtain rfl : i = M.length := by omega
          have HL4 := Lib.hid (show wi.ownsRow w.heap.size 135 2 (.slice lp2 (L ++ ofN (M.take M.length) (q : Int)).length lc2) (L ++ ofN M (q : Int)).length (tksC (L ++ ofN M (q : Int))) by have := HLI.out; rw [List.take_length] at this ⊢; exact this)
          obtain ⟨qb, rfl, hqc, hqz⟩ : ∃ b, qp = some ⟨b, 0, none⟩ ∧ wi.cell? ⟨b, q, none⟩ = some (.int .i64 (P.getD q 0)) ∧ b < wi.heap.size := by
            rcases row_form HQ.out.pa with ⟨_, h0, _⟩ | ⟨b, c, e, _, _, h3, _⟩
            · omega
            · cases e
              refine ⟨b, rfl, ?_, h3⟩
              have := row_cells HQ.out.pa q (.int .i64 (P.getD q 0)) (by rw [List.getElem?_map, List.getElem?_eq_getElem hqn, List.getD_eq_getElem?_getD, List.getElem?_eq_getElem hqn]; rfl)
              rwa [Nat.zero_add] at this
          have hqi : (q : Int) < (P.length : Int) := by omega
          have hLn : (L ++ ofN M (q : Int)).length + fv * 4096 ≤ P.length * 4096 := by rw [List.length_append]; have := ofN_len M (q : Int); omega
          have hpq := HUP.out
          generalize P.getD q 0 = pq at *
          clear HLI
          go_wp2
          go_roundw
          case rel => exact ⟨pq, fv, L ++ ofN M (q : Int), rfl, hpq.1, by omega, by omega, by omega, hLn, HWY2, HL4, BI⟩
          case measure => have h1 := hpq.2; have h2 := hpq.1; simp [intOf]; omega
end Go.Proofs.Ytihjefncjkdnpaa
namespace Go.Proofs.Ytihjefncjkdnpaa
open Go.RowKit Go.Deep
set_option linter.unusedVariables false
set_option linter.unusedSimpArgs false

def stpC (s : Stp) : List Value := [.int .i64 s.do_, .int .i64 s.n, .int .i64 s.more, .bool s.yes, .bool s.puts, .int .i32 s.e]
def stpsC (l : List Stp) : List Value := l.flatMap stpC
/-- a call of a taker: number, the event's code -/
def tknC (x : Nat × Int) : List Value := [.int .i64 x.1, .int .i8 2, .int .i32 x.2, .int .u8 0, .int .i64 0, .int .i64 0, .string ⟨#[101]⟩]
def tknsC (l : List (Nat × Int)) : List Value := l.flatMap tknC
/-- a taker -/
def tkV (bw bn : Nat) : Value := .func (.func 80) #[] #[.pointer (some ⟨bw, 0, none⟩), .pointer (some ⟨bn, 0, none⟩)]
def IsTk (W : World) (wb : Nat) (v : Value) (num : Nat) : Prop := ∃ bw bn, v = tkV bw bn ∧ W.heap[bw]? = some (.cells #[.pointer (some ⟨wb, 0, none⟩)] 54 (0, 0)) ∧ W.heap[bn]? = some (.cells #[.int .i64 num] 3 (0, 0))
set_option maxRecDepth 100000 in
set_option maxHeartbeats 4000000 in
theorem take_any (wb num : Nat) (w : World) : Calls Try.prog 54 #[.pointer (some ⟨wb, 0, none⟩), .int .i64 num] w fun e w' => ∃ bw bn, e = .returned (tkV bw bn) ∧ IsTk w' wb (tkV bw bn) num ∧ Below w.heap.size w w' := by
  obtain ⟨W2, hW2⟩ : ∃ W2, W2 = (w.alloc (.cells #[.pointer (some ⟨wb, 0, none⟩)] 54)).alloc (.cells #[.int .i64 num] 3) := ⟨_, rfl⟩
  have HT := Lib.hid (show IsTk W2 wb (tkV w.heap.size (w.heap.size + 1)) num from by
    refine ⟨_, _, rfl, ?_, ?_⟩
    · rw [hW2, heap_alloc_old _ _ (by simp)]; exact heap_alloc_new _ _
    · rw [hW2]
      have := heap_alloc_new (w.alloc (.cells #[.pointer (some ⟨wb, 0, none⟩)] 54)) (.cells #[.int .i64 num] 3)
      rwa [World.size_alloc] at this)
  have HB := Lib.hid (show Below w.heap.size w W2 from by rw [hW2]; exact below_al (below_al (Below.refl _ _) _) _)
  have HW := Lib.hid hW2
  clear hW2
  go_enter Try.func54, Try.ntmps54
  go_wp2
  go_ret
  exact ⟨_, _, rfl, by rw [HW.out] at HT; exact HT.out, by rw [HW.out] at HB; exact HB.out⟩
inductive All2 {α β : Type} (R : α → β → Prop) : List α → List β → Prop
  | nil : All2 R [] []
  | cons {a : α} {b : β} {l : List α} {l' : List β} : R a b → All2 R l l' → All2 R (a :: l) (b :: l')
/-- where the parts of the law's world lie -/
structure RtV where
  wb : Nat
  rb : Nat
  mb : Nat
  g : Nat
  pv : Value
  qv : Value
  tv : Value
  dv : Value
  cv : Value
  uv : Value
  m : Nat
  f : Int → Sl
  ts : Int → List Value
structure RtAt (w0 W : World) (x : RtV) (P : List Int) (dl : List Stp) (R M : List (Int × Nat)) (cl wl : List (Nat × Int)) : Prop where
  wo : W.heap[x.wb]? = some (.cells #[.pointer (some ⟨x.rb, 0, none⟩), .pointer (some ⟨x.g, 0, none⟩), x.dv, x.cv, x.uv] 57 (0, 0))
  ro : RouterAt w0 W x.rb x.mb x.pv P x.m x.f x.ts R.length
  tk : ∀ k, All2 (IsTk W x.wb) (x.ts k) (numsOf R k)
  re : RfAt w0.heap.size W x.g x.qv x.tv P M
  dr : W.ownsRow w0.heap.size 60 6 x.dv dl.length (stpsC dl)
  cr : W.ownsRow w0.heap.size 64 7 x.cv cl.length (tknsC cl)
  ur : W.ownsRow w0.heap.size 64 7 x.uv wl.length (tknsC wl)
  cu : x.cv.ownBlock = none ∨ x.cv.ownBlock ≠ x.uv.ownBlock
  zw : w0.heap.size ≤ x.wb
theorem stpsC_len (l : List Stp) : (stpsC l).length = l.length * 6 := by
  unfold stpsC
  induction l with
  | nil => rfl
  | cons x l ih => rw [List.flatMap_cons, List.length_append, ih, List.length_cons]; simp [stpC]; omega
theorem stpsC_app (l : List Stp) (a b : Stp) : stpsC (l ++ [a, b]) = stpsC l ++ (stpC a ++ stpC b) := by unfold stpsC; rw [List.flatMap_append]; simp
theorem tknsC_app (l : List (Nat × Int)) (x : Nat × Int) : tknsC (l ++ [x]) = tknsC l ++ tknC x := by unfold tknsC; rw [List.flatMap_append]; simp
theorem stpsC_get : ∀ (l : List Stp) (i j : Nat), i < l.length → j < 6 → (stpsC l)[i * 6 + j]? = (stpC (l.getD i zStp))[j]?
  | [], i, _, h, _ => absurd h (Nat.not_lt_zero _)
  | x :: l, 0, j, _, hj => by
    show (stpC x ++ stpsC l)[0 * 6 + j]? = _
    rw [Nat.zero_mul, Nat.zero_add, List.getElem?_append_left (by simpa [stpC] using hj)]; rfl
  | x :: l, i + 1, j, h, hj => by
    show (stpC x ++ stpsC l)[(i + 1) * 6 + j]? = _
    rw [List.getElem?_append_right (by simp [stpC]; omega)]
    have := stpsC_get l i j (by simpa using h) hj
    rw [← show (x :: l).getD (i + 1) zStp = l.getD i zStp from rfl] at this
    rw [← this]
    congr 1
    simp [stpC]; omega
/-- boxes of ints and of the law's world stand -/
def KeepT (W W' : World) : Prop := ∀ (b : Nat) (cs : Array Value) (t : TypeId), W.heap[b]? = some (.cells cs t (0, 0)) → (t = 3 ∨ t = 54) → W'.heap[b]? = W.heap[b]?
theorem KeepT.refl (W : World) : KeepT W W := fun _ _ _ _ _ => rfl
theorem KeepT.trans {W W1 W2 : World} (h : KeepT W W1) (h2 : KeepT W1 W2) : KeepT W W2 := fun b cs t hb ht => by
  have h1 := h b cs t hb ht
  exact (h2 b cs t (h1.trans hb) ht).trans h1
theorem KeepT.of_below {W W' : World} (h : Below W.heap.size W W') : KeepT W W' := fun b cs t hb _ => h.block b (lt_of_block hb)
theorem IsTk.keep {W W' : World} {wb num : Nat} {v : Value} (h : IsTk W wb v num) (hk : KeepT W W') : IsTk W' wb v num := by
  obtain ⟨bw, bn, e, h1, h2⟩ := h
  exact ⟨bw, bn, e, (hk _ _ _ h1 (.inr rfl)).trans h1, (hk _ _ _ h2 (.inl rfl)).trans h2⟩
theorem forall2_imp {α β : Type} {R S : α → β → Prop} (h : ∀ a b, R a b → S a b) : ∀ {l : List α} {l' : List β}, All2 R l l' → All2 S l l'
  | _, _, .nil => .nil
  | _, _, .cons a b => .cons (h _ _ a) (forall2_imp h b)
theorem RtAt.later {w0 W W' : World} {x : RtV} {P : List Int} {dl : List Stp} {R M : List (Int × Nat)} {cl wl : List (Nat × Int)} (h : RtAt w0 W x P dl R M cl wl) (hb : Below W.heap.size W W') : RtAt w0 W' x P dl R M cl wl :=
  ⟨(hb.block _ (lt_of_block h.wo)).trans h.wo, h.ro.later hb, fun k => forall2_imp (fun a b h => h.keep (KeepT.of_below hb)) (h.tk k), h.re.later hb, row_later h.dr hb, row_later h.cr hb, row_later h.ur hb, h.cu, h.zw⟩
end Go.Proofs.Ytihjefncjkdnpaa
namespace Go.Proofs.Ytihjefncjkdnpaa
open Go.RowKit Go.Deep
set_option linter.unusedVariables false
set_option linter.unusedSimpArgs false

section
variable {W W' : World} {S : Nat → Prop} {B : TypeId → Prop}
theorem keep_ty (hO : ∀ b, S b → (∃ es cl, W.heap[b]? = some (.map es cl)) ∨ ∃ cs t fr, W.heap[b]? = some (.cells cs t fr) ∧ B t) (hfr : ∀ b, b < W.heap.size → ¬ S b → W'.heap[b]? = W.heap[b]?) {b : Nat} {cs : Array Value} {t : TypeId} {f : Nat × Nat} (hb : W.heap[b]? = some (.cells cs t f)) (ht : ¬ B t) : W'.heap[b]? = W.heap[b]? := hfr b (lt_of_block hb) (fun hs => by
  rcases hO b hs with ⟨es, cl, h⟩ | ⟨cs', t', fr', h, hB⟩
  · rw [h] at hb; cases hb
  · rw [h] at hb
    injection hb with hb
    injection hb with _ e
    exact ht (e ▸ hB))
theorem row_keep_ty (hO : ∀ b, S b → (∃ es cl, W.heap[b]? = some (.map es cl)) ∨ ∃ cs t fr, W.heap[b]? = some (.cells cs t fr) ∧ B t) (hfr : ∀ b, b < W.heap.size → ¬ S b → W'.heap[b]? = W.heap[b]?) {base : Nat} {t : TypeId} {k n : Nat} {v : Value} {xs : List Value} (h : W.ownsRow base t k v n xs) (ht : ¬ B t) : W'.ownsRow base t k v n xs :=
  row_keepB h (fun g hg => by obtain ⟨cs, fr, hb⟩ := row_blk h hg; exact keep_ty hO hfr hb ht)
end
/-- what the takers' work may write -/
def RtO (x : RtV) (b : Nat) : Prop := b = x.wb ∨ RoutO x.rb x.mb x.f b ∨ x.cv.ownBlock = some b
/-- what the takers' work does not turn -/
def SameV (x x' : RtV) : Prop := x'.wb = x.wb ∧ x'.g = x.g ∧ x'.tv = x.tv ∧ x'.dv = x.dv ∧ x'.uv = x.uv ∧ x'.rb = x.rb
theorem SameV.refl (x : RtV) : SameV x x := ⟨rfl, rfl, rfl, rfl, rfl, rfl⟩
theorem SameV.trans {x y z : RtV} (h : SameV x y) (h2 : SameV y z) : SameV x z := ⟨h2.1.trans h.1, h2.2.1.trans h.2.1, h2.2.2.1.trans h.2.2.1, h2.2.2.2.1.trans h.2.2.2.1, h2.2.2.2.2.1.trans h.2.2.2.2.1, h2.2.2.2.2.2.trans h.2.2.2.2.2⟩
structure RtPost (w0 W : World) (x : RtV) (P : List Int) (dl : List Stp) (R M : List (Int × Nat)) (cl wl : List (Nat × Int)) (W' : World) : Prop where
  at_ : ∃ x', SameV x x' ∧ RtAt w0 W' x' P dl R M cl wl ∧ ∀ b, RtO x' b → RtO x b ∨ W.heap.size ≤ b
  sz : W.heap.size ≤ W'.heap.size
  fr : ∀ b, b < W.heap.size → ¬ RtO x b → W'.heap[b]? = W.heap[b]?
theorem RtPost.refl {w0 W : World} {x : RtV} {P : List Int} {dl : List Stp} {R M : List (Int × Nat)} {cl wl : List (Nat × Int)} (h : RtAt w0 W x P dl R M cl wl) : RtPost w0 W x P dl R M cl wl W := ⟨⟨x, SameV.refl x, h, fun b hb => .inl hb⟩, Nat.le_refl _, fun _ _ _ => rfl⟩
theorem RtPost.of_below {w0 W W' : World} {x : RtV} {P : List Int} {dl : List Stp} {R M : List (Int × Nat)} {cl wl : List (Nat × Int)} (h : RtAt w0 W x P dl R M cl wl) (hb : Below W.heap.size W W') : RtPost w0 W x P dl R M cl wl W' := ⟨⟨x, SameV.refl x, h.later hb, fun b hb => .inl hb⟩, hb.size, fun b h1 _ => hb.block b h1⟩
theorem RtPost.trans {w0 W W1 W2 : World} {x : RtV} {P : List Int} {dl : List Stp} {R M R2 M2 : List (Int × Nat)} {cl wl cl2 wl2 : List (Nat × Int)} (h : RtPost w0 W x P dl R M cl wl W1) (h2 : ∀ x', SameV x x' → RtAt w0 W1 x' P dl R M cl wl → RtPost w0 W1 x' P dl R2 M2 cl2 wl2 W2) : RtPost w0 W x P dl R2 M2 cl2 wl2 W2 := by
  obtain ⟨⟨x1, e1, a1, o1⟩, z1, f1⟩ := h
  obtain ⟨⟨x2, e2, a2, o2⟩, z2, f2⟩ := h2 x1 e1 a1
  refine ⟨⟨x2, e1.trans e2, a2, fun b hb => ?_⟩, Nat.le_trans z1 z2, fun b hb hO => ?_⟩
  · rcases o2 b hb with h | h
    · exact o1 b h
    · exact .inr (Nat.le_trans z1 h)
  · refine (f2 b (Nat.lt_of_lt_of_le hb z1) (fun h => ?_)).trans (f1 b hb hO)
    rcases o1 b h with h | h
    · exact hO h
    · omega
theorem rout_ty {w0 W : World} {rb mb : Nat} {pv : Value} {P : List Int} {m : Nat} {f : Int → Sl} {ts : Int → List Value} {many : Nat} (h : RouterAt w0 W rb mb pv P m f ts many) : ∀ b, RoutO rb mb f b → (∃ es cl, W.heap[b]? = some (.map es cl)) ∨ ∃ cs t fr, W.heap[b]? = some (.cells cs t fr) ∧ (t = 101 ∨ t = 91) := by
  rintro b (rfl | rfl | ⟨k, hk⟩)
  · exact .inr ⟨_, _, _, h.ro, .inl rfl⟩
  · exact .inl h.mp.block
  · obtain ⟨cs, fr, hb⟩ := row_blk (h.rw k) hk
    exact .inr ⟨_, _, _, hb, .inr rfl⟩
theorem RtAt.ty {w0 W : World} {x : RtV} {P : List Int} {dl : List Stp} {R M : List (Int × Nat)} {cl wl : List (Nat × Int)} (h : RtAt w0 W x P dl R M cl wl) : ∀ b, RtO x b → (∃ es cl, W.heap[b]? = some (.map es cl)) ∨ ∃ cs t fr, W.heap[b]? = some (.cells cs t fr) ∧ (t = 57 ∨ t = 64 ∨ t = 101 ∨ t = 91) := by
  rintro b (rfl | hr | hc)
  · exact .inr ⟨_, _, _, h.wo, .inl rfl⟩
  · rcases rout_ty h.ro b hr with h1 | ⟨cs, t, fr, h1, h2⟩
    · exact .inl h1
    · exact .inr ⟨cs, t, fr, h1, .inr (.inr h2)⟩
  · obtain ⟨cs, fr, hb⟩ := row_blk h.cr hc
    exact .inr ⟨_, _, _, hb, .inr (.inl rfl)⟩
theorem RtPost.keepT {w0 W W' : World} {x : RtV} {P : List Int} {dl : List Stp} {R M R2 M2 : List (Int × Nat)} {cl wl cl2 wl2 : List (Nat × Int)} (h0 : RtAt w0 W x P dl R M cl wl) (h : RtPost w0 W x P dl R2 M2 cl2 wl2 W') : KeepT W W' := fun b cs t hb ht =>
  keep_ty h0.ty h.fr hb (by rcases ht with rfl | rfl <;> decide)
theorem forall2_snoc {α β : Type} {R : α → β → Prop} {a : α} {b : β} (hab : R a b) : ∀ {l : List α} {l' : List β}, All2 R l l' → All2 R (l ++ [a]) (l' ++ [b])
  | _, _, .nil => .cons hab .nil
  | _, _, .cons h t => .cons h (forall2_snoc hab t)
/-- the router has one more taker -/
theorem RtAt.on {w0 W W' : World} {x : RtV} {P : List Int} {dl : List Stp} {R M : List (Int × Nat)} {cl wl : List (Nat × Int)} (h : RtAt w0 W x P dl R M cl wl) {n : Int} {num : Nat} {v : Value} (ht : IsTk W x.wb v num) (hp : OnPost w0 W x.rb x.mb x.pv P x.f (putT x.ts n (x.ts n ++ [v])) (R.length + 1) W') : RtPost w0 W x P dl (R ++ [(n, num)]) M cl wl W' := by
  obtain ⟨⟨m', f', h1, h2⟩, h3, h4⟩ := hp
  have hO := rout_ty h.ro
  have hk : KeepT W W' := fun b cs t hb ht => keep_ty hO h4 hb (by rcases ht with rfl | rfl <;> decide)
  refine ⟨⟨{ x with m := m', f := f', ts := putT x.ts n (x.ts n ++ [v]) }, ⟨rfl, rfl, rfl, rfl, rfl, rfl⟩, ⟨?_, ?_, fun k => ?_, ⟨?_, ?_, ?_, h.re.bg⟩, ?_, ?_, ?_, h.cu, h.zw⟩, fun b hb => ?_⟩, h3, fun b hb hO => h4 b hb (fun e => hO (.inr (.inl e)))⟩
  · exact (keep_ty hO h4 h.wo (by decide)).trans h.wo
  · rw [List.length_append]; exact h1
  · rw [numsOf_add]
    show All2 (IsTk W' x.wb) (putT x.ts n (x.ts n ++ [v]) k) _
    unfold putT
    by_cases e : k = n
    · rw [if_pos e, if_pos e, e]
      exact forall2_snoc (ht.keep hk) (forall2_imp (fun a b h => h.keep hk) (h.tk n))
    · rw [if_neg e, if_neg e]
      exact forall2_imp (fun a b h => h.keep hk) (h.tk k)
  · exact (keep_ty hO h4 h.re.pl (by decide)).trans h.re.pl
  · exact row_keep_ty hO h4 h.re.pa (by decide)
  · exact row_keep_ty hO h4 h.re.own (by decide)
  · exact row_keep_ty hO h4 h.dr (by decide)
  · exact row_keep_ty hO h4 h.cr (by decide)
  · exact row_keep_ty hO h4 h.ur (by decide)
  · rcases hb with hb | hb | hb
    · exact .inl (.inl hb)
    · rcases h2 b hb with h | h
      · exact .inl (.inr (.inl h))
      · exact .inr h
    · exact .inl (.inr (.inr hb))
/-- On with a taker, whatever the node -/
theorem On_any (w0 : World) (x : RtV) (P : List Int) (dl : List Stp) (R M : List (Int × Nat)) (cl wl : List (Nat × Int)) (n : Int) (num bw bn : Nat) (W : World) (h : RtAt w0 W x P dl R M cl wl) (ht : IsTk W x.wb (tkV bw bn) num) (hP : P.length ≤ 4096) : Calls Try.prog 22 #[.pointer (some ⟨x.rb, 0, none⟩), .int .i64 n, tkV bw bn] W fun e W' => e = .returned (.int .i64 (onE P.length R n)) ∧ RtPost w0 W x P dl (onR P.length R n num) M cl wl W' ∧ W'.heap[x.wb]? = W.heap[x.wb]? := by
  by_cases h0 : n < 0 ∨ (P.length : Int) ≤ n
  · rw [show onE P.length R n = 2 by unfold onE; rw [if_pos h0], show onR P.length R n num = R by unfold onR; rw [if_pos (by omega)]]
    refine (On_arg x.rb P.length n _ _ _ _ W h.ro.ro h0).mono ?_
    rintro e W' ⟨rfl, rfl⟩
    exact ⟨rfl, RtPost.refl h, rfl⟩
  by_cases h1 : 4096 ≤ R.length
  · rw [show onE P.length R n = 4 by unfold onE; rw [if_neg h0, if_pos h1], show onR P.length R n num = R by unfold onR; rw [if_pos (.inr (.inr h1))]]
    unfold tkV
    refine (On_full x.rb P.length n _ _ _ _ _ W h.ro.ro (by omega) (by omega) (by omega)).mono ?_
    rintro e W' ⟨rfl, rfl⟩
    exact ⟨rfl, RtPost.refl h, rfl⟩
  · obtain ⟨k, rfl⟩ := Int.eq_ofNat_of_zero_le (show 0 ≤ n by omega)
    rw [show onE P.length R (k : Int) = 0 by unfold onE; rw [if_neg h0, if_neg h1], show onR P.length R (k : Int) num = R ++ [((k : Int), num)] by unfold onR; rw [if_neg (by omega)]]
    unfold tkV at ht ⊢
    refine (On_yes w0 x.rb x.mb x.pv P x.m x.f x.ts R.length k _ _ W h.ro (by omega) hP (by omega)).mono ?_
    rintro e W' ⟨rfl, hp⟩
    exact ⟨rfl, h.on ht hp, keep_ty (rout_ty h.ro) hp.fr h.wo (by decide)⟩
/-- a taker has been called -/
theorem RtAt.called {w0 W W1 W2 : World} {x : RtV} {P : List Int} {dl : List Stp} {R M : List (Int × Nat)} {cl wl : List (Nat × Int)} (h : RtAt w0 W x P dl R M cl wl) {v' : Value} {y : Nat × Int} (BA : Below W.heap.size W W1) (own : W2.ownsRow w0.heap.size 64 7 v' (cl.length + 1) (tknsC cl ++ tknC y)) (gr : W1.grownBy W2 x.cv.ownBlock) (pl : v'.ownBlock = x.cv.ownBlock ∨ ∃ b, v'.ownBlock = some b ∧ W1.heap.size ≤ b) :
    RtPost w0 W x P dl R M (cl ++ [y]) wl (W2.setCell ⟨x.wb, 3, none⟩ v') := by
  have z1 := BA.size
  have z2 := gr.size
  have hs : W2.grownBy (W2.setCell ⟨x.wb, 3, none⟩ v') (some x.wb) := only_setCell (only_refl W2 (some x.wb)) (p := ⟨x.wb, 3, none⟩) (.inl rfl) v'
  obtain ⟨S, hS⟩ : ∃ S : Nat → Prop, S = fun b => b = x.wb ∨ x.cv.ownBlock = some b := ⟨_, rfl⟩
  have hfr : ∀ b, b < W.heap.size → ¬ S b → (W2.setCell ⟨x.wb, 3, none⟩ v').heap[b]? = W.heap[b]? := fun b hb hn => by
    rw [hS] at hn
    rw [hs.block b (by omega) (fun e => hn (.inl (by injection e))), gr.block b (by omega) (fun e => hn (.inr e.symm)), BA.block b hb]
  have hO : ∀ b, S b → (∃ es cl, W.heap[b]? = some (.map es cl)) ∨ ∃ cs t fr, W.heap[b]? = some (.cells cs t fr) ∧ (t = 57 ∨ t = 64) := by
    rw [hS]
    rintro b (rfl | hc)
    · exact .inr ⟨_, _, _, h.wo, .inl rfl⟩
    · obtain ⟨cs, fr, hb⟩ := row_blk h.cr hc
      exact .inr ⟨_, _, _, hb, .inr rfl⟩
  have hk : KeepT W (W2.setCell ⟨x.wb, 3, none⟩ v') := fun b cs t hb ht => keep_ty hO hfr hb (by rcases ht with rfl | rfl <;> decide)
  have zw := lt_of_block h.wo
  have hwo : W2.heap[x.wb]? = some (.cells #[.pointer (some ⟨x.rb, 0, none⟩), .pointer (some ⟨x.g, 0, none⟩), x.dv, x.cv, x.uv] 57 (0, 0)) := by
    rw [gr.block x.wb (by omega) (fun e => row_ne_blk h.cr h.wo (by decide) e.symm), BA.block _ zw]; exact h.wo
  have hBe : Below w0.heap.size w0 (W2.setCell ⟨x.wb, 3, none⟩ v') :=
    (Below.grown (below_via BA h.ro.be) gr (by have := h.ro.be.size; omega) (fun g hg => (row_lt h.cr g hg).2)).setCell (p := ⟨x.wb, 3, none⟩) h.zw _
  have hma : (W2.setCell ⟨x.wb, 3, none⟩ v').heap[x.mb]? = W.heap[x.mb]? := hfr x.mb h.ro.mp.lt (fun hs => by
    obtain ⟨es, c, hm⟩ := h.ro.mp.block
    rcases hO x.mb hs with ⟨es', cl', h'⟩ | ⟨cs, t, fr, h', _⟩
    · rw [hS] at hs
      rcases hs with hs | hs
      · rw [hs, h.wo] at hm; cases hm
      · obtain ⟨cs, fr, hb⟩ := row_blk h.cr hs
        rw [hb] at hm; cases hm
    · rw [h'] at hm; cases hm)
  refine ⟨⟨{ x with cv := v' }, ⟨rfl, rfl, rfl, rfl, rfl, rfl⟩, ⟨?_, ⟨hBe, ?_, ?_, h.ro.mp.of_block hma, h.ro.mm, fun k => ?_, h.ro.ap, h.ro.zr, h.ro.zm, h.ro.tl⟩, fun k => ?_, ⟨?_, ?_, ?_, h.re.bg⟩, ?_, ?_, ?_, ?_, h.zw⟩, fun b hb => ?_⟩, ?_, fun b hb hO => hfr b hb (fun e => hO (by rw [hS] at e; rcases e with e | e; exact .inl e; exact .inr (.inr e)))⟩
  · exact set_blk hwo 3 v'
  · exact (keep_ty hO hfr h.ro.ro (by decide)).trans h.ro.ro
  · exact row_keep_ty hO hfr h.ro.pa (by decide)
  · exact row_keep_ty hO hfr (h.ro.rw k) (by decide)
  · exact forall2_imp (fun a b h => h.keep hk) (h.tk k)
  · exact (keep_ty hO hfr h.re.pl (by decide)).trans h.re.pl
  · exact row_keep_ty hO hfr h.re.pa (by decide)
  · exact row_keep_ty hO hfr h.re.own (by decide)
  · exact row_keep_ty hO hfr h.dr (by decide)
  · rw [tknsC_app, List.length_append]
    exact own.kept hs (.inr (row_ne_blk own hwo (by decide)))
  · refine row_keepB h.ur (fun g hg => hfr g (row_lt h.ur g hg).1 (fun hs => ?_))
    rw [hS] at hs
    rcases hs with rfl | hs
    · exact row_ne_blk h.ur h.wo (by decide) hg
    · rcases h.cu with e | e
      · rw [e] at hs; cases hs
      · exact e (hs.trans hg.symm)
  · show v'.ownBlock = none ∨ v'.ownBlock ≠ x.uv.ownBlock
    rcases pl with e | ⟨b, e, hb⟩
    · rw [e]; exact h.cu
    · right
      rw [e]
      intro e'
      have := (row_lt h.ur b e'.symm).1
      omega
  · rcases hb with hb | hb | hb
    · exact .inl (.inl hb)
    · exact .inl (.inr (.inl hb))
    · rcases pl with e | ⟨g, e, hg⟩
      · exact .inl (.inr (.inr (e ▸ hb)))
      · rw [show ({ x with cv := v' } : RtV).cv = v' from rfl, e] at hb
        injection hb with hb
        exact .inr (by omega)
  · have := hs.size; omega
/-- all blocks of the law's world that are ever written -/
def AllO (x : RtV) (b : Nat) : Prop := RtO x b ∨ x.dv.ownBlock = some b ∨ x.uv.ownBlock = some b ∨ b = x.g ∨ x.tv.ownBlock = some b
/-- a step of the script's parts: what it leaves -/
structure RtStep (w0 W : World) (x : RtV) (P : List Int) (dl : List Stp) (R M : List (Int × Nat)) (cl wl : List (Nat × Int)) (W' : World) : Prop where
  at_ : ∃ x', x'.wb = x.wb ∧ RtAt w0 W' x' P dl R M cl wl ∧ ∀ b, AllO x' b → AllO x b ∨ W.heap.size ≤ b
  sz : W.heap.size ≤ W'.heap.size
  fr : ∀ b, b < W.heap.size → ¬ AllO x b → W'.heap[b]? = W.heap[b]?
theorem RtPost.step {w0 W W' : World} {x : RtV} {P : List Int} {dl : List Stp} {R M : List (Int × Nat)} {cl wl : List (Nat × Int)} (h : RtPost w0 W x P dl R M cl wl W') : RtStep w0 W x P dl R M cl wl W' := by
  obtain ⟨⟨x', ⟨e1, e2, e3, e4, e5, _⟩, h1, h2⟩, h3, h4⟩ := h
  refine ⟨⟨x', e1, h1, fun b hb => ?_⟩, h3, fun b hb hO => h4 b hb (fun e => hO (.inl e))⟩
  rcases hb with hb | hb | hb | hb | hb
  · exact (h2 b hb).imp .inl id
  · exact .inl (.inr (.inl (e4 ▸ hb)))
  · exact .inl (.inr (.inr (.inl (e5 ▸ hb))))
  · exact .inl (.inr (.inr (.inr (.inl (e2 ▸ hb)))))
  · exact .inl (.inr (.inr (.inr (.inr (e3 ▸ hb)))))
theorem RtStep.refl {w0 W : World} {x : RtV} {P : List Int} {dl : List Stp} {R M : List (Int × Nat)} {cl wl : List (Nat × Int)} (h : RtAt w0 W x P dl R M cl wl) : RtStep w0 W x P dl R M cl wl W := ⟨⟨x, rfl, h, fun b hb => .inl hb⟩, Nat.le_refl _, fun _ _ _ => rfl⟩
theorem RtStep.of_below {w0 W W' : World} {x : RtV} {P : List Int} {dl : List Stp} {R M : List (Int × Nat)} {cl wl : List (Nat × Int)} (h : RtAt w0 W x P dl R M cl wl) (hb : Below W.heap.size W W') : RtStep w0 W x P dl R M cl wl W' := ⟨⟨x, rfl, h.later hb, fun b hb => .inl hb⟩, hb.size, fun b h1 _ => hb.block b h1⟩
theorem RtStep.trans {w0 W W1 W2 : World} {x : RtV} {P : List Int} {dl dl2 : List Stp} {R M R2 M2 : List (Int × Nat)} {cl wl cl2 wl2 : List (Nat × Int)} (h : RtStep w0 W x P dl R M cl wl W1) (h2 : ∀ x', x'.wb = x.wb → RtAt w0 W1 x' P dl R M cl wl → RtStep w0 W1 x' P dl2 R2 M2 cl2 wl2 W2) : RtStep w0 W x P dl2 R2 M2 cl2 wl2 W2 := by
  obtain ⟨⟨x1, e1, a1, o1⟩, z1, f1⟩ := h
  obtain ⟨⟨x2, e2, a2, o2⟩, z2, f2⟩ := h2 x1 e1 a1
  refine ⟨⟨x2, e2.trans e1, a2, fun b hb => ?_⟩, Nat.le_trans z1 z2, fun b hb hO => ?_⟩
  · rcases o2 b hb with h | h
    · exact o1 b h
    · exact .inr (Nat.le_trans z1 h)
  · refine (f2 b (Nat.lt_of_lt_of_le hb z1) (fun h => ?_)).trans (f1 b hb hO)
    rcases o1 b h with h | h
    · exact hO h
    · omega
end Go.Proofs.Ytihjefncjkdnpaa
namespace Go.Proofs.Ytihjefncjkdnpaa
open Go.RowKit Go.Deep
set_option linter.unusedVariables false
set_option linter.unusedSimpArgs false

theorem infoTaken_ : (Try.prog.info? 64).map (fun i => (i.zero, i.size, i.bytes)) = some (some (.agg #[.int .i64 0, .int .i8 0, .int .i32 0, .int .u8 0, .int .i64 0, .int .i64 0, .string ByteArray.empty]), 7, 56) := by kernel_rfl
theorem IsTk.at {W : World} {wb bw bn num : Nat} (h : IsTk W wb (tkV bw bn) num) : W.heap[bw]? = some (.cells #[.pointer (some ⟨wb, 0, none⟩)] 54 (0, 0)) ∧ W.heap[bn]? = some (.cells #[.int .i64 num] 3 (0, 0)) := by
  obtain ⟨a, b, e, h1, h2⟩ := h
  unfold tkV at e
  injection e with _ _ e
  simp only [Array.mk.injEq, List.cons.injEq, Value.pointer.injEq, Option.some.injEq, Addr.mk.injEq, and_true] at e
  obtain ⟨rfl, rfl⟩ := e
  exact ⟨h1, h2⟩
/-- the cells of a step in the list of what takers do -/
theorem RtAt.step {w0 W : World} {x : RtV} {P : List Int} {dl : List Stp} {R M : List (Int × Nat)} {cl wl : List (Nat × Int)} (h : RtAt w0 W x P dl R M cl wl) {num : Nat} (hn : num < dl.length) : ∃ b c, x.dv = .slice (some ⟨b, 0, none⟩) dl.length c ∧ b < W.heap.size ∧ ∀ w' : World, w'.heap[b]? = W.heap[b]? → ∀ j v, (stpC (dl.getD num zStp))[j]? = some v → w'.cell? ⟨b, num * 6 + j, none⟩ = some v := by
  rcases row_form h.dr with ⟨_, h0, _⟩ | ⟨b, c, e, _, _, h3, _⟩
  · omega
  · refine ⟨b, c, e, h3, fun w' hw j v hv => ?_⟩
    have hj : j < 6 := by
      have := (List.getElem?_eq_some_iff.1 hv).1
      simpa [stpC] using this
    have h1 : w'.ownsRow w0.heap.size 60 6 x.dv dl.length (stpsC dl) := row_keepB h.dr (fun g hg => by rw [e] at hg; injection hg with hg; subst hg; exact hw)
    rw [e] at h1
    have := row_cells h1 (num * 6 + j) v (by rw [stpsC_get dl num j hn hj]; exact hv)
    rwa [Nat.zero_add] at this
theorem RtPost.via {w0 W W1 W2 : World} {x x1 : RtV} {P : List Int} {dl : List Stp} {R2 M2 : List (Int × Nat)} {cl2 wl2 : List (Nat × Int)} (e1 : SameV x x1) (o1 : ∀ b, RtO x1 b → RtO x b ∨ W.heap.size ≤ b) (z1 : W.heap.size ≤ W1.heap.size) (f1 : ∀ b, b < W.heap.size → ¬ RtO x b → W1.heap[b]? = W.heap[b]?) (h2 : RtPost w0 W1 x1 P dl R2 M2 cl2 wl2 W2) : RtPost w0 W x P dl R2 M2 cl2 wl2 W2 := by
  obtain ⟨⟨x2, e2, a2, o2⟩, z2, f2⟩ := h2
  refine ⟨⟨x2, e1.trans e2, a2, fun b hb => ?_⟩, Nat.le_trans z1 z2, fun b hb hO => ?_⟩
  · rcases o2 b hb with h | h
    · exact o1 b h
    · exact .inr (Nat.le_trans z1 h)
  · refine (f2 b (Nat.lt_of_lt_of_le hb z1) (fun h => ?_)).trans (f1 b hb hO)
    rcases o1 b h with h | h
    · exact hO h
    · omega
def RetTk (w0 W : World) (x : RtV) (P : List Int) (dl : List Stp) (R M : List (Int × Nat)) (cl wl : List (Nat × Int)) (num : Nat) (code : Int) (e : Ending) (W' : World) : Prop := e = .returned (.bool (dl.getD num zStp).yes) ∧ RtPost w0 W x P dl (if (dl.getD num zStp).puts then onR P.length R (dl.getD num zStp).more (num + 1) else R) M (cl ++ [(num, code)]) wl W'
set_option maxRecDepth 100000 in
set_option maxHeartbeats 16000000 in
theorem taker_any (w0 W : World) (x : RtV) (P : List Int) (dl : List Stp) (R M : List (Int × Nat)) (cl wl : List (Nat × Int)) (num bw bn : Nat) (code : Int) (h : RtAt w0 W x P dl R M cl wl) (ht : IsTk W x.wb (tkV bw bn) num) (hnum : num < dl.length) (hdl : dl.length ≤ 67108864) (hP : P.length ≤ 4096) (hcl : cl.length < 137438953472) : Calls Try.prog 80 #[.agg #[.int .i8 2, .int .i32 code, .int .u8 0, .int .i64 0, .int .i64 0, .string ⟨#[101]⟩], .pointer (some ⟨bw, 0, none⟩), .pointer (some ⟨bn, 0, none⟩)] W (RetTk w0 W x P dl R M cl wl num code) := by
  obtain ⟨i0, hi, hz0, hz1, hz2⟩ := info_parts infoTaken_
  have HI := Lib.hid (And.intro hi (And.intro hz0 (And.intro hz1 hz2)))
  clear hi hz0 hz1 hz2
  obtain ⟨t1, t2⟩ := ht.at
  have HT := Lib.hid ht
  have H := Lib.hid h
  obtain ⟨pc, kc, hcv⟩ := row_slice h.cr
  obtain ⟨W1, hW1⟩ : ∃ W1, W1 = W.alloc (.cells #[.int .i8 2, .int .i32 code, .int .u8 0, .int .i64 0, .int .i64 0, .string ⟨#[101]⟩] 62) := ⟨_, rfl⟩
  have BW1 := Lib.hid (show Below W.heap.size W W1 from by rw [hW1]; exact below_al (Below.refl _ _) _)
  have EV1 := Lib.hid (show W1.heap[W.heap.size]? = some (.cells #[.int .i8 2, .int .i32 code, .int .u8 0, .int .i64 0, .int .i64 0, .string ⟨#[101]⟩] 62 (0, 0)) from by rw [hW1]; exact heap_alloc_new _ _)
  have zw := lt_of_block h.wo
  have zbw := lt_of_block t1
  have zbn := lt_of_block t2
  have zW1 : W1.heap.size = W.heap.size + 1 := by rw [hW1]; simp
  have HS := Lib.hid (fun (w' : World) (hh : w'.heap[x.wb]? = W1.heap[x.wb]? ∧ w'.heap[bw]? = W1.heap[bw]? ∧ w'.heap[bn]? = W1.heap[bn]? ∧ w'.heap[W.heap.size]? = W1.heap[W.heap.size]?) => show (x.wb < w'.heap.size ∧ bw < w'.heap.size ∧ bn < w'.heap.size ∧ W.heap.size < w'.heap.size ∧ w'.cell? ⟨bw, 0, none⟩ = some (.pointer (some ⟨x.wb, 0, none⟩)) ∧ w'.cell? ⟨bn, 0, none⟩ = some (.int .i64 num) ∧ w'.cell? ⟨x.wb, 3, none⟩ = some (.slice pc cl.length kc) ∧ w'.frozen? ⟨x.wb, 3, none⟩ = false ∧ w'.cell? ⟨W.heap.size, 0, none⟩ = some (.int .i8 2) ∧ w'.cell? ⟨W.heap.size, 1, none⟩ = some (.int .i32 code) ∧ w'.cell? ⟨W.heap.size, 2, none⟩ = some (.int .u8 0) ∧ w'.cell? ⟨W.heap.size, 3, none⟩ = some (.int .i64 0) ∧ w'.cell? ⟨W.heap.size, 4, none⟩ = some (.int .i64 0) ∧ w'.cell? ⟨W.heap.size, 5, none⟩ = some (.string ⟨#[101]⟩)) from by
    obtain ⟨h1, h2, h3, h4⟩ := hh
    replace h1 := (h1.trans (BW1.out.block _ zw)).trans H.out.wo
    replace h2 := (h2.trans (BW1.out.block _ zbw)).trans t1
    replace h3 := (h3.trans (BW1.out.block _ zbn)).trans t2
    replace h4 := h4.trans EV1.out
    rw [hcv] at h1
    refine ⟨lt_of_block h1, lt_of_block h2, lt_of_block h3, lt_of_block h4, cell_of_one h2, cell_of_one h3, ?_, frozen_of_row _ _ _ _ _ h1, ?_, ?_, ?_, ?_, ?_, ?_⟩ <;> first | (rw [cell_of_row _ _ _ _ _ _ h1]; rfl) | (rw [cell_of_row _ _ _ _ _ _ h4]; rfl))
  obtain ⟨s, hs⟩ : ∃ s, s = dl.getD num zStp := ⟨_, rfl⟩
  have HSQ := Lib.hid hs
  have HPO := Lib.hid (fun (W' : World) (hh : RtPost w0 W x P dl (if s.puts then onR P.length R s.more (num + 1) else R) M (cl ++ [(num, code)]) wl W') => show RetTk w0 W x P dl R M cl wl num code (.returned (.bool s.yes)) W' from by unfold RetTk; rw [← hs]; exact ⟨rfl, hh⟩)
  generalize RetTk w0 W x P dl R M cl wl num code = post at *
  clear hs h ht
  have HSW := Lib.hid hW1
  clear hW1
  go_enter Try.func80, Try.ntmps80
  go_upto_region 1 with (fail)
  rw [← HSW.out]
  clear HSW
  have HSD := Lib.hid (show W1.drew.heap[x.wb]? = W1.heap[x.wb]? ∧ W1.drew.heap[bw]? = W1.heap[bw]? ∧ W1.drew.heap[bn]? = W1.heap[bn]? ∧ W1.drew.heap[W.heap.size]? = W1.heap[W.heap.size]? from ⟨rfl, rfl, rfl, rfl⟩)
  refine wp_region_noPanic ?_
  refine wp_region_Z (fun w' => w'.heap[x.wb]? = W1.heap[x.wb]? ∧ w'.heap[bw]? = W1.heap[bw]? ∧ w'.heap[bn]? = W1.heap[bn]? ∧ w'.heap[W.heap.size]? = W1.heap[W.heap.size]?) 12 (by kernel_rfl) ?_
  change wpAnyZ _ _ _ _ _ _ 13 (Array.replicate 13 false) _ _
  refine wpAnyZ_take [11, 10] (i := 0) (v := ?va0) (by simp only [List.getElem?_toArray, List.getElem?_cons_succ, List.getElem?_cons_zero]; rfl) (by decide +kernel) (fun _ _ _ h => h) (by rfl) ?ta0 ?sa0 ?_
  case ta0 => (intro w' h; have FK := HS.out w' h; clear h; go_split_ands; go_simp; try rfl)
  case sa0 => exact HSD.out
  (try simp only [Act.put, List.setIfInBounds_toArray, List.set_cons_zero, List.set_cons_succ])
  refine wpAnyZ_take [9, 4, 3, 2] (i := 1) (v := ?va1) (by simp only [List.getElem?_toArray, List.getElem?_cons_succ, List.getElem?_cons_zero]; rfl) (by decide +kernel) (fun _ _ _ h => h) (by rfl) ?ta1 ?sa1 ?_
  case ta1 => (intro w' h; have FK := HS.out w' h; clear h; go_split_ands; go_simp; try rfl)
  case sa1 => exact HSD.out
  (try simp only [Act.put, List.setIfInBounds_toArray, List.set_cons_zero, List.set_cons_succ])
  refine wpAnyZ_take [9, 4, 3] (i := 2) (v := ?va2) (by simp only [List.getElem?_toArray, List.getElem?_cons_succ, List.getElem?_cons_zero]; rfl) (by decide +kernel) (fun _ _ _ h => h) (by rfl) ?ta2 ?sa2 ?_
  case ta2 => (intro w' h; have FK := HS.out w' h; clear h; go_split_ands; go_simp; try rfl)
  case sa2 => exact HSD.out
  (try simp only [Act.put, List.setIfInBounds_toArray, List.set_cons_zero, List.set_cons_succ])
  refine wpAnyZ_take [9, 4] (i := 3) (v := ?va3) (by simp only [List.getElem?_toArray, List.getElem?_cons_succ, List.getElem?_cons_zero]; rfl) (by decide +kernel) (fun _ _ _ h => h) (by rfl) ?ta3 ?sa3 ?_
  case ta3 => (intro w' h; clear h; go_simp; try rfl)
  case sa3 => exact HSD.out
  (try simp only [Act.put, List.setIfInBounds_toArray, List.set_cons_zero, List.set_cons_succ])
  refine wpAnyZ_take [9] (i := 4) (v := ?va4) (by simp only [List.getElem?_toArray, List.getElem?_cons_succ, List.getElem?_cons_zero]; rfl) (by decide +kernel) (fun _ _ _ h => h) (by rfl) ?ta4 ?sa4 ?_
  case ta4 => (intro w' h; have FK := HS.out w' h; clear h; go_split_ands; go_simp; try rfl)
  case sa4 => exact HSD.out
  (try simp only [Act.put, List.setIfInBounds_toArray, List.set_cons_zero, List.set_cons_succ])
  refine wpAnyZ_take [9, 8, 7] (i := 5) (v := ?va5) (by simp only [List.getElem?_toArray, List.getElem?_cons_succ, List.getElem?_cons_zero]; rfl) (by decide +kernel) (fun _ _ _ h => h) (by rfl) ?ta5 ?sa5 ?_
  case ta5 => (intro w' h; have FK := HS.out w' h; clear h; go_split_ands; go_simp; try rfl)
  case sa5 => exact HSD.out
  (try simp only [Act.put, List.setIfInBounds_toArray, List.set_cons_zero, List.set_cons_succ])
  refine wpAnyZ_take [9, 8, 7] (i := 6) (v := ?va6) (by simp only [List.getElem?_toArray, List.getElem?_cons_succ, List.getElem?_cons_zero]; rfl) (by decide +kernel) (fun _ _ _ h => h) (by rfl) ?ta6 ?sa6 ?_
  case ta6 => (intro w' h; have FK := HS.out w' h; clear h; go_split_ands; go_simp; try rfl)
  case sa6 => exact HSD.out
  (try simp only [Act.put, List.setIfInBounds_toArray, List.set_cons_zero, List.set_cons_succ])
  refine wpAnyZ_take [9, 8] (i := 7) (v := ?va7) (by simp only [List.getElem?_toArray, List.getElem?_cons_succ, List.getElem?_cons_zero]; rfl) (by decide +kernel) (fun _ _ _ h => h) (by rfl) ?ta7 ?sa7 ?_
  case ta7 => (intro w' h; clear h; go_simp; try rfl)
  case sa7 => exact HSD.out
  (try simp only [Act.put, List.setIfInBounds_toArray, List.set_cons_zero, List.set_cons_succ])
  obtain ⟨w8, hw8⟩ : ∃ t, t = W1.drew.alloc (.cells #[.int .i64 num, .int .i8 2, .int .i32 code, .int .u8 0, .int .i64 0, .int .i64 0, .string ⟨#[101]⟩] 64) := ⟨_, rfl⟩
  have HB8 := Lib.hid (show Below W1.heap.size W1 w8 from by rw [hw8]; exact below_al (Below.drew (Below.refl _ _)) _)
  have HS8 := Lib.hid (show w8.heap[x.wb]? = W1.heap[x.wb]? ∧ w8.heap[bw]? = W1.heap[bw]? ∧ w8.heap[bn]? = W1.heap[bn]? ∧ w8.heap[W.heap.size]? = W1.heap[W.heap.size]? from ⟨HB8.out.block _ (by omega), HB8.out.block _ (by omega), HB8.out.block _ (by omega), HB8.out.block _ (by omega)⟩)
  have HN8 := Lib.hid (show w8.heap[W1.heap.size]? = some (.cells #[.int .i64 num, .int .i8 2, .int .i32 code, .int .u8 0, .int .i64 0, .int .i64 0, .string ⟨#[101]⟩] 64 (0, 0)) from by rw [hw8]; exact heap_alloc_new _ _)
  have hz8 : w8.heap.size = W1.heap.size + 1 := by rw [hw8]; simp
  have HW8 := Lib.hid hw8
  clear hw8
  have HOX := Lib.hid (show w8.ownsRow w0.heap.size 64 7 (.slice pc cl.length kc) cl.length (tknsC cl) from by have := row_later H.out.cr (below_via HB8.out BW1.out); rwa [hcv] at this)
  have HON := Lib.hid (show ∀ u ∈ [Value.int .i64 num, Value.int .i8 2, Value.int .i32 code, Value.int .u8 0, Value.int .i64 0, Value.int .i64 0, Value.string ⟨#[101]⟩], u.oneCell' = true from fun u hu => by simp at hu; rcases hu with rfl | rfl | rfl | rfl | rfl | rfl | rfl <;> rfl)
  refine wpAnyZ_one (i := 8) (by decide +kernel) ?_
  refine wpOpK_value (v := .slice (some ⟨W1.heap.size, 0, none⟩) 1 1) (w' := w8) (by simp only [List.getElem?_toArray, List.getElem?_cons_succ, List.getElem?_cons_zero]; rfl) (by rfl) ?ma8 ⟨.inr HS8.out, ?_⟩
  case ma8 => (rw [HW8.out]; go_simp; try rfl)
  (try simp only [Act.put, List.setIfInBounds_toArray, List.set_cons_zero, List.set_cons_succ])
  refine wpAnyZ_one (i := 9) (by decide +kernel) ?_
  refine wpOpK_append (by simp only [List.getElem?_toArray, List.getElem?_cons_succ, List.getElem?_cons_zero]; rfl) rfl (.tmp 10) (.tmp 14) 55 rfl w0.heap.size 64 i0 _ 7 56 Try.underlying55 HI.out.1 HI.out.2.1 HI.out.2.2.1 HI.out.2.2.2 rfl (by decide) _ cl.length _ (by rfl) HOX.out ⟨W1.heap.size, 0, none⟩ 1 1 [.int .i64 num, .int .i8 2, .int .i32 code, .int .u8 0, .int .i64 0, .int .i64 0, .string ⟨#[101]⟩] (by rfl) rfl (World.news_of_block (cs := #[.int .i64 num, .int .i8 2, .int .i32 code, .int .u8 0, .int .i64 0, .int .i64 0, .string ⟨#[101]⟩]) (t := 64) (fr := (0, 0)) HN8.out) HON.out (by omega) ?h63 ?hby ?hbs ?_
  case h63 => (unfold maxLen; omega)
  case hby => omega
  case hbs => first | (have := H.out.ro.be.size; simp; omega)
  intro g cap W2 own gr hg hlt
  have HA9 := Lib.hid own
  have HG9 := Lib.hid gr
  have HL9 := Lib.hid hg
  have HS9 := Lib.hid (show W2.heap[x.wb]? = W1.heap[x.wb]? ∧ W2.heap[bw]? = W1.heap[bw]? ∧ W2.heap[bn]? = W1.heap[bn]? ∧ W2.heap[W.heap.size]? = W1.heap[W.heap.size]? from by
    have n1 := row_ne_blk H.out.cr H.out.wo (by decide)
    have n2 := row_ne_blk H.out.cr t1 (by decide)
    have n3 := row_ne_blk H.out.cr t2 (by decide)
    have n4 : x.cv.ownBlock ≠ some W.heap.size := fun e => by have := (row_lt H.out.cr _ e).1; omega
    rw [hcv] at n1 n2 n3 n4
    exact ⟨(gr.block _ (by omega) (fun e => n1 e.symm)).trans HS8.out.1, (gr.block _ (by omega) (fun e => n2 e.symm)).trans HS8.out.2.1, (gr.block _ (by omega) (fun e => n3 e.symm)).trans HS8.out.2.2.1, (gr.block _ (by omega) (fun e => n4 e.symm)).trans HS8.out.2.2.2⟩)
  clear own gr hg hlt
  refine ⟨.inr HS9.out, ?_⟩
  (try simp only [Act.put, List.setIfInBounds_toArray, List.set_cons_zero, List.set_cons_succ])
  refine wpAnyZ_take [11] (i := 10) (v := ?va10) (by simp only [List.getElem?_toArray, List.getElem?_cons_succ, List.getElem?_cons_zero]; rfl) (by decide +kernel) (fun _ _ _ h => h) (by rfl) ?ta10 ?sa10 ?_
  case ta10 => (intro w' h; have FK := HS.out w' h; clear h; go_split_ands; go_simp; try rfl)
  case sa10 => exact HS9.out
  (try simp only [Act.put, List.setIfInBounds_toArray, List.set_cons_zero, List.set_cons_succ])
  refine wpAnyZ_take [] (i := 11) (v := ?va11) (by simp only [List.getElem?_toArray, List.getElem?_cons_succ, List.getElem?_cons_zero]; rfl) (by decide +kernel) (fun _ _ _ h => h) (by rfl) ?ta11 ?sa11 ?_
  case ta11 => (intro w' h; clear h; go_simp; try rfl)
  case sa11 => exact HS9.out
  (try simp only [Act.put, List.setIfInBounds_toArray, List.set_cons_zero, List.set_cons_succ])
  obtain ⟨y0, y1, y2, y3, d0, d1, d2, d3, _⟩ := HS.out W2 HS9.out
  refine wpAnyZ_one (i := 12) (by decide +kernel) ?_
  refine wpOpK_skip (w' := W2.setCell ⟨x.wb, 3, none⟩ (.slice (some ⟨g, 0, none⟩) (cl.length + 1) cap)) (by simp only [List.getElem?_toArray, List.getElem?_cons_succ, List.getElem?_cons_zero]; rfl) (by rfl) ?ma12 ⟨.inl rfl, ?_⟩
  case ma12 => (go_simp; try rfl)
  (try simp only [Act.put, List.setIfInBounds_toArray, List.set_cons_zero, List.set_cons_succ])
  refine wpAnyZ_done (by kernel_rfl) (NoPanic.normal ?_) _
  have CP := H.out.called (W1 := w8) (W2 := W2) (v' := .slice (some ⟨g, 0, none⟩) (cl.length + 1) cap) (y := (num, code)) (below_via HB8.out BW1.out) (by exact HA9.out) (by rw [hcv]; exact HG9.out) (by rw [hcv]; exact HL9.out.imp (fun h => h.symm) fun h => ⟨_, rfl, Nat.le_of_eq h.symm⟩)
  obtain ⟨w3, hw3⟩ : ∃ z, z = W2.setCell ⟨x.wb, 3, none⟩ (.slice (some ⟨g, 0, none⟩) (cl.length + 1) cap) := ⟨_, rfl⟩
  rw [← hw3] at CP ⊢
  have KT := Lib.hid (CP.keepT H.out)
  obtain ⟨⟨x1, e1, A1, o1⟩, zz1, f1⟩ := CP
  have HC3 := Lib.hid (And.intro o1 (And.intro zz1 f1))
  clear o1 zz1 f1
  have HT3 := Lib.hid (HT.out.keep KT.out)
  have HA1 := Lib.hid A1
  clear A1 hw3 y0 y1 y2 y3 d0 d1 d2 d3 HSD HS HI HB8 HS8 HN8 hz8 HW8 HOX HON HA9 HG9 HL9 HS9 BW1 EV1 zw zbw zbn t1 t2 hcv zW1
  obtain ⟨t1, t2⟩ := HT3.out.at
  obtain ⟨db, dc, hdv, zdb, hdc⟩ := HA1.out.step hnum
  rw [← HSQ.out] at hdc
  have HS := Lib.hid (fun (w' : World) (hh : w'.heap[x.wb]? = w3.heap[x.wb]? ∧ w'.heap[bw]? = w3.heap[bw]? ∧ w'.heap[bn]? = w3.heap[bn]? ∧ w'.heap[db]? = w3.heap[db]?) => show (x.wb < w'.heap.size ∧ bw < w'.heap.size ∧ bn < w'.heap.size ∧ db < w'.heap.size ∧ w'.cell? ⟨bw, 0, none⟩ = some (.pointer (some ⟨x.wb, 0, none⟩)) ∧ w'.cell? ⟨bn, 0, none⟩ = some (.int .i64 num) ∧ w'.cell? ⟨x.wb, 2, none⟩ = some (.slice (some ⟨db, 0, none⟩) dl.length dc) ∧ w'.cell? ⟨db, num * 6, none⟩ = some (.int .i64 s.do_) ∧ w'.cell? ⟨db, num * 6 + 1, none⟩ = some (.int .i64 s.n) ∧ w'.cell? ⟨db, num * 6 + 2, none⟩ = some (.int .i64 s.more) ∧ w'.cell? ⟨db, num * 6 + 3, none⟩ = some (.bool s.yes) ∧ w'.cell? ⟨db, num * 6 + 4, none⟩ = some (.bool s.puts) ∧ w'.cell? ⟨db, num * 6 + 5, none⟩ = some (.int .i32 s.e)) from by
    obtain ⟨h1, h2, h3, h4⟩ := hh
    have z4 : db < w'.heap.size := by
      rw [Array.getElem?_eq_getElem zdb] at h4
      exact (Array.getElem?_eq_some_iff.1 h4).1
    have a := hdc w' h4
    replace h1 := h1.trans (e1.1 ▸ HA1.out.wo)
    replace h2 := h2.trans t1
    replace h3 := h3.trans t2
    rw [hdv] at h1
    exact ⟨lt_of_block h1, lt_of_block h2, lt_of_block h3, z4, cell_of_one h2, cell_of_one h3, by rw [cell_of_row _ _ _ _ _ _ h1]; rfl, a 0 _ rfl, a 1 _ rfl, a 2 _ rfl, a 3 _ rfl, a 4 _ rfl, a 5 _ rfl⟩)
  clear hdc
  have hnn : (num : Int) < (dl.length : Int) := by omega
  go_upto_region 2 with (fail)
  have HSD := Lib.hid (show w3.drew.heap[x.wb]? = w3.heap[x.wb]? ∧ w3.drew.heap[bw]? = w3.heap[bw]? ∧ w3.drew.heap[bn]? = w3.heap[bn]? ∧ w3.drew.heap[db]? = w3.heap[db]? from ⟨rfl, rfl, rfl, rfl⟩)
  refine wp_region_noPanic ?_
  refine wp_region_Z (fun w' => w'.heap[x.wb]? = w3.heap[x.wb]? ∧ w'.heap[bw]? = w3.heap[bw]? ∧ w'.heap[bn]? = w3.heap[bn]? ∧ w'.heap[db]? = w3.heap[db]?) 8 (by kernel_rfl) ?_
  change wpAnyZ _ _ _ _ _ _ 9 (Array.replicate 9 false) _ _
  refine wpAnyZ_take [6, 5, 3, 2, 1] (i := 0) (v := ?vb0) (by simp only [List.getElem?_toArray, List.getElem?_cons_succ, List.getElem?_cons_zero]; rfl) (by decide +kernel) (fun _ _ _ h => h) (by rfl) ?tb0 ?sb0 ?_
  case tb0 => (intro w' h; have FK := HS.out w' h; clear h; go_split_ands; go_simp; try rfl)
  case sb0 => exact HSD.out
  (try simp only [Act.put, List.setIfInBounds_toArray, List.set_cons_zero, List.set_cons_succ])
  refine wpAnyZ_take [6, 5, 3, 2] (i := 1) (v := ?vb1) (by simp only [List.getElem?_toArray, List.getElem?_cons_succ, List.getElem?_cons_zero]; rfl) (by decide +kernel) (fun _ _ _ h => h) (by rfl) ?tb1 ?sb1 ?_
  case tb1 => (intro w' h; have FK := HS.out w' h; clear h; go_split_ands; go_simp; try rfl)
  case sb1 => exact HSD.out
  (try simp only [Act.put, List.setIfInBounds_toArray, List.set_cons_zero, List.set_cons_succ])
  refine wpAnyZ_take [6, 5, 3] (i := 2) (v := ?vb2) (by simp only [List.getElem?_toArray, List.getElem?_cons_succ, List.getElem?_cons_zero]; rfl) (by decide +kernel) (fun _ _ _ h => h) (by rfl) ?tb2 ?sb2 ?_
  case tb2 => (intro w' h; clear h; go_simp; try rfl)
  case sb2 => exact HSD.out
  (try simp only [Act.put, List.setIfInBounds_toArray, List.set_cons_zero, List.set_cons_succ])
  refine wpAnyZ_take [6, 5] (i := 3) (v := ?vb3) (by simp only [List.getElem?_toArray, List.getElem?_cons_succ, List.getElem?_cons_zero]; rfl) (by decide +kernel) (fun _ _ _ h => h) (by rfl) ?tb3 ?sb3 ?_
  case tb3 => (intro w' h; have FK := HS.out w' h; clear h; go_split_ands; go_simp; try rfl)
  case sb3 => exact HSD.out
  (try simp only [Act.put, List.setIfInBounds_toArray, List.set_cons_zero, List.set_cons_succ])
  refine wpAnyZ_take [6, 5] (i := 4) (v := ?vb4) (by simp only [List.getElem?_toArray, List.getElem?_cons_succ, List.getElem?_cons_zero]; rfl) (by decide +kernel) (fun _ _ _ h => h) (by rfl) ?tb4 ?sb4 ?_
  case tb4 => (intro w' h; have FK := HS.out w' h; clear h; go_split_ands; go_simp; try rfl)
  case sb4 => exact HSD.out
  (try simp only [Act.put, List.setIfInBounds_toArray, List.set_cons_zero, List.set_cons_succ])
  refine wpAnyZ_take [6] (i := 5) (v := ?vb5) (by simp only [List.getElem?_toArray, List.getElem?_cons_succ, List.getElem?_cons_zero]; rfl) (by decide +kernel) (fun _ _ _ h => h) (by rfl) ?tb5 ?sb5 ?_
  case tb5 => (intro w' h; have FK := HS.out w' h; clear h; go_split_ands; go_simp; try rfl)
  case sb5 => exact HSD.out
  (try simp only [Act.put, List.setIfInBounds_toArray, List.set_cons_zero, List.set_cons_succ])
  refine wpAnyZ_take [] (i := 6) (v := ?vb6) (by simp only [List.getElem?_toArray, List.getElem?_cons_succ, List.getElem?_cons_zero]; rfl) (by decide +kernel) (fun _ _ _ h => h) (by rfl) ?tb6 ?sb6 ?_
  case tb6 => (intro w' h; have FK := HS.out w' h; clear h; go_split_ands; go_simp; try rfl)
  case sb6 => exact HSD.out
  (try simp only [Act.put, List.setIfInBounds_toArray, List.set_cons_zero, List.set_cons_succ])
  have zt : w3.heap.size < (w3.drew.alloc (.cells #[.int .i64 0, .int .i64 0, .int .i64 0, .bool false, .bool false, .int .i32 0] 60)).heap.size := by simp
  have HS7 := Lib.hid (show (w3.drew.alloc (.cells #[.int .i64 0, .int .i64 0, .int .i64 0, .bool false, .bool false, .int .i32 0] 60)).heap[x.wb]? = w3.heap[x.wb]? ∧ (w3.drew.alloc (.cells #[.int .i64 0, .int .i64 0, .int .i64 0, .bool false, .bool false, .int .i32 0] 60)).heap[bw]? = w3.heap[bw]? ∧ (w3.drew.alloc (.cells #[.int .i64 0, .int .i64 0, .int .i64 0, .bool false, .bool false, .int .i32 0] 60)).heap[bn]? = w3.heap[bn]? ∧ (w3.drew.alloc (.cells #[.int .i64 0, .int .i64 0, .int .i64 0, .bool false, .bool false, .int .i32 0] 60)).heap[db]? = w3.heap[db]? from ⟨heap_alloc_old _ _ (lt_of_block (e1.1 ▸ HA1.out.wo)), heap_alloc_old _ _ (lt_of_block t1), heap_alloc_old _ _ (lt_of_block t2), heap_alloc_old _ _ zdb⟩)
  refine wpAnyZ_one (i := 7) (by decide +kernel) ?_
  refine wpOpK_value (v := .pointer (some ⟨w3.heap.size, 0, none⟩)) (w' := w3.drew.alloc (.cells #[.int .i64 0, .int .i64 0, .int .i64 0, .bool false, .bool false, .int .i32 0] 60)) (by simp only [List.getElem?_toArray, List.getElem?_cons_succ, List.getElem?_cons_zero]; rfl) (by rfl) ?mb7 ⟨.inr HS7.out, ?_⟩
  case mb7 => (go_simp; try rfl)
  (try simp only [Act.put, List.setIfInBounds_toArray, List.set_cons_zero, List.set_cons_succ])
  refine wpAnyZ_one (i := 8) (by decide +kernel) ?_
  refine wpOpK_skip (w' := (w3.alloc (.cells #[.int .i64 s.do_, .int .i64 s.n, .int .i64 s.more, .bool s.yes, .bool s.puts, .int .i32 s.e] 60)).drew) (by simp only [List.getElem?_toArray, List.getElem?_cons_succ, List.getElem?_cons_zero]; rfl) (by rfl) ?mb8 ⟨.inl rfl, ?_⟩
  case mb8 => (go_simp; try rfl)
  (try simp only [Act.put, List.setIfInBounds_toArray, List.set_cons_zero, List.set_cons_succ])
  refine wpAnyZ_done (by kernel_rfl) (NoPanic.normal ?_) _
  obtain ⟨w4, hw4⟩ : ∃ z, z = (w3.alloc (.cells #[.int .i64 s.do_, .int .i64 s.n, .int .i64 s.more, .bool s.yes, .bool s.puts, .int .i32 s.e] 60)).drew := ⟨_, rfl⟩
  have B4 := Lib.hid (show Below w3.heap.size w3 w4 from by rw [hw4]; exact Below.drew (below_al (Below.refl _ _) _))
  have T4 := Lib.hid (show w4.heap[w3.heap.size]? = some (.cells #[.int .i64 s.do_, .int .i64 s.n, .int .i64 s.more, .bool s.yes, .bool s.puts, .int .i32 s.e] 60 (0, 0)) from by rw [hw4]; exact heap_alloc_new _ _)
  rw [← hw4]
  have zw4 := lt_of_block T4.out
  have HA4 := Lib.hid (HA1.out.later B4.out)
  have HT4 := Lib.hid (HT3.out.keep (KeepT.of_below B4.out))
  have HC4 := Lib.hid (RtPost.via e1 HC3.out.1 HC3.out.2.1 HC3.out.2.2 (RtPost.of_below HA1.out B4.out))
  have HU := Lib.hid (fun (w' : World) (hh : w'.heap[w3.heap.size]? = w4.heap[w3.heap.size]?) => show (w3.heap.size < w'.heap.size ∧ w'.cell? ⟨w3.heap.size, 2, none⟩ = some (.int .i64 s.more) ∧ w'.cell? ⟨w3.heap.size, 3, none⟩ = some (.bool s.yes) ∧ w'.cell? ⟨w3.heap.size, 4, none⟩ = some (.bool s.puts)) from by
    replace hh := hh.trans T4.out
    refine ⟨lt_of_block hh, ?_, ?_, ?_⟩ <;> (rw [cell_of_row _ _ _ _ _ _ hh]; rfl))
  clear hw4 HSD HS7 HS zt
  obtain ⟨u0, u1, u2, u3⟩ := HU.out w4 rfl
  obtain ⟨pu, hpu⟩ : ∃ b, b = s.puts := ⟨_, rfl⟩
  rw [← hpu] at HU HPO u3
  clear hpu
  cases pu
  case false =>
    go_wp2
    exact HPO.out _ HC4.out
  case true =>
    obtain ⟨q1, q2⟩ := HT4.out.at
    have zt1 := lt_of_block q1
    have zt2 := lt_of_block q2
    have zwo := lt_of_block HA4.out.wo
    have HS := Lib.hid (fun (w' : World) (hh : Below w4.heap.size w4 w') => show (x.wb < w'.heap.size ∧ bw < w'.heap.size ∧ bn < w'.heap.size ∧ w3.heap.size < w'.heap.size ∧ w'.cell? ⟨bw, 0, none⟩ = some (.pointer (some ⟨x.wb, 0, none⟩)) ∧ w'.cell? ⟨bn, 0, none⟩ = some (.int .i64 num) ∧ w'.cell? ⟨x.wb, 0, none⟩ = some (.pointer (some ⟨x1.rb, 0, none⟩)) ∧ w'.cell? ⟨w3.heap.size, 2, none⟩ = some (.int .i64 s.more)) from by
      have h1 := (hh.block _ zwo).trans HA4.out.wo
      have h2 := (hh.block _ zt1).trans q1
      have h3 := (hh.block _ zt2).trans q2
      rw [e1.1] at h1
      obtain ⟨v0, v1, _⟩ := HU.out w' (hh.block _ zw4)
      exact ⟨lt_of_block h1, lt_of_block h2, lt_of_block h3, v0, cell_of_one h2, cell_of_one h3, by rw [cell_of_row _ _ _ _ _ _ h1]; rfl, v1⟩)
    have hwr : IntKind.i64.wrap ((num : Int) + 1) = (num : Int) + 1 := IntWalk.i64_in _ (by omega)
    clear u0 u1 u2
    go_upto_region 4 with (fail)
    clear u3
    have HSD := Lib.hid (show Below w4.heap.size w4 w4.drew from Below.drew (Below.refl _ _))
    refine wp_region_noPanic ?_
    refine wp_region_Z (fun w' => Below w4.heap.size w4 w') 10 (by kernel_rfl) ?_
    change wpAnyZ _ _ _ _ _ _ 11 (Array.replicate 11 false) _ _
    refine wpAnyZ_take [3, 2, 1] (i := 0) (v := ?vc0) (by simp only [List.getElem?_toArray, List.getElem?_cons_succ, List.getElem?_cons_zero]; rfl) (by decide +kernel) (fun _ _ _ h => h) (by rfl) ?tc0 ?sc0 ?_
    case tc0 => (intro w' h; have FK := HS.out w' h; clear h; go_split_ands; go_simp; try rfl)
    case sc0 => exact HSD.out
    (try simp only [Act.put, List.setIfInBounds_toArray, List.set_cons_zero, List.set_cons_succ])
    refine wpAnyZ_take [3, 2] (i := 1) (v := ?vc1) (by simp only [List.getElem?_toArray, List.getElem?_cons_succ, List.getElem?_cons_zero]; rfl) (by decide +kernel) (fun _ _ _ h => h) (by rfl) ?tc1 ?sc1 ?_
    case tc1 => (intro w' h; have FK := HS.out w' h; clear h; go_split_ands; go_simp; try rfl)
    case sc1 => exact HSD.out
    (try simp only [Act.put, List.setIfInBounds_toArray, List.set_cons_zero, List.set_cons_succ])
    refine wpAnyZ_take [3] (i := 2) (v := ?vc2) (by simp only [List.getElem?_toArray, List.getElem?_cons_succ, List.getElem?_cons_zero]; rfl) (by decide +kernel) (fun _ _ _ h => h) (by rfl) ?tc2 ?sc2 ?_
    case tc2 => (intro w' h; clear h; go_simp; try rfl)
    case sc2 => exact HSD.out
    (try simp only [Act.put, List.setIfInBounds_toArray, List.set_cons_zero, List.set_cons_succ])
    refine wpAnyZ_take [] (i := 3) (v := ?vc3) (by simp only [List.getElem?_toArray, List.getElem?_cons_succ, List.getElem?_cons_zero]; rfl) (by decide +kernel) (fun _ _ _ h => h) (by rfl) ?tc3 ?sc3 ?_
    case tc3 => (intro w' h; have FK := HS.out w' h; clear h; go_split_ands; go_simp; try rfl)
    case sc3 => exact HSD.out
    (try simp only [Act.put, List.setIfInBounds_toArray, List.set_cons_zero, List.set_cons_succ])
    refine wpAnyZ_take [5] (i := 4) (v := ?vc4) (by simp only [List.getElem?_toArray, List.getElem?_cons_succ, List.getElem?_cons_zero]; rfl) (by decide +kernel) (fun _ _ _ h => h) (by rfl) ?tc4 ?sc4 ?_
    case tc4 => (intro w' h; clear h; go_simp; try rfl)
    case sc4 => exact HSD.out
    (try simp only [Act.put, List.setIfInBounds_toArray, List.set_cons_zero, List.set_cons_succ])
    refine wpAnyZ_take [] (i := 5) (v := ?vc5) (by simp only [List.getElem?_toArray, List.getElem?_cons_succ, List.getElem?_cons_zero]; rfl) (by decide +kernel) (fun _ _ _ h => h) (by rfl) ?tc5 ?sc5 ?_
    case tc5 => (intro w' h; have FK := HS.out w' h; clear h; go_split_ands; go_simp; try rfl)
    case sc5 => exact HSD.out
    (try simp only [Act.put, List.setIfInBounds_toArray, List.set_cons_zero, List.set_cons_succ])
    refine wpAnyZ_take [9] (i := 6) (v := ?vc6) (by simp only [List.getElem?_toArray, List.getElem?_cons_succ, List.getElem?_cons_zero]; rfl) (by decide +kernel) (fun _ _ _ h => h) (by rfl) ?tc6 ?sc6 ?_
    case tc6 => (intro w' h; have FK := HS.out w' h; clear h; go_split_ands; go_simp; try rfl)
    case sc6 => exact HSD.out
    (try simp only [Act.put, List.setIfInBounds_toArray, List.set_cons_zero, List.set_cons_succ])
    refine wpAnyZ_take [9, 8] (i := 7) (v := ?vc7) (by simp only [List.getElem?_toArray, List.getElem?_cons_succ, List.getElem?_cons_zero]; rfl) (by decide +kernel) (fun _ _ _ h => h) (by rfl) ?tc7 ?sc7 ?_
    case tc7 => (intro w' h; have FK := HS.out w' h; clear h; go_split_ands; go_simp; try rfl)
    case sc7 => exact HSD.out
    (try simp only [Act.put, List.setIfInBounds_toArray, List.set_cons_zero, List.set_cons_succ])
    refine wpAnyZ_take [9] (i := 8) (v := ?vc8) (by simp only [List.getElem?_toArray, List.getElem?_cons_succ, List.getElem?_cons_zero]; rfl) (by decide +kernel) (fun _ _ _ h => h) (by rfl) ?tc8 ?sc8 ?_
    case tc8 => (intro w' h; clear h; go_simp; try rfl)
    case sc8 => exact HSD.out
    (try simp only [Act.put, List.setIfInBounds_toArray, List.set_cons_zero, List.set_cons_succ])
    have HTK := Lib.hid (show Calls Try.prog 54 #[.pointer (some ⟨x.wb, 0, none⟩), .int .i64 ((num : Int) + 1)] w4.drew (fun e w' => ∃ bw bn, e = .returned (tkV bw bn) ∧ IsTk w' x.wb (tkV bw bn) (num + 1) ∧ Below w4.drew.heap.size w4.drew w') from by have := take_any x.wb (num + 1) w4.drew; rw [show (((num + 1 : Nat) : Int)) = (num : Int) + 1 from by omega] at this; exact this)
    refine wpAnyZ_one (i := 9) (by decide +kernel) ?_
    refine wpOpK_call (by simp only [List.getElem?_toArray, List.getElem?_cons_succ, List.getElem?_cons_zero]; rfl) (by rfl) (by go_simp; first | exact ⟨rfl, rfl⟩ | rfl) ?_
    refine (HTK.out).mono ?_
    rintro e w5 ⟨bw2, bn2, rfl, ht5, hb5⟩
    have HT5 := Lib.hid ht5
    have HB5 := Lib.hid (show Below w4.heap.size w4 w5 from (Below.drew (Below.refl _ _)).trans hb5)
    clear ht5 hb5
    have HA5 := Lib.hid (HA4.out.later HB5.out)
    refine ⟨_, rfl, .inr HB5.out, ?_⟩
    (try simp only [Act.put, List.setIfInBounds_toArray, List.set_cons_zero, List.set_cons_succ])
    refine wpAnyZ_one (i := 10) (by decide +kernel) ?_
    refine wpOpK_call (by simp only [List.getElem?_toArray, List.getElem?_cons_succ, List.getElem?_cons_zero]; rfl) (by rfl) (by go_simp; first | exact ⟨rfl, rfl⟩ | rfl) ?_
    refine (On_any w0 x1 P dl R M _ wl s.more (num + 1) bw2 bn2 w5 HA5.out (by rw [e1.1]; exact HT5.out) hP).mono ?_
    rintro e w6 ⟨rfl, hp6, _⟩
    have HP6 := Lib.hid hp6
    clear hp6
    refine ⟨_, rfl, .inl rfl, ?_⟩
    (try simp only [Act.put, List.setIfInBounds_toArray, List.set_cons_zero, List.set_cons_succ])
    refine wpAnyZ_done (by kernel_rfl) (NoPanic.normal ?_) _
    have B35 := Lib.hid (below_via HB5.out B4.out)
    have z5 := HB5.out.block _ zw4
    have T6 : w6.heap[w3.heap.size]? = w4.heap[w3.heap.size]? := by
      have h5 : w5.heap[w3.heap.size]? = w4.heap[w3.heap.size]? := z5
      refine (keep_ty HA5.out.ty HP6.out.fr (h5.trans T4.out) (by decide)).trans h5
    obtain ⟨u0, u1, u2, u3⟩ := HU.out w6 T6
    clear T6 z5
    go_wp2
    exact HPO.out _ (RtPost.via e1 HC3.out.1 HC3.out.2.1 HC3.out.2.2 (RtPost.via (SameV.refl _) (fun b hb => .inl hb) B35.out.size (fun b hb _ => B35.out.block b hb) HP6.out))
end Go.Proofs.Ytihjefncjkdnpaa
