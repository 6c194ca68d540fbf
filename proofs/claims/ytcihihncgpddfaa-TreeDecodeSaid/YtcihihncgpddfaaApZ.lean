/- Layer 10: apart: lists of ints of the call's own, each marked, each gone on with: each still has its own. -/
import Derived.Test.YtcihihncgpddfaaLtZ
import Derived.Test.YtcihihncgpddfaaAppK
import Derived.IntWalk
namespace Go.Proofs.Ytcihihncgpddfaa
open Go.RowKit
set_option linter.unusedVariables false
set_option linter.unusedSimpArgs false

abbrev cI (L : List Int) : List Value := L.map (Value.int .i64)
/-- the marks of list i; what it is gone on with -/
def mkI (i l : Nat) : List Int := List.replicate l (-100 - (i : Int))
def tlI (i q : Nat) : List Int := List.replicate q (-200 - (i : Int))
theorem mkI_len (i l : Nat) : (mkI i l).length = l := by simp [mkI]
theorem tlI_len (i q : Nat) : (tlI i q).length = q := by simp [tlI]
theorem tlI_succ (i q : Nat) : tlI i (q + 1) = tlI i q ++ [-200 - (i : Int)] := by simp [tlI, List.replicate_succ']
theorem mkI_at (i l k : Nat) (h : k < l) : (mkI i l).getD k 0 = -100 - (i : Int) := by
  unfold mkI
  rw [List.getD_eq_getElem?_getD, List.getElem?_replicate, if_pos h]; rfl
theorem tlI_at (i q k : Nat) (h : k < q) : (tlI i q).getD k 0 = -200 - (i : Int) := by
  unfold tlI
  rw [List.getD_eq_getElem?_getD, List.getElem?_replicate, if_pos h]; rfl
theorem mkI_step {X : List Int} {i k : Nat} (hk : k < X.length) (h : ∀ t, t < k → X.getD t 0 = -100 - (i : Int)) : ∀ t, t < k + 1 → (X.set k (-100 - (i : Int))).getD t 0 = -100 - (i : Int) := by
  intro t ht
  by_cases htk : t = k
  · subst htk
    simp [List.getD_eq_getElem?_getD, hk]
  · have := h t (by omega)
    simpa [List.getD_eq_getElem?_getD, List.getElem?_set, show ¬ k = t by omega] using this
theorem mkI_full {X : List Int} {i : Nat} (h : ∀ t, t < X.length → X.getD t 0 = -100 - (i : Int)) : X = mkI i X.length := by
  apply List.ext_getElem
  · rw [mkI_len]
  · intro t h1 h2
    have := h t h1
    rw [List.getD_eq_getElem?_getD, List.getElem?_eq_getElem h1] at this
    simpa [mkI] using this
theorem grown_trans {w w1 w2 : World} {row : Option Nat} (h1 : w.grownBy w1 row) (h2 : w1.grownBy w2 row) : w.grownBy w2 row :=
  ⟨h2.os.trans h1.os, h2.tape.trans h1.tape, h2.output.trans h1.output, Nat.le_trans h1.size h2.size, fun k hk hr => (h2.block k (Nat.lt_of_lt_of_le hk h1.size) hr).trans (h1.block k hk hr)⟩
theorem own_setI {w : World} {base g n cap : Nat} {X : List Int} (h : w.ownsRow base 3 1 (.slice (some ⟨g, 0, none⟩) n cap) n (cI X)) (k : Nat) (r : Int) :
    (w.setCell ⟨g, k, none⟩ (.int .i64 r)).ownsRow base 3 1 (.slice (some ⟨g, 0, none⟩) n cap) n (cI (X.set k r)) ∧ w.grownBy (w.setCell ⟨g, k, none⟩ (.int .i64 r)) (some g) := by
  obtain ⟨h1, g1⟩ := h.stored k (.int .i64 r)
  exact ⟨by unfold cI; rw [List.map_set]; exact h1, g1⟩

/-- lists of the call's own, told by an outer list at ⟨b, off⟩ -/
structure ToldI (w : World) (base b off : Nat) (V : List Value) (X : List (List Int)) : Prop where
  len : X.length = V.length
  blk : b < w.heap.size
  at_ : ∀ i, i < V.length → w.cell? ⟨b, off + i, none⟩ = some (V.getD i undef)
  own : ∀ i, i < V.length → w.ownsRow base 3 1 (V.getD i undef) (X.getD i []).length (cI (X.getD i []))
  dis : ∀ i j, i < V.length → j < V.length → i ≠ j → (V.getD i undef).ownBlock = none ∨ (V.getD i undef).ownBlock ≠ (V.getD j undef).ownBlock
  out : ∀ i, i < V.length → (V.getD i undef).ownBlock ≠ some b
theorem ToldI.grown {w w' : World} {base b off : Nat} {V : List Value} {X : List (List Int)} (h : ToldI w base b off V X) {i : Nat} (hi : i < V.length) {g : Nat} (hg : (V.getD i undef).ownBlock = some g) (gr : w.grownBy w' (some g)) {L : List Int}
    (ho : w'.ownsRow base 3 1 (V.getD i undef) L.length (cI L)) : ToldI w' base b off V (X.set i L) := by
  refine ⟨by simpa using h.len, Nat.lt_of_lt_of_le h.blk gr.size, fun j hj => gr.cell (h.at_ j hj) (fun e => h.out i hi (by rw [hg, ← e])), fun j hj => ?_, h.dis, h.out⟩
  by_cases hij : i = j
  · subst hij
    have : (X.set i L).getD i [] = L := by simp [List.getD_eq_getElem?_getD, h.len, hi]
    rw [this]; exact ho
  · have : (X.set i L).getD j [] = X.getD j [] := by simp [List.getD_eq_getElem?_getD, List.getElem?_set, hij]
    rw [this]
    refine (h.own j hj).kept gr ?_
    rcases h.dis j i hj hi (fun e => hij e.symm) with h1 | h1
    · exact .inl h1
    · exact .inr (by rw [hg] at h1; exact h1)
/-- two rows of the call's own whose elements differ in type -/
theorem own_own_ne {w : World} {b1 b2 : Nat} {e1 e2 : TypeId} {s1 s2 n1 n2 : Nat} {v1 v2 : Value} {x1 x2 : List Value} (h1 : w.ownsRow b1 e1 s1 v1 n1 x1) (h2 : w.ownsRow b2 e2 s2 v2 n2 x2) (hne : e1 ≠ e2) : v1.ownBlock = none ∨ v1.ownBlock ≠ v2.ownBlock := by
  rcases h1.2 with ⟨rfl, _⟩ | ⟨g1, cap1, cur1, rfl, _, hg1, _⟩
  · left; rfl
  · right
    rcases h2.2 with ⟨rfl, _⟩ | ⟨g2, cap2, cur2, rfl, _, hg2, _⟩
    · simp [Value.ownBlock]
    · intro he
      have : g1 = g2 := by simpa [Value.ownBlock] using he
      subst this
      rw [hg1] at hg2
      injection hg2 with hg2
      injection hg2 with _ ht
      exact hne ht
theorem own_lt {w : World} {b e s n : Nat} {v : Value} {x : List Value} (h : w.ownsRow b e s v n x) : ∀ g, v.ownBlock = some g → g < w.heap.size ∧ b ≤ g := by
  intro g hg
  rcases h.2 with ⟨rfl, _⟩ | ⟨g', cap, cur, rfl, hb, hh, _⟩
  · simp [Value.ownBlock] at hg
  · have : g' = g := by simpa [Value.ownBlock] using hg
    subst this
    refine ⟨?_, hb⟩
    rcases Nat.lt_or_ge g' w.heap.size with h' | h'
    · exact h'
    · rw [Array.getElem?_eq_none h'] at hh; cases hh
theorem own_some {w : World} {b e s n : Nat} {v : Value} {x : List Value} (h : w.ownsRow b e s v n x) (hn : 0 < n) : ∃ g, v.ownBlock = some g := by
  rcases h.2 with ⟨rfl, h0⟩ | ⟨g', cap, cur, rfl, _⟩
  · omega
  · exact ⟨g', rfl⟩
/-- the value v is a slice, from its block's beginning, that reads L -/
def RdI (w : World) (v : Value) (L : List Int) : Prop := ∃ p c, v = .slice p L.length c ∧ L.length ≤ c ∧ (L.length ≠ 0 → ∃ g, p = some ⟨g, 0, none⟩ ∧ g < w.heap.size ∧ ∀ i, i < L.length → w.cell? ⟨g, i, none⟩ = some (.int .i64 (L.getD i 0)))
theorem RdI.kept {w w2 : World} {v : Value} {L : List Int} {row : Option Nat} (h : RdI w v L) (gr : w.grownBy w2 row) (hv : v.ownBlock = none ∨ v.ownBlock ≠ row) : RdI w2 v L := by
  obtain ⟨p, c, rfl, hc, hs⟩ := h
  refine ⟨p, c, rfl, hc, fun h0 => ?_⟩
  obtain ⟨b, rfl, hb, hr⟩ := hs h0
  have hne : some b ≠ row := by
    rcases hv with hv | hv
    · simp [Value.ownBlock] at hv
    · exact hv
  exact ⟨b, rfl, Nat.lt_of_lt_of_le hb gr.size, fun i hi => gr.cell (hr i hi) hne⟩
theorem RdI.of_own {w : World} {base n : Nat} {v : Value} {L : List Int} (h : w.ownsRow base 3 1 v n (cI L)) (hn : n = L.length) : RdI w v L := by
  subst hn
  rcases row_form h with ⟨rfl, h0, _⟩ | ⟨g, c, rfl, h1, h2, h3, _⟩
  · exact ⟨none, 0, by rw [h0], by omega, fun h => absurd h0 h⟩
  · refine ⟨_, c, rfl, h1, fun _ => ⟨g, rfl, h3, fun i hi => ?_⟩⟩
    have := row_cells h i (.int .i64 (L.getD i 0)) (by unfold cI; rw [List.getElem?_map, List.getD_eq_getElem?_getD, List.getElem?_eq_getElem hi]; rfl)
    rwa [Nat.zero_add] at this
theorem RdI.left {w : World} {g : Nat} {L M : List Int} (h : ∀ i, i < (L ++ M).length → w.cell? ⟨g, i, none⟩ = some (.int .i64 ((L ++ M).getD i 0))) : ∀ i, i < L.length → w.cell? ⟨g, i, none⟩ = some (.int .i64 (L.getD i 0)) := fun i hi => by
  rw [h i (by rw [List.length_append]; omega), List.getD_eq_getElem?_getD, List.getElem?_append_left hi, ← List.getD_eq_getElem?_getD]
/-- what does not change: w is the world in which the lists have their marks -/
structure Sta (w : World) (base b : Nat) (V : List Value) : Prop where
  blt : b < w.heap.size
  vlt : ∀ t, t < V.length → ∀ g, (V.getD t undef).ownBlock = some g → g < w.heap.size
  dis : ∀ i j, i < V.length → j < V.length → i ≠ j → (V.getD i undef).ownBlock = none ∨ (V.getD i undef).ownBlock ≠ (V.getD j undef).ownBlock
  out : ∀ i, i < V.length → (V.getD i undef).ownBlock ≠ some b
  bs : base ≤ w.heap.size
def farI (w : World) (v gv : Value) : Prop := gv.ownBlock = v.ownBlock ∨ ∃ h, gv.ownBlock = some h ∧ w.heap.size ≤ h
/-- all but list i, which is being gone on with -/
structure Co (w wr : World) (base b off : Nat) (V : List Value) (ln : Nat → Nat) (i : Nat) (Gs : List Value) (mv : Value) : Prop where
  a : ∀ t, t < V.length → wr.cell? ⟨b, off + t, none⟩ = some (V.getD t undef)
  rd : ∀ t, t < V.length → t ≠ i → RdI wr (V.getD t undef) (mkI t (ln t))
  own : ∀ t, i < t → t < V.length → wr.ownsRow base 3 1 (V.getD t undef) (ln t) (cI (mkI t (ln t)))
  gl : Gs.length = i
  gs : ∀ t, t < i → wr.ownsRow base 3 1 (Gs.getD t undef) (ln t + 70) (cI (mkI t (ln t) ++ tlI t 70))
  gb : ∀ t, t < i → farI w (V.getD t undef) (Gs.getD t undef)
  mo : wr.ownsRow w.heap.size 45 1 mv i Gs
  be : Below base w wr
theorem Co.kept {w wr w2 : World} {base b off i : Nat} {V Gs : List Value} {ln : Nat → Nat} {mv : Value} {row : Option Nat} (h : Co w wr base b off V ln i Gs mv) (st : Sta w base b V) (gr : wr.grownBy w2 row) (hb : row ≠ some b)
    (hv : ∀ t, t < V.length → t ≠ i → (V.getD t undef).ownBlock = none ∨ (V.getD t undef).ownBlock ≠ row) (hg : ∀ t, t < i → (Gs.getD t undef).ownBlock = none ∨ (Gs.getD t undef).ownBlock ≠ row) (hm : mv.ownBlock = none ∨ mv.ownBlock ≠ row) (hr : ∀ k, row = some k → base ≤ k) : Co w w2 base b off V ln i Gs mv :=
  ⟨fun t ht => gr.cell (h.a t ht) (fun e => hb e.symm), fun t ht hi => (h.rd t ht hi).kept gr (hv t ht hi), fun t h1 h2 => (h.own t h1 h2).kept gr (hv t h2 (by omega)), h.gl, fun t ht => (h.gs t ht).kept gr (hg t ht), h.gb, h.mo.kept gr hm,
    Below.grown h.be gr (Nat.le_trans st.bs h.be.size) hr⟩
/-- between two lists -/
structure Ap (w wr : World) (base b off : Nat) (V : List Value) (ln : Nat → Nat) (i : Nat) (Gs : List Value) (mv : Value) : Prop where
  co : Co w wr base b off V ln i Gs mv
  rdi : i < V.length → RdI wr (V.getD i undef) (mkI i (ln i))
  owi : i < V.length → wr.ownsRow base 3 1 (V.getD i undef) (ln i) (cI (mkI i (ln i)))
  sz : w.heap.size ≤ wr.heap.size
/-- within list i: q more are there -/
structure Inn (w wr : World) (base b off : Nat) (V : List Value) (ln : Nat → Nat) (i q : Nat) (Gs : List Value) (mv gv : Value) : Prop where
  co : Co w wr base b off V ln i Gs mv
  rdi : RdI wr (V.getD i undef) (mkI i (ln i))
  go : wr.ownsRow base 3 1 gv (ln i + q) (cI (mkI i (ln i) ++ tlI i q))
  fr : farI w (V.getD i undef) gv
  gd : ∀ t, t < i → (Gs.getD t undef).ownBlock ≠ gv.ownBlock
  sz : w.heap.size ≤ wr.heap.size
theorem Ap.start {w wr : World} {base b off i : Nat} {V Gs : List Value} {ln : Nat → Nat} {mv : Value} (h : Ap w wr base b off V ln i Gs mv) (st : Sta w base b V) (hi : i < V.length) : Inn w wr base b off V ln i 0 Gs mv (V.getD i undef) := by
  refine ⟨h.co, h.rdi hi, by simpa [tlI] using h.owi hi, .inl rfl, fun t ht he => ?_, h.sz⟩
  obtain ⟨g, hg⟩ := own_some (h.co.gs t ht) (by omega)
  rw [hg] at he
  rcases h.co.gb t ht with h1 | ⟨k, h1, h2⟩
  · rcases st.dis t i (by omega) hi (by omega) with h3 | h3
    · rw [h3, hg] at h1; cases h1
    · exact h3 (by rw [← h1, hg, he])
  · rw [hg] at h1
    cases h1
    have := st.vlt i hi _ he.symm
    omega
theorem Inn.alloc {w wr : World} {base b off i q : Nat} {V Gs : List Value} {ln : Nat → Nat} {mv gv : Value} (h : Inn w wr base b off V ln i q Gs mv gv) (st : Sta w base b V) (o : Obj) : Inn w (wr.alloc o) base b off V ln i q Gs mv gv := by
  have gr : wr.grownBy (wr.alloc o) none := ⟨rfl, rfl, rfl, by simp, fun k hk _ => heap_alloc_old wr o hk⟩
  have key : ∀ v : Value, v.ownBlock = none ∨ v.ownBlock ≠ none := fun v => by by_cases h : v.ownBlock = none <;> simp [h]
  exact ⟨h.co.kept st gr (by simp) (fun t _ _ => key _) (fun t _ => key _) (key _) (fun k hk => by cases hk), h.rdi.kept gr (key _), h.go.kept gr (key _), h.fr, h.gd, by have := h.sz; simp; omega⟩
theorem farI_ne {w wr : World} {base b off i q : Nat} {V Gs : List Value} {ln : Nat → Nat} {mv gv : Value} (h : Inn w wr base b off V ln i q Gs mv gv) (st : Sta w base b V) (hi : i < V.length) : gv.ownBlock ≠ some b ∧ ∀ t, t < V.length → t ≠ i → (V.getD t undef).ownBlock = none ∨ (V.getD t undef).ownBlock ≠ gv.ownBlock := by
  rcases h.fr with h1 | ⟨k, h1, h2⟩
  · refine ⟨by rw [h1]; exact st.out i hi, fun t ht hti => ?_⟩
    rw [h1]
    exact st.dis t i ht hi hti
  · refine ⟨by rw [h1]; intro e; cases e; have := st.blt; omega, fun t ht hti => .inr fun e => ?_⟩
    rw [h1] at e
    have := st.vlt t ht k e
    omega
theorem Inn.app {w wr w2 : World} {base b off i q : Nat} {V Gs : List Value} {ln : Nat → Nat} {mv gv v2 : Value} (h : Inn w wr base b off V ln i q Gs mv gv) (st : Sta w base b V) (hi : i < V.length) (gr : wr.grownBy w2 gv.ownBlock)
    (ho : w2.ownsRow base 3 1 v2 (ln i + (q + 1)) (cI (mkI i (ln i) ++ tlI i (q + 1)))) (loc : v2.ownBlock = gv.ownBlock ∨ (v2.ownBlock = some wr.heap.size ∧ wr.grownBy w2 none)) : Inn w w2 base b off V ln i (q + 1) Gs mv v2 := by
  obtain ⟨f1, f2⟩ := farI_ne h st hi
  have hm : mv.ownBlock = none ∨ mv.ownBlock ≠ gv.ownBlock := own_own_ne h.co.mo h.go (by decide)
  have hco : Co w w2 base b off V ln i Gs mv := h.co.kept st gr f1 f2 (fun t ht => .inr (h.gd t ht)) hm (fun k hk => (own_lt h.go k hk).2)
  have key : ∀ v : Value, v.ownBlock = none ∨ v.ownBlock ≠ none := fun v => by by_cases h : v.ownBlock = none <;> simp [h]
  refine ⟨hco, ?_, ho, ?_, fun t ht => ?_, Nat.le_trans h.sz gr.size⟩
  · rcases loc with l | ⟨l, g2⟩
    · by_cases he : (V.getD i undef).ownBlock = gv.ownBlock
      · -- both in one row
        obtain ⟨p, c, hv, hc, hs⟩ := h.rdi
        refine ⟨p, c, hv, hc, fun h0 => ?_⟩
        obtain ⟨g, rfl, hg, hr⟩ := hs h0
        obtain ⟨p2, c2, hv2, _, hs2⟩ := RdI.of_own ho (by simp [mkI_len, tlI_len])
        obtain ⟨g2, rfl, hgw, hr2⟩ := hs2 (by simp [tlI_len])
        have hgg : g2 = g := by
          rw [hv2] at l
          rw [hv, ← l] at he
          simp only [Value.ownBlock, Option.some.injEq] at he
          exact he.symm
        subst hgg
        exact ⟨g2, rfl, hgw, RdI.left hr2⟩
      · exact h.rdi.kept gr (.inr he)
    · exact h.rdi.kept g2 (key _)
  · rcases loc with l | ⟨l, _⟩
    · rcases h.fr with f | ⟨k, f, f'⟩
      · exact .inl (l.trans f)
      · exact .inr ⟨k, l.trans f, f'⟩
    · exact .inr ⟨_, l, h.co.be.size⟩
  · rcases loc with l | ⟨l, _⟩
    · rw [l]; exact h.gd t ht
    · rw [l]
      intro e
      have := (own_lt (h.co.gs t ht) _ e).1
      omega
theorem Inn.done {w wr w2 : World} {base b off i : Nat} {V Gs : List Value} {ln : Nat → Nat} {mv gv m2 : Value} (h : Inn w wr base b off V ln i 70 Gs mv gv) (st : Sta w base b V) (hi : i < V.length) (gr : wr.grownBy w2 mv.ownBlock)
    (ho : w2.ownsRow w.heap.size 45 1 m2 (i + 1) (Gs ++ [gv])) : Ap w w2 base b off V ln (i + 1) (Gs ++ [gv]) m2 := by
  have mlt : ∀ k, mv.ownBlock = some k → w.heap.size ≤ k := fun k hk => (own_lt h.co.mo k hk).2
  have nb : mv.ownBlock ≠ some b := fun e => by have := mlt b e; have := st.blt; omega
  have nv : ∀ t, t < V.length → (V.getD t undef).ownBlock = none ∨ (V.getD t undef).ownBlock ≠ mv.ownBlock := fun t ht => by
    by_cases he : (V.getD t undef).ownBlock = mv.ownBlock
    · left
      cases hk : (V.getD t undef).ownBlock with
      | none => rfl
      | some k =>
        have h1 := st.vlt t ht k hk
        have h2 := mlt k (by rw [← he, hk])
        omega
    · exact .inr he
  have be : Below base w w2 := Below.grown h.co.be gr (Nat.le_trans st.bs h.co.be.size) (fun k hk => Nat.le_trans st.bs (mlt k hk))
  have len : Gs.length = i := h.co.gl
  have gl : ∀ t, t < i → (Gs ++ [gv]).getD t undef = Gs.getD t undef := fun t ht => by simp [List.getD_eq_getElem?_getD, List.getElem?_append_left (show t < Gs.length by omega)]
  have gi : (Gs ++ [gv]).getD i undef = gv := by simp [List.getD_eq_getElem?_getD, ← len]
  have gown : w2.ownsRow base 3 1 gv (ln i + 70) (cI (mkI i (ln i) ++ tlI i 70)) := h.go.kept gr (own_own_ne h.go h.co.mo (by decide))
  refine ⟨⟨fun t ht => gr.cell (h.co.a t ht) (fun e => nb e.symm), fun t ht hti => ?_, fun t h1 h2 => (h.co.own t (by omega) h2).kept gr (nv t h2), by simp [len], fun t ht => ?_, fun t ht => ?_, ho, be⟩, fun hi2 => ?_, fun hi2 => ?_, Nat.le_trans h.sz gr.size⟩
  · by_cases e : t = i
    · subst e; exact h.rdi.kept gr (nv t ht)
    · exact (h.co.rd t ht e).kept gr (nv t ht)
  · by_cases e : t = i
    · subst e; rw [gi]; exact gown
    · rw [gl t (by omega)]
      exact (h.co.gs t (by omega)).kept gr (own_own_ne (h.co.gs t (by omega)) h.co.mo (by decide))
  · by_cases e : t = i
    · subst e; rw [gi]; exact h.fr
    · rw [gl t (by omega)]; exact h.co.gb t (by omega)
  · exact (h.co.rd (i + 1) hi2 (by omega)).kept gr (nv _ hi2)
  · exact (h.co.own (i + 1) (by omega) hi2).kept gr (nv _ hi2)
/-- list i has its first k marks -/
def Marked (X : List (List Int)) (i k : Nat) : Prop := ∀ t, t < k → (X.getD i []).getD t 0 = -100 - (i : Int)

theorem Inn.val {w wr : World} {base b off i q : Nat} {V Gs : List Value} {ln : Nat → Nat} {mv gv : Value} (h : Inn w wr base b off V ln i q Gs mv gv) : ∃ G, G = gv := ⟨_, rfl⟩
theorem Inn.mval {w wr : World} {base b off i q : Nat} {V Gs : List Value} {ln : Nat → Nat} {mv gv : Value} (h : Inn w wr base b off V ln i q Gs mv gv) : ∃ G, G = mv := ⟨_, rfl⟩
theorem Ap.mval {w wr : World} {base b off i : Nat} {V Gs : List Value} {ln : Nat → Nat} {mv : Value} (h : Ap w wr base b off V ln i Gs mv) : ∃ G, G = mv := ⟨_, rfl⟩
theorem below_of {a w w1 : World} {base : Nat} (h2 : Below base w w1) (h1 : Below base a w) : Below base a w1 := h1.trans h2
theorem Ap.drewN {w wr : World} {base b off i : Nat} {V Gs : List Value} {ln : Nat → Nat} {mv : Value} (h : Ap w wr base b off V ln i Gs mv) (n : Nat) : Ap w (wr.drewN n) base b off V ln i Gs mv :=
  ⟨⟨h.co.a, h.co.rd, h.co.own, h.co.gl, h.co.gs, h.co.gb, h.co.mo, ⟨h.co.be.os, h.co.be.tape, h.co.be.output, h.co.be.size, h.co.be.block⟩⟩, h.rdi, h.owi, h.sz⟩
/-- what is read of list i -/
structure Looks (wr : World) (b off i l : Nat) (p : Option Addr) (c g2 c2 hm : Nat) : Prop where
  cv : wr.cell? ⟨b, off + i, none⟩ = some (.slice p l c)
  rd : ∀ k, k < l → ∃ g, p = some ⟨g, 0, none⟩ ∧ g < wr.heap.size ∧ wr.cell? ⟨g, k, none⟩ = some (.int .i64 (-100 - (i : Int)))
  cm : wr.cell? ⟨hm, i, none⟩ = some (.slice (some ⟨g2, 0, none⟩) (l + 70) c2)
  gd : ∀ k, l ≤ k → k < l + 70 → wr.cell? ⟨g2, k, none⟩ = some (.int .i64 (-200 - (i : Int)))
  zb : b < wr.heap.size
  zm : hm < wr.heap.size
  zg : g2 < wr.heap.size
theorem Looks.drewN {wr : World} {b off i l : Nat} {p : Option Addr} {c g2 c2 hm : Nat} (h : Looks wr b off i l p c g2 c2 hm) (n : Nat) : Looks (wr.drewN n) b off i l p c g2 c2 hm := ⟨h.cv, h.rd, h.cm, h.gd, h.zb, h.zm, h.zg⟩
theorem Ap.look {w wr : World} {base b off n i : Nat} {V Gs : List Value} {ln : Nat → Nat} {mv : Value} (h : Ap w wr base b off V ln n Gs mv) (st : Sta w base b V) (hV : V.length = n) (hi : i < n) :
    ∃ p c g2 c2 hm cm, mv = .slice (some ⟨hm, 0, none⟩) n cm ∧ n ≤ cm ∧ ln i ≤ c ∧ Looks wr b off i (ln i) p c g2 c2 hm := by
  obtain ⟨p, c, hv, hc, hs⟩ := h.co.rd i (by omega) (by omega)
  obtain ⟨p2, c2, hv2, hc2, hs2⟩ := RdI.of_own (h.co.gs i hi) (by simp [mkI_len, tlI_len])
  obtain ⟨g2, rfl, zg2, hr2⟩ := hs2 (by simp [tlI_len])
  simp only [mkI_len] at hv hc hs
  simp only [List.length_append, mkI_len, tlI_len] at hv2 hc2 hr2
  obtain ⟨hm, hmb⟩ := own_some h.co.mo (by omega)
  have hmo := h.co.mo.cells hmb
  obtain ⟨cm, hmv, hcm⟩ : ∃ cm, mv = .slice (some ⟨hm, 0, none⟩) n cm ∧ n ≤ cm := by
    rcases h.co.mo.2 with ⟨rfl, h0⟩ | ⟨g', cap, cur, rfl, _, _, hnc, _⟩
    · omega
    · have : g' = hm := by simpa [Value.ownBlock] using hmb
      subst this
      exact ⟨cap, rfl, hnc⟩
  refine ⟨p, c, g2, c2, hm, cm, hmv, hcm, hc, ?_, fun k hk => ?_, ?_, fun k hk1 hk2 => ?_, Nat.lt_of_lt_of_le st.blt ?_, (own_lt h.co.mo hm hmb).1, zg2⟩
  · rw [h.co.a i (by omega), hv]
  · obtain ⟨g, rfl, hg, hr⟩ := hs (by omega)
    have r0 := hr k hk
    rw [mkI_at i (ln i) k hk] at r0
    exact ⟨g, rfl, hg, r0⟩
  · have hG : Gs[i]? = some (Gs.getD i undef) := by
      rw [List.getD_eq_getElem?_getD, List.getElem?_eq_getElem (show i < Gs.length by rw [h.co.gl]; exact hi)]; rfl
    have := hmo i _ hG
    rw [Addr.add_mid, Nat.zero_add] at this
    rw [this, hv2]
  · have r0 := hr2 k (by omega)
    have e : (mkI i (ln i) ++ tlI i 70).getD k 0 = -200 - (i : Int) := by
      rw [List.getD_eq_getElem?_getD, List.getElem?_append_right (by rw [mkI_len]; exact hk1)]
      rw [mkI_len, ← List.getD_eq_getElem?_getD]
      exact tlI_at i 70 _ (by omega)
    rw [e] at r0
    exact r0
  · exact h.sz
/-- the lists have their marks: from here on they are gone on with -/
theorem ap_zero {w wm : World} {base b off n : Nat} {V : List Value} {X : List (List Int)} (hV : V.length = n) (hT : ToldI wm base b off V X) (hm : ∀ t, t < n → Marked X t (X.getD t []).length) (hb : Below base w wm) (hbase : base ≤ w.heap.size) :
    Sta wm base b V ∧ Ap wm wm base b off V (fun t => (X.getD t []).length) 0 [] (.slice none 0 0) := by
  have st : Sta wm base b V := ⟨hT.blk, fun t ht g hg => (own_lt (hT.own t ht) g hg).1, hT.dis, hT.out, Nat.le_trans hbase hb.size⟩
  have e : ∀ t, t < V.length → X.getD t [] = mkI t (X.getD t []).length := fun t ht => mkI_full (hm t (by omega))
  have ow : ∀ t, t < V.length → wm.ownsRow base 3 1 (V.getD t undef) (X.getD t []).length (cI (mkI t (X.getD t []).length)) := fun t ht => by
    have h := hT.own t ht
    rw [← e t ht]
    exact h
  have rd : ∀ t, t < V.length → RdI wm (V.getD t undef) (mkI t (X.getD t []).length) := fun t ht => RdI.of_own (ow t ht) (by rw [mkI_len])
  exact ⟨st, ⟨fun t ht => hT.at_ t ht, fun t ht _ => rd t ht, fun t _ ht => ow t ht, rfl, fun t ht => by omega, fun t ht => by omega, ⟨rfl, .inl ⟨rfl, rfl⟩⟩, Below.refl _ _⟩, fun h => rd 0 h, fun h => ow 0 h, Nat.le_refl _⟩

theorem cell_one_newI (w : World) (v : Value) (t : TypeId) : ∀ j u, [v][j]? = some u → (w.alloc (.cells #[v] t)).cell? ((⟨w.heap.size, 0, none⟩ : Addr).add j) = some u := by
  intro j u hj
  cases j with
  | zero => simp at hj; subst hj; simp [Addr.add, go_sem]
  | succ j => simp at hj
set_option maxRecDepth 100000 in
set_option maxHeartbeats 32000000 in
theorem apart_some (base b off n cap : Nat) (V : List Value) (X : List (List Int)) (w : World) (hV : V.length = n) (hT : ToldI w base b off V X) (hn : n ≤ 1099511627776) (hl : ∀ L ∈ X, L.length ≤ 1099511627776) (hbase : base ≤ w.heap.size) :
    Calls Try.prog 36 #[.slice (some ⟨b, off, none⟩) n cap] w fun e w' => e = .returned (.bool true) ∧ Below base w w' := by
  have HV := Lib.hid hV
  have HT := Lib.hid hT
  have HL := Lib.hid hl
  clear hV hT hl
  go_enter Try.func36, Try.ntmps36
  go_wp2
  go_loopw [3] (fun i wr => ∃ k : Nat, ∃ X' : List (List Int), k ≤ n ∧ i = .int .i64 k ∧ RowKit.Hid (ToldI wr base b off V X' ∧ X'.map List.length = X.map List.length ∧ ∀ t, t < k → Marked X' t (X'.getD t []).length) ∧ Below base w wr) (fun i _ => n - (intOf i).toNat)
  case atStart => exact ⟨0, X, Nat.zero_le _, rfl, Lib.hid ⟨HT.out, rfl, fun t ht => by omega⟩, Below.refl _ _⟩
  case round =>
    obtain ⟨k, X', hk, rfl, HS, BW⟩ := hrel
    by_cases hlt : k < n
    · have hbw : b < wr.heap.size := HS.out.1.blk
      have hlk : (X.getD k []).length ≤ 1099511627776 := by
        rw [List.getD_eq_getElem?_getD]
        cases h2 : X[k]? with
        | none => simp
        | some L => exact HL.out L (List.mem_of_getElem? h2)
      obtain ⟨wo, rfl⟩ : ∃ wo : World, wo = wr := ⟨_, rfl⟩
      go_wp2
      go_loopw [4] (fun j wr => ∃ t : Nat, ∃ X2 : List (List Int), t ≤ (X.getD k []).length ∧ j = .int .i64 t ∧ RowKit.Hid (ToldI wr base b off V X2 ∧ X2.map List.length = X.map List.length ∧ (∀ s, s < k → Marked X2 s (X2.getD s []).length) ∧ Marked X2 k t) ∧ Below base w wr) (fun j _ => (X.getD k []).length - (intOf j).toNat)
      case atStart => exact ⟨0, X', Nat.zero_le _, rfl, Lib.hid ⟨HS.out.1, HS.out.2.1, HS.out.2.2, fun s hs => by omega⟩, BW⟩
      case round =>
        obtain ⟨t, X2, ht, rfl, HS2, BW2⟩ := hrel
        have cV := HS2.out.1.at_ k (by rw [HV.out]; exact hlt)
        have el : (X2.getD k []).length = (X.getD k []).length := by
          have h1 := congrArg (fun l => l.getD k 0) HS2.out.2.1
          simp only [List.getD_eq_getElem?_getD, List.getElem?_map] at h1 ⊢
          cases h2 : X2[k]? <;> cases h3 : X[k]? <;> simp_all
        have rowk := HS2.out.1.own k (by rw [HV.out]; exact hlt)
        obtain ⟨pk, ck, hvk, hck, hgk⟩ : ∃ p c, V.getD k undef = .slice p (X.getD k []).length c ∧ (X.getD k []).length ≤ c ∧ ((X.getD k []).length ≠ 0 → ∃ g, p = some ⟨g, 0, none⟩ ∧ base ≤ g ∧ g < wr.heap.size) := by
          rw [← el]
          rcases row_form rowk with ⟨h1, h2, _⟩ | ⟨g, c, h1, h2, _, h4, h5⟩
          · exact ⟨none, 0, by rw [h2]; exact h1, by omega, fun h => absurd h2 h⟩
          · exact ⟨_, c, h1, h2, fun _ => ⟨g, rfl, h5, h4⟩⟩
        rw [hvk] at cV
        clear rowk
        by_cases htl : t < (X.getD k []).length
        · obtain ⟨g, rfl, hgb, hgw⟩ := hgk (by omega)
          have hfz := HS2.out.1.own k (by rw [HV.out]; exact hlt)
          rw [hvk, el] at hfz
          have f0 := hfz.frozenAt t
          have c0 : wr.cell? ⟨g, t, none⟩ = some (.int .i64 ((X2.getD k []).getD t 0)) := by
            have := row_cells hfz t (.int .i64 ((X2.getD k []).getD t 0)) (by unfold cI; rw [List.getElem?_map, List.getD_eq_getElem?_getD (l := X2.getD k []), List.getElem?_eq_getElem (show t < (X2.getD k []).length by rw [el]; exact htl)]; rfl)
            rwa [Nat.zero_add] at this
          have q1 : IntKind.i64.wrap (-100 - (k : Int)) = -100 - (k : Int) := IntWalk.i64_in _ (by omega)
          have HFZ := Lib.hid hfz
          clear hfz
          go_wp2
          go_roundw
          case rel =>
            obtain ⟨ow, gr⟩ := own_setI HFZ.out t (-100 - (k : Int))
            refine ⟨t + 1, X2.set k ((X2.getD k []).set t (-100 - (k : Int))), by omega, by go_num, ?_, ?_⟩
            · have hkV : k < V.length := by rw [HV.out]; exact hlt
              have hX2 : k < X2.length := by rw [HS2.out.1.len]; exact hkV
              have hg2 : (V.getD k undef).ownBlock = some g := by rw [hvk]; rfl
              refine Lib.hid ⟨HS2.out.1.grown hkV hg2 gr (by rw [hvk, List.length_set, el]; exact ow), ?_, fun s hs => ?_, ?_⟩
              · rw [← HS2.out.2.1]
                apply List.ext_getElem?
                intro m
                simp only [List.getElem?_map, List.getElem?_set]
                by_cases hm : k = m
                · subst hm; simp [hX2, List.getD_eq_getElem?_getD]
                · simp [hm]
              · have e3 : (X2.set k ((X2.getD k []).set t (-100 - (k : Int)))).getD s [] = X2.getD s [] := by simp [List.getD_eq_getElem?_getD, List.getElem?_set, show ¬ k = s by omega]
                unfold Marked; rw [e3]; exact HS2.out.2.2.1 s hs
              · have e3 : (X2.set k ((X2.getD k []).set t (-100 - (k : Int)))).getD k [] = (X2.getD k []).set t (-100 - (k : Int)) := by simp [List.getD_eq_getElem?_getD, hX2]
                unfold Marked; rw [e3]
                exact mkI_step (by rw [el]; exact htl) HS2.out.2.2.2
            · exact Below.grown BW2 gr (by have := BW2.size; omega) (fun k hk => by cases hk; exact hgb)
          case measure => simp [intOf]; omega
        · have htt : t = (X.getD k []).length := by omega
          go_wp2
          go_roundw
          case rel => exact ⟨k + 1, X2, by omega, by go_num, Lib.hid ⟨HS2.out.1, HS2.out.2.1, fun s hs => by
            by_cases hsk : s < k
            · exact HS2.out.2.2.1 s hsk
            · have : s = k := by omega
              subst this; rw [el, ← htt]; exact HS2.out.2.2.2⟩, BW2⟩
          case measure => simp [intOf]; omega
    · have hkl : k = n := by omega
      subst hkl
      obtain ⟨st, ap⟩ := ap_zero HV.out HS.out.1 HS.out.2.2 BW hbase
      have eln : ∀ t, (X'.getD t []).length = (X.getD t []).length := fun t => by
        have h1 := congrArg (fun l => l.getD t 0) HS.out.2.1
        simp only [List.getD_eq_getElem?_getD, List.getElem?_map] at h1 ⊢
        cases h2 : X'[t]? <;> cases h3 : X[t]? <;> simp_all
      have hll : ∀ t, (X'.getD t []).length ≤ 1099511627776 := fun t => by
        rw [eln t, List.getD_eq_getElem?_getD]
        cases h2 : X[t]? with
        | none => simp
        | some L => exact HL.out L (List.mem_of_getElem? h2)
      obtain ⟨wm, rfl⟩ : ∃ wm : World, wm = wr := ⟨_, rfl⟩
      obtain ⟨ln, hln⟩ : ∃ ln : Nat → Nat, ln = fun t => (X'.getD t []).length := ⟨_, rfl⟩
      rw [← hln] at ap
      have HLL : RowKit.Hid (∀ t, ln t ≤ 1099511627776) := by rw [hln]; exact Lib.hid hll
      have ST := Lib.hid st
      have AP := Lib.hid ap
      clear st ap eln hll hln HS HT HL
      obtain ⟨i0, hi, hz0, hz1, hz2⟩ := info_parts infoInt_
      obtain ⟨j0, hj, hy0, hy1, hy2⟩ := info_parts infoLI_
      go_wp2
      go_loopw [5, 6, 7, 8] (fun mv i _ _ wr => ∃ t : Nat, ∃ Gs : List Value, t ≤ k ∧ i = .int .i64 t ∧ RowKit.Hid (Ap wm wr base b off V ln t Gs mv)) (fun _ i _ _ _ => k - (intOf i).toNat)
      case atStart => exact ⟨0, [], Nat.zero_le _, rfl, AP⟩
      case round =>
        clear AP
        obtain ⟨t, Gs, ht, rfl, AP⟩ := hrel
        by_cases hlt : t < k
        · have cV := AP.out.co.a t (by rw [HV.out]; exact hlt)
          have IN0 := Lib.hid (AP.out.start ST.out (by rw [HV.out]; exact hlt))
          clear AP
          have hVt : t < V.length := by rw [HV.out]; exact hlt
          have eV : V.getD t undef = V[t] := by simp [List.getD_eq_getElem?_getD, hVt]
          rw [eV] at IN0
          clear eV
          go_wp2
          go_loopw [7, 8] (fun gv q wr => ∃ q' : Nat, q' ≤ 70 ∧ q = .int .i64 q' ∧ RowKit.Hid (Inn wm wr base b off V ln t q' Gs _ gv)) (fun _ q _ => 70 - (intOf q).toNat)
          case atStart => exact ⟨0, by omega, rfl, IN0⟩
          case round =>
            clear IN0 cV
            obtain ⟨q', hq', rfl, HI⟩ := hrel
            obtain ⟨G, hG⟩ := HI.out.val
            subst hG
            obtain ⟨mv, hmv⟩ := HI.out.mval
            subst hmv
            have hlt_ := HLL.out t
            have hbs := HI.out.co.be.size
            have hbb := ST.out.bs
            by_cases hq : q' < 70
            · go_wp2_with (at_builtin; go_must (refine append_keep rfl (.tmp 48) (.tmp 51) 45 rfl base 3 i0 (.int .i64 0) 1 8 Try.underlying45 hi hz0 hz1 hz2 rfl (by decide) _ _ _ rfl ((HI.out.alloc ST.out _).go) ⟨wr.heap.size, 0, none⟩ 1 1 [.int .i64 (-200 - (t : Int))] rfl rfl ?c1 ?c2 ?c3 ?c4 ?c5 ?_))
              case c1 => exact cell_one_newI _ _ _
              case c2 => intro u hu; simp only [List.mem_singleton] at hu; subst hu; rfl
              case c3 => unfold maxLen; omega
              case c4 => omega
              case c5 => simp; omega
              intro v2 w2 own2 gr2 loc2
              have IN2 := Lib.hid (Inn.app (HI.out.alloc ST.out _) ST.out hVt gr2 (by rw [tlI_succ]; unfold cI; rw [List.map_append, List.map_append]; exact own2) (loc2.imp id fun h => ⟨by rw [World.size_alloc]; exact h.1, h.2⟩))
              clear own2 gr2 loc2 HI hbs hlt_ hbb
              go_wp2
              go_roundw
              case rel => exact ⟨q' + 1, by omega, by go_num, IN2⟩
              case measure => simp [intOf]; omega
            · obtain rfl : q' = 70 := by omega
              obtain ⟨p5, c5, hv5⟩ : ∃ p c, G = .slice p (ln t + 70) c := by
                rcases row_form HI.out.go with ⟨_, h0, _⟩ | ⟨g, c, h1, _⟩
                · omega
                · exact ⟨_, c, h1⟩
              subst hv5
              go_wp2_with (at_builtin; go_must (refine append_keep rfl (.tmp 53) (.tmp 55) 26 rfl wm.heap.size 45 j0 (.slice none 0 0) 1 24 Try.underlying26 hj hy0 hy1 hy2 rfl (by decide) _ _ _ rfl ((HI.out.alloc ST.out _).co.mo) ⟨wr.heap.size, 0, none⟩ 1 1 [.slice p5 (ln t + 70) c5] rfl rfl (cell_one_newI _ _ _) ?d2 ?d3 ?d4 ?d5 ?_))
              case d2 =>
                intro u hu
                simp only [List.mem_singleton] at hu
                subst hu
                rfl
              case d3 => unfold maxLen; omega
              case d4 => omega
              case d5 => simp; omega
              intro m2 w2 own2 gr2 _
              have AP2 := Lib.hid (Inn.done (HI.out.alloc ST.out _) ST.out hVt gr2 own2)
              clear own2 gr2 HI hbs hlt_ hbb
              go_wp2
              go_roundw
              case rel => exact ⟨t + 1, _, by omega, by go_num, AP2⟩
              case measure => simp [intOf]; omega
        · have htk : t = k := by omega
          subst htk
          obtain ⟨mv, hmv⟩ := AP.out.mval
          subst hmv
          go_wp2
          go_loopw [9, 10] (fun i _ wr => ∃ i' : Nat, i' ≤ t ∧ i = .int .i64 i' ∧ RowKit.Hid (Ap wm wr base b off V ln t Gs mv)) (fun i _ _ => t - (intOf i).toNat)
          case atStart => exact ⟨0, Nat.zero_le _, rfl, AP⟩
          case round =>
            clear AP hlt ht
            obtain ⟨i', hi', rfl, AP⟩ := hrel
            by_cases hlt : i' < t
            · have hl1 := HLL.out i'
              have hlti : (i' : Int) < (t : Int) := by omega
              obtain ⟨p, c, g2, c2, hm, cm, rfl, hnm, hcc, LK⟩ := AP.out.look ST.out HV.out hlt
              have HLK := Lib.hid (And.intro LK AP.out)
              have zm := LK.zm
              have cM := LK.cm
              clear LK AP
              go_upto_region 22 with (fail)
              obtain ⟨wo, rfl⟩ : ∃ wo : World, wo = wr := ⟨_, rfl⟩
              go_loopw [10] (fun i wr => ∃ k' : Nat, k' ≤ ln i' + 70 ∧ i = .int .i64 k' ∧ RowKit.Hid (Looks wr b off i' (ln i') p c g2 c2 hm ∧ Ap wm wr base b off V ln t Gs (.slice (some ⟨hm, 0, none⟩) t cm))) (fun i _ => ln i' + 70 - (intOf i).toNat)
              case atStart => exact ⟨0, Nat.zero_le _, rfl, HLK⟩
              case round =>
                clear HLK zm cM
                obtain ⟨k', hk', rfl, HLK⟩ := hrel
                have cV := HLK.out.1.cv
                have cM := HLK.out.1.cm
                have zb := HLK.out.1.zb
                have zm := HLK.out.1.zm
                have zg := HLK.out.1.zg
                have q5 : IntKind.i64.wrap (-100 - (i' : Int)) = -100 - i' := IntWalk.i64_in _ (by omega)
                have q6 : IntKind.i64.wrap (-200 - (i' : Int)) = -200 - i' := IntWalk.i64_in _ (by omega)
                rcases (show k' < ln i' ∨ (ln i' ≤ k' ∧ k' < ln i' + 70) ∨ k' = ln i' + 70 by omega) with hk2 | ⟨hk2, hk3⟩ | rfl
                · obtain ⟨g, rfl, zg1, d0⟩ := HLK.out.1.rd k' hk2
                  have hi1 : (k' : Int) < (ln i' : Int) := by omega
                  have hi2 : (k' : Int) < (ln i' : Int) + 70 := by omega
                  have hi3 : ¬ (ln i' : Int) ≤ (k' : Int) := by omega
                  have bq : (-100 - (i' : Int) == -100 - (i' : Int)) = true := by rw [beq_iff_eq]
                  go_wp2
                  go_roundw
                  case rel => exact ⟨k' + 1, by omega, by go_num, HLK⟩
                  case measure => simp [intOf]; omega
                · have d0 := HLK.out.1.gd k' hk2 hk3
                  have hi1 : ¬ (k' : Int) < (ln i' : Int) := by omega
                  have hi2 : (k' : Int) < (ln i' : Int) + 70 := by omega
                  have hi3 : (ln i' : Int) ≤ (k' : Int) := by omega
                  have bq : (-200 - (i' : Int) == -200 - (i' : Int)) = true := by rw [beq_iff_eq]
                  go_wp2
                  go_roundw
                  case rel => exact ⟨k' + 1, by omega, by go_num, HLK⟩
                  case measure => simp [intOf]; omega
                · clear hk'
                  have HAP := Lib.hid HLK.out.2
                  clear HLK q5 q6
                  go_wp2
                  go_roundw
                  case rel => exact ⟨i' + 1, by omega, by go_num, HAP⟩
                  case measure => simp [intOf]; omega
            · go_wp2
              go_ret
              exact ⟨rfl, below_of AP.out.co.be BW⟩
end Go.Proofs.Ytcihihncgpddfaa
