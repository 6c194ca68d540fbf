/- apart: what holds while the lists are gone on with. -/
import Derived.Test.YtekcheccelllcaaRctAk
namespace Go.Proofs.Ytekcheccelllcaa
open Go.RowKit
set_option linter.unusedVariables false
set_option linter.unusedSimpArgs false

abbrev mkr (i l : Nat) : List R4 := mk i l
/-- the value v is a slice, from its block's beginning, that reads L -/
def RdV (w : World) (v : Value) (L : List R4) : Prop := ∃ p c, v = .slice p L.length c ∧ L.length ≤ c ∧ (L.length ≠ 0 → ∃ g, p = some ⟨g, 0, none⟩ ∧ g < w.heap.size ∧ RectsAt w g 0 L)
theorem RdV.kept {w w2 : World} {v : Value} {L : List R4} {row : Option Nat} (h : RdV w v L) (gr : w.grownBy w2 row) (hv : v.ownBlock = none ∨ v.ownBlock ≠ row) : RdV w2 v L := by
  obtain ⟨p, c, rfl, hc, hs⟩ := h
  refine ⟨p, c, rfl, hc, fun h0 => ?_⟩
  obtain ⟨b, rfl, hb, hr⟩ := hs h0
  have hne : some b ≠ row := by
    rcases hv with hv | hv
    · simp [Value.ownBlock] at hv
    · exact hv
  refine ⟨b, rfl, Nat.lt_of_lt_of_le hb gr.size, fun i hi => ?_⟩
  obtain ⟨h0, h1, h2, h3⟩ := hr i hi
  exact ⟨gr.cell h0 hne, gr.cell h1 hne, gr.cell h2 hne, gr.cell h3 hne⟩
theorem RdV.of_own {w : World} {base n : Nat} {v : Value} {L : List R4} (h : w.ownsRow base 23 4 v n (cellsR L)) (hn : n = L.length) : RdV w v L := by
  obtain ⟨p, c, hv, hc, hs, _, hg⟩ := own_sl h hn
  refine ⟨p, c, by rw [hv, hn], by omega, fun h0 => ?_⟩
  obtain ⟨g, rfl, _, hgw⟩ := hg (by omega)
  obtain ⟨g2, o2, e2, _, hr⟩ := hs h0
  cases e2
  exact ⟨g, rfl, hgw, hr⟩
/-- what is gone on with -/
def tl (i q : Nat) : List R4 := (List.range q).map fun (k : Nat) => ⟨-1 - (i : Int), (k : Int), -7, -8⟩
theorem tl_len (i q : Nat) : (tl i q).length = q := by simp [tl]
theorem tl_succ (i q : Nat) : tl i (q + 1) = tl i q ++ [⟨-1 - (i : Int), (q : Int), -7, -8⟩] := by simp [tl, List.range_succ]
theorem tl_at (i q k : Nat) (h : k < q) : (tl i q).getD k zR = ⟨-1 - (i : Int), (k : Int), -7, -8⟩ := by
  simp [tl, List.getD_eq_getElem?_getD, h]

/-- what does not change: w is the world in which the lists have their marks -/
structure Sta (w : World) (base b : Nat) (V : List Value) : Prop where
  blt : b < w.heap.size
  vlt : ∀ t, t < V.length → ∀ g, (V.getD t undef).ownBlock = some g → g < w.heap.size
  dis : ∀ i j, i < V.length → j < V.length → i ≠ j → (V.getD i undef).ownBlock = none ∨ (V.getD i undef).ownBlock ≠ (V.getD j undef).ownBlock
  out : ∀ i, i < V.length → (V.getD i undef).ownBlock ≠ some b
  bs : base ≤ w.heap.size
def far (w : World) (v gv : Value) : Prop := gv.ownBlock = v.ownBlock ∨ ∃ h, gv.ownBlock = some h ∧ w.heap.size ≤ h
/-- all but list i, which is being gone on with -/
structure Co (w wr : World) (base b off : Nat) (V : List Value) (ln : Nat → Nat) (i : Nat) (Gs : List Value) (mv : Value) : Prop where
  a : ∀ t, t < V.length → wr.cell? ⟨b, off + t, none⟩ = some (V.getD t undef)
  rd : ∀ t, t < V.length → t ≠ i → RdV wr (V.getD t undef) (mkr t (ln t))
  own : ∀ t, i < t → t < V.length → wr.ownsRow base 23 4 (V.getD t undef) (ln t) (cellsR (mkr t (ln t)))
  gl : Gs.length = i
  gs : ∀ t, t < i → wr.ownsRow base 23 4 (Gs.getD t undef) (ln t + 70) (cellsR (mkr t (ln t) ++ tl t 70))
  gb : ∀ t, t < i → far w (V.getD t undef) (Gs.getD t undef)
  mo : wr.ownsRow w.heap.size 26 1 mv i Gs
  be : Below base w wr
theorem Co.kept {w wr w2 : World} {base b off i : Nat} {V Gs : List Value} {ln : Nat → Nat} {mv : Value} {row : Option Nat} (h : Co w wr base b off V ln i Gs mv) (st : Sta w base b V) (gr : wr.grownBy w2 row) (hb : row ≠ some b)
    (hv : ∀ t, t < V.length → t ≠ i → (V.getD t undef).ownBlock = none ∨ (V.getD t undef).ownBlock ≠ row) (hg : ∀ t, t < i → (Gs.getD t undef).ownBlock = none ∨ (Gs.getD t undef).ownBlock ≠ row) (hm : mv.ownBlock = none ∨ mv.ownBlock ≠ row) (hr : ∀ k, row = some k → base ≤ k) : Co w w2 base b off V ln i Gs mv :=
  ⟨fun t ht => gr.cell (h.a t ht) (fun e => hb e.symm), fun t ht hi => (h.rd t ht hi).kept gr (hv t ht hi), fun t h1 h2 => (h.own t h1 h2).kept gr (hv t h2 (by omega)), h.gl, fun t ht => (h.gs t ht).kept gr (hg t ht), h.gb, h.mo.kept gr hm,
    Below.grown h.be gr (Nat.le_trans st.bs h.be.size) hr⟩
/-- between two lists -/
structure Ap (w wr : World) (base b off : Nat) (V : List Value) (ln : Nat → Nat) (i : Nat) (Gs : List Value) (mv : Value) : Prop where
  co : Co w wr base b off V ln i Gs mv
  rdi : i < V.length → RdV wr (V.getD i undef) (mkr i (ln i))
  owi : i < V.length → wr.ownsRow base 23 4 (V.getD i undef) (ln i) (cellsR (mkr i (ln i)))
/-- within list i: q more are there -/
structure Inn (w wr : World) (base b off : Nat) (V : List Value) (ln : Nat → Nat) (i q : Nat) (Gs : List Value) (mv gv : Value) : Prop where
  co : Co w wr base b off V ln i Gs mv
  rdi : RdV wr (V.getD i undef) (mkr i (ln i))
  go : wr.ownsRow base 23 4 gv (ln i + q) (cellsR (mkr i (ln i) ++ tl i q))
  fr : far w (V.getD i undef) gv
  gd : ∀ t, t < i → (Gs.getD t undef).ownBlock ≠ gv.ownBlock
theorem Ap.start {w wr : World} {base b off i : Nat} {V Gs : List Value} {ln : Nat → Nat} {mv : Value} (h : Ap w wr base b off V ln i Gs mv) (st : Sta w base b V) (hi : i < V.length) : Inn w wr base b off V ln i 0 Gs mv (V.getD i undef) := by
  refine ⟨h.co, h.rdi hi, by simpa [tl] using h.owi hi, .inl rfl, fun t ht he => ?_⟩
  obtain ⟨g, hg⟩ := own_some (h.co.gs t ht) (by omega)
  rw [hg] at he
  rcases h.co.gb t ht with h1 | ⟨k, h1, h2⟩
  · rcases st.dis t i (by omega) hi (by omega) with h3 | h3
    · rw [h3, hg] at h1; cases h1
    · exact h3 (by rw [← h1, hg, he])
  · rw [hg] at h1
    cases h1
    have := st.vlt i hi _ he.symm
    omega
theorem Inn.alloc {w wr : World} {base b off i q : Nat} {V Gs : List Value} {ln : Nat → Nat} {mv gv : Value} (h : Inn w wr base b off V ln i q Gs mv gv) (st : Sta w base b V) (o : Obj) : Inn w (wr.alloc o) base b off V ln i q Gs mv gv := by
  have gr : wr.grownBy (wr.alloc o) none := ⟨rfl, rfl, rfl, by simp, fun k hk _ => heap_alloc_old wr o hk⟩
  have key : ∀ v : Value, v.ownBlock = none ∨ v.ownBlock ≠ none := fun v => by by_cases h : v.ownBlock = none <;> simp [h]
  exact ⟨h.co.kept st gr (by simp) (fun t _ _ => key _) (fun t _ => key _) (key _) (fun k hk => by cases hk), h.rdi.kept gr (key _), h.go.kept gr (key _), h.fr, h.gd⟩
theorem far_ne {w wr : World} {base b off i q : Nat} {V Gs : List Value} {ln : Nat → Nat} {mv gv : Value} (h : Inn w wr base b off V ln i q Gs mv gv) (st : Sta w base b V) (hi : i < V.length) : gv.ownBlock ≠ some b ∧ ∀ t, t < V.length → t ≠ i → (V.getD t undef).ownBlock = none ∨ (V.getD t undef).ownBlock ≠ gv.ownBlock := by
  rcases h.fr with h1 | ⟨k, h1, h2⟩
  · refine ⟨by rw [h1]; exact st.out i hi, fun t ht hti => ?_⟩
    rw [h1]
    exact st.dis t i ht hi hti
  · refine ⟨by rw [h1]; intro e; cases e; have := st.blt; omega, fun t ht hti => .inr fun e => ?_⟩
    rw [h1] at e
    have := st.vlt t ht k e
    omega
theorem Inn.app {w wr w2 : World} {base b off i q : Nat} {V Gs : List Value} {ln : Nat → Nat} {mv gv v2 : Value} (h : Inn w wr base b off V ln i q Gs mv gv) (st : Sta w base b V) (hi : i < V.length) (gr : wr.grownBy w2 gv.ownBlock)
    (ho : w2.ownsRow base 23 4 v2 (ln i + (q + 1)) (cellsR (mkr i (ln i) ++ tl i (q + 1)))) (loc : v2.ownBlock = gv.ownBlock ∨ (v2.ownBlock = some wr.heap.size ∧ wr.grownBy w2 none)) : Inn w w2 base b off V ln i (q + 1) Gs mv v2 := by
  obtain ⟨f1, f2⟩ := far_ne h st hi
  have hm : mv.ownBlock = none ∨ mv.ownBlock ≠ gv.ownBlock := own_own_ne h.co.mo h.go (by decide)
  have hco : Co w w2 base b off V ln i Gs mv := h.co.kept st gr f1 f2 (fun t ht => .inr (h.gd t ht)) hm (fun k hk => (own_lt h.go k hk).2)
  have key : ∀ v : Value, v.ownBlock = none ∨ v.ownBlock ≠ none := fun v => by by_cases h : v.ownBlock = none <;> simp [h]
  refine ⟨hco, ?_, ho, ?_, fun t ht => ?_⟩
  · rcases loc with l | ⟨l, g2⟩
    · by_cases he : (V.getD i undef).ownBlock = gv.ownBlock
      · -- both in one row
        obtain ⟨p, c, hv, hc, hs⟩ := h.rdi
        refine ⟨p, c, hv, hc, fun h0 => ?_⟩
        obtain ⟨g, rfl, hg, hr⟩ := hs h0
        obtain ⟨p2, c2, hv2, _, hs2⟩ := RdV.of_own ho (by simp [mk_len, tl_len])
        obtain ⟨g2, rfl, hgw, hr2⟩ := hs2 (by simp [tl_len])
        have hgg : g2 = g := by
          rw [hv2] at l
          rw [hv, ← l] at he
          simp only [Value.ownBlock, Option.some.injEq] at he
          exact he.symm
        subst hgg
        exact ⟨g2, rfl, hgw, hr2.left⟩
      · exact h.rdi.kept gr (.inr he)
    · exact h.rdi.kept g2 (key _)
  · rcases loc with l | ⟨l, _⟩
    · rcases h.fr with f | ⟨k, f, f'⟩
      · exact .inl (l.trans f)
      · exact .inr ⟨k, l.trans f, f'⟩
    · exact .inr ⟨_, l, h.co.be.size⟩
  · rcases loc with l | ⟨l, _⟩
    · rw [l]; exact h.gd t ht
    · rw [l]
      intro e
      have := (own_lt (h.co.gs t ht) _ e).1
      omega
theorem Inn.done {w wr w2 : World} {base b off i : Nat} {V Gs : List Value} {ln : Nat → Nat} {mv gv m2 : Value} (h : Inn w wr base b off V ln i 70 Gs mv gv) (st : Sta w base b V) (hi : i < V.length) (gr : wr.grownBy w2 mv.ownBlock)
    (ho : w2.ownsRow w.heap.size 26 1 m2 (i + 1) (Gs ++ [gv])) : Ap w w2 base b off V ln (i + 1) (Gs ++ [gv]) m2 := by
  have mlt : ∀ k, mv.ownBlock = some k → w.heap.size ≤ k := fun k hk => (own_lt h.co.mo k hk).2
  have nb : mv.ownBlock ≠ some b := fun e => by have := mlt b e; have := st.blt; omega
  have nv : ∀ t, t < V.length → (V.getD t undef).ownBlock = none ∨ (V.getD t undef).ownBlock ≠ mv.ownBlock := fun t ht => by
    by_cases he : (V.getD t undef).ownBlock = mv.ownBlock
    · left
      cases hk : (V.getD t undef).ownBlock with
      | none => rfl
      | some k =>
        have h1 := st.vlt t ht k hk
        have h2 := mlt k (by rw [← he, hk])
        omega
    · exact .inr he
  have be : Below base w w2 := Below.grown h.co.be gr (Nat.le_trans st.bs h.co.be.size) (fun k hk => Nat.le_trans st.bs (mlt k hk))
  have len : Gs.length = i := h.co.gl
  have gl : ∀ t, t < i → (Gs ++ [gv]).getD t undef = Gs.getD t undef := fun t ht => by simp [List.getD_eq_getElem?_getD, List.getElem?_append_left (show t < Gs.length by omega)]
  have gi : (Gs ++ [gv]).getD i undef = gv := by simp [List.getD_eq_getElem?_getD, ← len]
  have gown : w2.ownsRow base 23 4 gv (ln i + 70) (cellsR (mkr i (ln i) ++ tl i 70)) := h.go.kept gr (own_own_ne h.go h.co.mo (by decide))
  refine ⟨⟨fun t ht => gr.cell (h.co.a t ht) (fun e => nb e.symm), fun t ht hti => ?_, fun t h1 h2 => (h.co.own t (by omega) h2).kept gr (nv t h2), by simp [len], fun t ht => ?_, fun t ht => ?_, ho, be⟩, fun hi2 => ?_, fun hi2 => ?_⟩
  · by_cases e : t = i
    · subst e; exact h.rdi.kept gr (nv t ht)
    · exact (h.co.rd t ht e).kept gr (nv t ht)
  · by_cases e : t = i
    · subst e; rw [gi]; exact gown
    · rw [gl t (by omega)]
      exact (h.co.gs t (by omega)).kept gr (own_own_ne (h.co.gs t (by omega)) h.co.mo (by decide))
  · by_cases e : t = i
    · subst e; rw [gi]; exact h.fr
    · rw [gl t (by omega)]; exact h.co.gb t (by omega)
  · exact (h.co.rd (i + 1) hi2 (by omega)).kept gr (nv _ hi2)
  · exact (h.co.own (i + 1) (by omega) hi2).kept gr (nv _ hi2)
end Go.Proofs.Ytekcheccelllcaa
