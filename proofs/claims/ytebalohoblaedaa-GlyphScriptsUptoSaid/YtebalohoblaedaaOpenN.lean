/- Layer 13: opening a scene: its size, and a slice of steps. -/
import Derived.Test.YtebalohoblaedaaOpenS
import Derived.Test.YtebalohoblaedaaOpenG
namespace Go.Proofs.Ytebalohoblaedaa
open Go.ChangeShapes Go.WideShapes Go.ChangeAt Go.RowKit Go.Joins Go.Deep
set_option linter.unusedVariables false
set_option linter.unusedSimpArgs false

section
variable {H : Type} {enc : TypeId × Value → H} {P : Program} {w : World} {base : Nat} {spare : Nat → Bool} {held : Bool}
set_option maxHeartbeats 4000000 in
/-- a slice within what is handed in reads as a list; each element takes k cells and meets Q -/
theorem slice_cells {α : Type} (z : α) (Q : α → List Value → Prop) (k : Nat) (hk : 0 < k) {t e : TypeId} (ht : P.underlying t = some (.slice e)) (hC : P.cellsOf e = k) (hlen : ∀ a cs, Q a cs → cs.length = k)
    (hel : ∀ (fuel : Nat) (cs : List Value) (x : DataW H × List MemPlace), DataW.trod enc P w base spare held fuel e cs = some x → ∃ a, Q a cs)
    {fuel : Nat} {l : List Value} {x : DataW H × List MemPlace} (h : DataW.trod enc P w base spare held fuel t l = some x) : ∃ (p' : Option Addr) (n c : Nat) (L : List α), l = [.slice p' n c] ∧ L.length = n ∧ n ≤ c ∧ c ≤ maxLen ∧ (p' = none → c = 0) ∧ (0 < n → ∃ b off, p' = some ⟨b, off, none⟩ ∧ b < w.heap.size ∧ ∀ i, i < n → ∃ cs, Q (L.getD i z) cs ∧ ∀ j, j < k → w.cell? ⟨b, off + (i * k + j), none⟩ = cs[j]?) ∧ (∀ i, i < n → ∃ cs, Q (L.getD i z) cs) ∧ (0 < n → ∃ elems sp, x.1 = .slice elems sp ∧ elems.length = n) := by
  rcases open_slice ht h with ⟨h1, h2⟩ | ⟨a', len, cap, m, n, D, Pl, h1, hb, hle, hcap, hm, hx, hall⟩
  · exact ⟨none, 0, 0, [], h1, rfl, Nat.le_refl _, Nat.zero_le _, fun _ => rfl, fun h => absurd h (Nat.lt_irrefl _), fun i hi => by omega, fun h => absurd h (Nat.lt_irrefl _)⟩
  · have hmle : len ≤ m := by rw [hm]; split <;> omega
    have spot0 : 0 < len → a'.spot = none := by
      intro h0
      obtain ⟨cs', h2, h3⟩ := hall 0 (by omega)
      rw [hC] at h2
      obtain ⟨_, hlen, hcell⟩ := World.cells?_some h2
      have c0 := hcell 0 hk
      have := spot_of_cellG (w := w) (a := (a'.add (0 * k)).add 0) (by rw [c0, List.getElem?_eq_getElem (show 0 < cs'.length by omega)])
      simpa [Addr.add] using this
    have key : ∀ i, i < len → ∃ q : α, ∃ cs, Q q cs ∧ (∀ j, j < k → w.cell? ⟨a'.block, a'.off + (i * k + j), none⟩ = cs[j]?) := by
      intro i hi
      have hs0 := spot0 (by omega)
      obtain ⟨cs', h2, h3⟩ := hall i (by omega)
      rw [hC] at h2
      obtain ⟨_, hlen, hcell⟩ := World.cells?_some h2
      obtain ⟨q, hq⟩ := hel _ _ _ h3
      refine ⟨q, cs', hq, fun j hj => ?_⟩
      have c := hcell j hj
      rw [add_add] at c
      have ha : ∀ j, a'.add j = ⟨a'.block, a'.off + j, none⟩ := by
        intro j; unfold Addr.add; split
        · rename_i hj; subst hj; cases a'; simp at hs0; subst hs0; rfl
        · rfl
      rw [ha] at c
      exact c
    obtain ⟨L, hL, hQ⟩ := list_of_fnG z len _ key
    refine ⟨some a', len, cap, L, h1, hL, hle, hcap, fun h => (by cases h), fun h0' => ?_, fun i hi => ?_, fun _ => ⟨_, _, (Prod.ext_iff.1 hx).1, by simp⟩⟩
    · have hs := spot0 h0'
      refine ⟨a'.block, a'.off, ?_, ?_, fun i hi => hQ i (by omega)⟩
      · cases a'; simp at hs; subst hs; rfl
      · obtain ⟨cs', h2, _⟩ := hall 0 (by omega)
        have := World.cells?_block h2 (by rw [hC]; omega)
        simpa [Addr.add] using this
    · obtain ⟨cs, hq, _⟩ := hQ i hi
      exact ⟨cs, hq⟩
end
structure StV where
  o : Int
  x0 : Int
  y0 : Int
  x1 : Int
  y1 : Int
  a : Int
  b : Int
  c : Int
  d : Int
  k : Int
def zSt : StV := ⟨0, 0, 0, 0, 0, 0, 0, 0, 0, 0⟩
def stV (s : StV) : List Value := [.int .i64 s.o, .int .i64 s.x0, .int .i64 s.y0, .int .i64 s.x1, .int .i64 s.y1, .int .i64 s.a, .int .i64 s.b, .int .i64 s.c, .int .i64 s.d, .int .i8 s.k]
def i64B (x : Int) : Prop := -9223372036854775808 ≤ x ∧ x ≤ 9223372036854775807
structure StOk (s : StV) : Prop where
  x0 : i64B s.x0
  x1 : i64B s.x1
  a : i64B s.a
  b : i64B s.b
  c : i64B s.c
  d : i64B s.d
/-- steps that lie in memory one behind the other -/
def StepsAt (w : World) (p : Option Addr) (L : List StV) : Prop := L.length ≠ 0 → ∃ b off, p = some ⟨b, off, none⟩ ∧ b < w.heap.size ∧ ∀ i, i < L.length → ∀ j, j < 10 → w.cell? ⟨b, off + (i * 10 + j), none⟩ = (stV (L.getD i zSt))[j]?
theorem StepsAt.later {w w' : World} {p : Option Addr} {L : List StV} (h : StepsAt w p L) {B : Nat} (hb : Below B w w') (hB : w.heap.size ≤ B) : StepsAt w' p L := fun h0 => by
  obtain ⟨b, off, e, hl, hc⟩ := h h0
  refine ⟨b, off, e, by have := hb.size; omega, fun i hi j hj => ?_⟩
  rw [(bcell hb).1 _ _ (by omega)]
  exact hc i hi j hj
section
variable {H : Type} {enc : TypeId × Value → H} {w : World} {base : Nat} {spare : Nat → Bool} {held : Bool}
theorem tcScene : Try.prog.cellsOf 58 = 3 := by kernel_rfl
theorem tcSteps : Try.prog.cellsOf 56 = 1 := by kernel_rfl
theorem wf64 {x : Int} (h : (Lit.int .i64 x).wf = true) : i64B x := bounds_i64 h
set_option maxRecDepth 100000 in
set_option maxHeartbeats 4000000 in
theorem open_scene {v : Value} {d : DataW H} {p : List MemPlace} {r : Reach} {b0 : Nat} (hv : Value.okWide Try.prog w r b0 58 v) (h : DataW.Trod enc Try.prog w base spare held 58 v d p) :
    ∃ (W Hh : Int) (p' : Option Addr) (c : Nat) (L : List StV), v = .agg #[.int .i64 W, .int .i64 Hh, .slice p' L.length c] ∧ StepsAt w p' L ∧ (∀ s ∈ L, StOk s) ∧ L.length ≤ c ∧ c ≤ maxLen ∧ (0 < L.length → ∃ d1 d2 elems sp, d = .agg [d1, d2, .slice elems sp] ∧ elems.length = L.length) := by
  obtain ⟨cs, rfl, hsz⟩ := okWide_struct Try.underlying58 hv
  obtain ⟨fuel, hf⟩ := h
  have hf' : DataW.trod enc Try.prog w base spare held fuel 58 cs.toList = some (d, p) := by simpa [Value.cells] using hf
  obtain ⟨xs, n, _, hx, hl, hlen, hg⟩ := DataW.trod_struct Try.underlying58 hf'
  rw [tcScene] at hl
  generalize hcs : cs.toList = cl at *
  match cl, hl, xs, hlen with
  | [c0, c1, c2], _, [y0, y1, y2], _ =>
    have g0 := hg 0 _ rfl; have g1 := hg 1 _ rfl; have g2 := hg 2 _ rfl
    simp [cellsI, tcSteps] at g0 g1 g2
    obtain ⟨W, e0, _, w0⟩ := DataW.trod_int Try.underlying3 g0
    obtain ⟨Hh, e1, _, w1⟩ := DataW.trod_int Try.underlying3 g1
    obtain ⟨q, m, c, L, e, hL, hn, hc, hp, hat, hq, hdat⟩ := slice_cells zSt (fun a cs => cs = stV a ∧ StOk a) 10 (by decide) Try.underlying56 cellsStep (fun a cs h => by rw [h.1]; rfl) (fun fuel cs x h => by
      obtain ⟨o, x0, y0, x1, y1, a, b, c, d, k, e, w0, w1, w2, w3, w4, w5, w6, w7, w8⟩ := step_cells h
      exact ⟨⟨o, x0, y0, x1, y1, a, b, c, d, k⟩, e, ⟨wf64 w0, wf64 w2, wf64 w4, wf64 w5, wf64 w6, wf64 w7⟩⟩) g2
    simp only [List.cons.injEq, and_true] at e0 e1 e
    subst e0 e1 e
    refine ⟨W, Hh, q, c, L, ?_, fun h0 => ?_, fun s hs => ?_, by omega, hc, fun h0 => ?_⟩
    · rw [← Array.toArray_toList (xs := cs), hcs, hL]
    · obtain ⟨b, off, e', hb, hcell⟩ := hat (by omega)
      refine ⟨b, off, e', hb, fun i hi j hj => ?_⟩
      obtain ⟨cs, ⟨rfl, _⟩, hj'⟩ := hcell i (by omega)
      exact hj' j hj
    · obtain ⟨i, hi, rfl⟩ := List.getElem_of_mem hs
      obtain ⟨cs, _, h1⟩ := hq i (by omega)
      rw [List.getD_eq_getElem?_getD, List.getElem?_eq_getElem hi] at h1
      exact h1
    · obtain ⟨elems, sp, e1, e2⟩ := hdat (by omega)
      refine ⟨y0.fst, y1.fst, elems, sp, ?_, by omega⟩
      have := (Prod.ext_iff.1 hx).1
      simp only [List.map_cons, List.map_nil] at this
      rw [this, e1]
/-- numbers that lie in memory one behind the other -/
def OrdAt (w : World) (p : Option Addr) (O : List Int) : Prop := O.length ≠ 0 → ∃ b off, p = some ⟨b, off, none⟩ ∧ b < w.heap.size ∧ ∀ i, i < O.length → w.cell? ⟨b, off + i, none⟩ = some (.int .i64 (O.getD i 0))
theorem OrdAt.later {w w' : World} {p : Option Addr} {O : List Int} (h : OrdAt w p O) {B : Nat} (hb : Below B w w') (hB : w.heap.size ≤ B) : OrdAt w' p O := fun h0 => by
  obtain ⟨b, off, e, hl, hc⟩ := h h0
  refine ⟨b, off, e, by have := hb.size; omega, fun i hi => ?_⟩
  rw [(bcell hb).1 _ _ (by omega)]
  exact hc i hi
set_option maxRecDepth 100000 in
theorem open_order {v : Value} {d : DataW H} {p : List MemPlace} {r : Reach} {b0 : Nat} (hv : Value.okWide Try.prog w r b0 69 v) (h : DataW.Trod enc Try.prog w base spare held 69 v d p) :
    ∃ (p' : Option Addr) (c : Nat) (O : List Int), v = .slice p' O.length c ∧ OrdAt w p' O ∧ O.length ≤ c ∧ (O.length ≠ 0 → ∃ elems sp, d = .slice elems sp ∧ elems.length = O.length) := by
  obtain ⟨p', n, c, O, rfl, hL, hn, hc, _, _, hd⟩ := open_slice_any (0 : Int) (fun a => [.int .i64 a]) (fun _ => True) 1 (by omega) Try.underlying69 cellsI (fun _ => rfl) (fun fuel cs x hx => by
    obtain ⟨a, e, _, _⟩ := DataW.trod_int Try.underlying3 hx
    exact ⟨a, e, trivial⟩) hv h
  refine ⟨p', c, O, by rw [hL], fun h0 => ?_, by omega, fun h0 => by rw [hL]; exact hd (by omega)⟩
  obtain ⟨b, off, e, hb, hcell⟩ := hc (by omega)
  refine ⟨b, off, e, hb, fun i hi => ?_⟩
  have := hcell i (by omega) 0 (by omega)
  simpa using this
end
end Go.Proofs.Ytebalohoblaedaa
