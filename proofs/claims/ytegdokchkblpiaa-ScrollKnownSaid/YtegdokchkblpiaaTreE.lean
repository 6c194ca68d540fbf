/- Trees: maps from names to offsets. -/
import Derived.Test.YtegdokchkblpiaaTreD
namespace Go.Proofs.Ytegdokchkblpiaa
open Go.RowKit Go.Deep
set_option linter.unusedVariables false
set_option linter.unusedSimpArgs false

def offV (p : Int × Int) : Value := .agg #[.int .i64 p.1, .int .i64 p.2]
def offD (p : Int × Int) : DataW Unit := .agg [.lit (.int .i64 p.1), .lit (.int .i64 p.2)]
/-- how an offset reads -/
def rdOffL (l : List Value) : Option (DataW Unit × List MemPlace) :=
  match l with
  | [.int .i64 a, .int .i64 b] => some (offD (a, b), [])
  | _ => none
def rdOff (v : Value) : Option (DataW Unit × List MemPlace) :=
  match v with
  | .agg cs => rdOffL cs.toList
  | _ => none
theorem rdOff_mk (p : Int × Int) : rdOff (offV p) = some (offD p, []) := rfl
theorem rdOff_inv {v : Value} {p : Int × Int} {ps : List MemPlace} (h : rdOff v = some (offD p, ps)) : v = offV p := by
  unfold rdOff at h
  split at h
  · rename_i cs
    unfold rdOffL at h
    split at h
    · rename_i a b e
      simp only [Option.some.injEq, Prod.mk.injEq, offD, DataW.agg.injEq, List.cons.injEq, DataW.lit.injEq, Lit.int.injEq, true_and, and_true] at h
      obtain ⟨⟨h1, h2⟩, _⟩ := h
      unfold offV
      rw [← h1, ← h2, ← Array.toArray_toList (xs := cs), e]
    · cases h
  · cases h
theorem zero_off_ (w : World) : (zeroValue 25).run Try.prog w = .ok (offV (0, 0)) w := by kernel_rfl
/-- block b is a map of at most m names; f: each name's offset (zero: none) -/
def OffsMap (w : World) (b m : Nat) (f : List UInt8 → Int × Int) : Prop := ∃ D : DataW Unit, w.ownsMap Try.prog 9 rdOff b m D ∧ Maps.IsMap D ∧ ∀ l, D.atKey (.string l) (offD (0, 0)) = offD (f l)
theorem OffsMap.of_block {w w' : World} {b m : Nat} {f : List UInt8 → Int × Int} (h : OffsMap w b m f) (e : w'.heap[b]? = w.heap[b]?) : OffsMap w' b m f := by
  obtain ⟨D, ⟨es, clock, hb, hr⟩, h2⟩ := h
  exact ⟨D, ⟨es, clock, e.trans hb, hr⟩, h2⟩
theorem OffsMap.lt {w : World} {b m : Nat} {f : List UInt8 → Int × Int} (h : OffsMap w b m f) : b < w.heap.size := by
  obtain ⟨D, h1, _⟩ := h
  exact h1.lt
theorem OffsMap.mono {w : World} {b m m' : Nat} {f : List UInt8 → Int × Int} (h : OffsMap w b m f) (hm : m ≤ m') : OffsMap w b m' f := by
  obtain ⟨D, h1, h2⟩ := h
  exact ⟨D, h1.mono hm, h2⟩
theorem OffsMap.look {w : World} {b m : Nat} {f : List UInt8 → Int × Int} (h : OffsMap w b m f) (s : ByteArray) (hs : s.size ≤ 9223372036854775807) : (Instr.lookup 76 (.map (some b)) (.string s) false).run Try.prog w = .ok (offV (f s.data.toList)) w := by
  obtain ⟨D, h1, h2, h3⟩ := h
  obtain ⟨v, ps, hrun, hv⟩ := h1.lookup string_law_ Try.underlying76 (zero_off_ w) (rdOff_mk (0, 0)) (keyOf_str (s := s) hs)
  rw [h3] at hv
  rw [hrun, rdOff_inv hv]
/-- a name gets an offset -/
def putF (f : List UInt8 → Int × Int) (l : List UInt8) (v : Int × Int) : List UInt8 → Int × Int := fun k => if k = l then v else f k
theorem OffsMap.put {w' : World} {b m : Nat} {f : List UInt8 → Int × Int} {D : DataW Unit} {s : ByteArray} {v : Int × Int} (h2 : Maps.IsMap D) (h3 : ∀ l, D.atKey (.string l) (offD (0, 0)) = offD (f l)) (h1 : w'.ownsMap Try.prog 9 rdOff b (m + 1) (D.put (.string s.data.toList) (offD v))) : OffsMap w' b (m + 1) (putF f s.data.toList v) := by
  refine ⟨_, h1, h2.put _ _, fun l => ?_⟩
  unfold putF
  by_cases e : l = s.data.toList
  · rw [if_pos e, e]
    exact Maps.atKey_put_same (k := .string s.data.toList) h2 trivial _ _
  · rw [if_neg e, Maps.atKey_put_other (fun h => by injection h with h; exact e h)]
    exact h3 l
theorem offsMap_made (w : World) : OffsMap (w.alloc (.map #[] 0)) w.heap.size 0 (fun _ => (0, 0)) :=
  ⟨.map [], World.ownsMap_made _ _ _ _, ⟨_, rfl⟩, fun l => rfl⟩
end Go.Proofs.Ytegdokchkblpiaa
