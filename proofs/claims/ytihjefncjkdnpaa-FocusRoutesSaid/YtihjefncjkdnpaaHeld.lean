/- A region that draws its order, some of whose operations call or make memory, these in a forced order: one walk in the order of the text; the worlds behind the calls may be whatever meets S. -/
import Derived.Test.YtihjefncjkdnpaaTame
import Derived.OrdersHeld
import Derived.Deep.MidRow
namespace Go.Proofs.Ytihjefncjkdnpaa
open Go.RowKit
set_option linter.unusedVariables false
set_option linter.unusedSimpArgs false

section
variable {P : Program} {ops : Array Oper} {md : Region.Mode} {Q : Exit → Act → World → Prop} {S : World → Prop}
/-- the first k operations have come up -/
def upTo (k n : Nat) : Array Bool := Array.replicate k true ++ Array.replicate n false
/-- The walk in the order of the text: an operation yields in every world that meets S, or it alone may come up. -/
def lexH (P : Program) (md : Region.Mode) (ops : Array Oper) (Q : Exit → Act → World → Prop) (S : World → Prop) : Nat → List Oper → Act → World → Prop
  | _, [], a, w => Q .normal a w
  | k, o :: rest, a, w =>
    (∃ v, YieldsIf P ops S o v a ∧ lexH P md ops Q S (k + 1) rest (a.put o.dst v) w) ∨
    (Region.ready md ops (upTo k (rest.length + 1)) = [k] ∧ Region.wanted o (yielded ops a.tmps) = true ∧ (S w → o.wp P a w (fun a' w' => S w' ∧ lexH P md ops Q S (k + 1) rest a' w') Q))
theorem upTo_set (k n : Nat) : (upTo k (n + 1)).setIfInBounds k true = upTo (k + 1) n := set_replicate k n
theorem anyH_lex (hs : Region.noSelect ops = true) (hQ : ∀ c a d v w, Q (.panic c) (Act.put a d v) w → Q (.panic c) a w) : ∀ (l : List Oper) (k : Nat) (a : Act) (w : World), (∀ j, l[j]? = ops[k + j]?) →
    Region.lexFrom md ops l.length k (upTo k l.length) = true → S w → lexH P md ops Q S k l a w → wpAnyH P md ops Q S l.length (upTo k l.length) a w
  | [], k, a, w, _, hB, _, h => ⟨by simpa [Region.lexFrom] using hB, h⟩
  | o :: l, k, a, w, hl, hB, hS, h => by
    have h0 : ops[k]? = some o := by simpa using (hl 0).symm
    simp only [List.length_cons, Region.lexFrom, Bool.and_eq_true] at hB
    obtain ⟨⟨hr, hf⟩, hB'⟩ := hB
    rw [upTo_set] at hB'
    have hl' : ∀ j, l[j]? = ops[k + 1 + j]? := fun j => by have := hl (j + 1); simpa [Nat.add_assoc, Nat.add_comm 1 j] using this
    rcases h with ⟨v, hy, hk⟩ | ⟨hr1, hw, he⟩
    · refine wpAnyH_take h0 hs hf hr (fun c a w h => hQ c a _ _ w h) hy hS ?_
      rw [List.length_cons, upTo_set]
      exact anyH_lex hs hQ l (k + 1) _ w hl' hB' hS hk
    · refine wpAnyH_all hr1 (by simp) (fun i hi => ?_)
      rw [List.mem_singleton] at hi
      subst hi
      unfold wpOp
      simp only [h0, hw, if_true]
      refine .inl (Oper.wp_mono (fun a' w' h => ⟨h.1, ?_⟩) (he hS))
      rw [List.length_cons, upTo_set]
      exact anyH_lex hs hQ l (i + 1) _ w' hl' hB' h.1 h.2
theorem wp_region_lexH {id : Nat} {a : Act} {w : World} {l : List Oper} (S : World → Prop) (hm : P.follows .mixedOrders = true) (hB : Region.lexB .any l.toArray = true) (hQ : ∀ c a d v w, Q (.panic c) (Act.put a d v) w → Q (.panic c) a w) (hS : S w.drew)
    (h : lexH P .any l.toArray Q S 0 l a w.drew) : (Code.region id l.toArray true).wp P Q a w := by
  simp only [Region.lexB, Bool.and_eq_true] at hB
  refine wp_region_held (S := S) hm ?_
  have e : upTo 0 l.length = Array.replicate l.toArray.size false := by simp [upTo]
  have := anyH_lex (md := .any) (P := P) (S := S) hB.1 hQ l 0 a w.drew (by simp) (by rw [e]; simpa using hB.2) hS h
  rw [e] at this
  simpa using this

variable {k : Nat} {o : Oper} {rest : List Oper} {a : Act} {w : World} {v : Value}
theorem lexH_run (hw : Region.wanted o (yielded ops a.tmps) = true) (hr : ∀ w, S w → (execOp a.eval o).run P w = .ok (.value v) w) (h : lexH P md ops Q S (k + 1) rest (a.put o.dst v) w) : lexH P md ops Q S k (o :: rest) a w :=
  .inl ⟨v, .inl ⟨hw, hr⟩, h⟩
theorem lexH_no (hw : Region.wanted o (yielded ops a.tmps) = false) (h : lexH P md ops Q S (k + 1) rest (a.put o.dst undef) w) : lexH P md ops Q S k (o :: rest) a w :=
  .inl ⟨undef, .inr ⟨hw, rfl⟩, h⟩
/-- a struct, read whole -/
theorem lexH_load (hw : Region.wanted o (yielded ops a.tmps) = true) (ty : TypeId) (x : Operand) (ho : o.op = .load ty x) (b off : Nat) (hx : a.eval x = .pointer (some ⟨b, off, none⟩)) (cs : List Value) (d : TypeDesc) (hS : ∀ w, S w → w.rangeAt b off cs) (hu : P.underlying ty = some d) (hd : d.isRow = true) (hi : (P.info? ty).map (·.size) = some cs.length)
    (h : lexH P md ops Q S (k + 1) rest (a.put o.dst (.agg cs.toArray)) w) : lexH P md ops Q S k (o :: rest) a w :=
  .inl ⟨_, yieldsIf_load_mid hw ty x ho b off hx cs d hS hu hd hi, h⟩
/-- a call -/
theorem lexH_call {f : FuncId} {args : Array Value} (hr : Region.ready md ops (upTo k (rest.length + 1)) = [k]) (hw : Region.wanted o (yielded ops a.tmps) = true) (he : (execOp a.eval o).run P w = .ok (.enter f args) w)
    (hc : S w → Calls P f args w fun e w' => ∃ v, e = .returned v ∧ S w' ∧ lexH P md ops Q S (k + 1) rest (a.put o.dst v) w') : lexH P md ops Q S k (o :: rest) a w :=
  .inr ⟨hr, hw, fun hS => by
    unfold Oper.wp
    rw [he]
    refine (hc hS).mono fun e w' h => ?_
    obtain ⟨v, rfl, h1, h2⟩ := h
    exact ⟨h1, h2⟩⟩
/-- an operation that makes memory -/
theorem lexH_make {w' : World} (hr : Region.ready md ops (upTo k (rest.length + 1)) = [k]) (hw : Region.wanted o (yielded ops a.tmps) = true) (he : (execOp a.eval o).run P w = .ok (.value v) w') (hS : S w → S w')
    (h : lexH P md ops Q S (k + 1) rest (a.put o.dst v) w') : lexH P md ops Q S k (o :: rest) a w :=
  .inr ⟨hr, hw, fun hSw => by
    unfold Oper.wp
    rw [he]
    exact ⟨hS hSw, h⟩⟩
theorem lexH_nil (h : Q .normal a w) : lexH P md ops Q S k [] a w := h
end
end Go.Proofs.Ytihjefncjkdnpaa
