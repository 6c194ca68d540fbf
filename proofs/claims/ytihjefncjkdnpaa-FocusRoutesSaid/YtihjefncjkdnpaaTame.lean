/- A region that draws its order, under an invariant that may look at which operations have come up: one walk in the order of the text serves every order. (It covers regions that hold an allocation and a store beside loads and calls.) -/
import Derived.Test.YtihjefncjkdnpaaBase
import Derived.Orders
import Derived.Still
import Derived.StillTail
namespace Go.Proofs.Ytihjefncjkdnpaa
open Go.RowKit
set_option linter.unusedVariables false
set_option linter.unusedSimpArgs false

section
variable {P : Program} {ops : Array Oper} {md : Region.Mode} {C : Array Bool → World → Prop} {full : Array Bool} {Q : Act → Prop}

/-- Operation number i, in state a: in every world of the class in which it has not come up yet it yields v, and leaves a world of the class in which it has. -/
def Tame (P : Program) (md : Region.Mode) (ops : Array Oper) (C : Array Bool → World → Prop) (i : Nat) (o : Oper) (v : Value) (a : Act) : Prop :=
  (Region.wanted o (yielded ops a.tmps) = true ∧ ∀ l w, i ∈ Region.ready md ops l → C l w →
      match (execOp a.eval o).run P w with
      | .ok (.value u) w' => u = v ∧ C (l.setIfInBounds i true) w'
      | .ok .skip w' => v = undef ∧ C (l.setIfInBounds i true) w'
      | .ok (.enter f args) w' => Calls P f args w' fun e w'' => e = .returned v ∧ C (l.setIfInBounds i true) w''
      | _ => False) ∨
  (Region.wanted o (yielded ops a.tmps) = false ∧ v = undef ∧ ∀ l w, i ∈ Region.ready md ops l → C l w → C (l.setIfInBounds i true) w)

theorem Tame.same {i : Nat} {o : Oper} {v : Value} {a a' : Act} (h : Tame P md ops C i o v a) (he : execOp a'.eval o = execOp a.eval o)
    (hw : Region.wanted o (yielded ops a'.tmps) = Region.wanted o (yielded ops a.tmps)) : Tame P md ops C i o v a' := by
  unfold Tame at *; rw [he, hw]; exact h

def tameOp (P : Program) (md : Region.Mode) (ops : Array Oper) (C : Array Bool → World → Prop) (i : Nat) (K : Act → Prop) (a : Act) : Prop :=
  ∃ o v, ops[i]? = some o ∧ Tame P md ops C i o v a ∧ K (a.put o.dst v)

theorem tameOp_mono {i : Nat} {a : Act} {K K' : Act → Prop} (h : ∀ a, K a → K' a) (hh : tameOp P md ops C i K a) : tameOp P md ops C i K' a :=
  let ⟨o, v, h1, h2, h3⟩ := hh
  ⟨o, v, h1, h2, h _ h3⟩

/-- Whatever order is picked from here on. -/
def anyT (P : Program) (md : Region.Mode) (ops : Array Oper) (C : Array Bool → World → Prop) (full : Array Bool) (Q : Act → Prop) : Nat → Array Bool → Act → Prop
  | 0, l, a => l = full ∧ Region.ready md ops l = [] ∧ Q a
  | n + 1, l, a => Region.ready md ops l ≠ [] ∧ ∀ i ∈ Region.ready md ops l, tameOp P md ops C i (anyT P md ops C full Q n (l.setIfInBounds i true)) a

theorem wpAny_of_anyT {Q' : Exit → Act → World → Prop} (hQ : ∀ a w, C full w → Q a → Q' .normal a w) :
    ∀ (n : Nat) (l : Array Bool) (a : Act) (w : World), C l w → anyT P md ops C full Q n l a → wpAny P md ops Q' n l a w
  | 0, l, a, w, hC, ⟨hl, hr, q⟩ => ⟨hr, hQ _ _ (hl ▸ hC) q⟩
  | n + 1, l, a, w, hC, ⟨hne, hall⟩ => by
    refine ⟨fun h0 => absurd h0 hne, fun i hi => ?_⟩
    obtain ⟨o, v, ho, ht, hk⟩ := hall i hi
    unfold wpOp
    simp only [ho]
    rcases ht with ⟨hw, ht⟩ | ⟨hw, hv, ht⟩
    · simp only [hw, if_true]
      refine .inl ?_
      have h1 := ht l w hi hC
      unfold Oper.wp
      generalize (execOp a.eval o).run P w = r at *
      cases r with
      | ok x w' =>
        cases x <;> simp only [Oper.upon] at h1 ⊢
        case value u => obtain ⟨rfl, h2⟩ := h1; exact wpAny_of_anyT hQ n _ _ _ h2 hk
        case skip => obtain ⟨rfl, h2⟩ := h1; exact wpAny_of_anyT hQ n _ _ _ h2 hk
        case enter f args => exact h1.mono fun e w'' ⟨he, h2⟩ => by subst he; exact wpAny_of_anyT hQ n _ _ _ h2 hk
      | halt x w' => exact h1.elim
    · simp only [hw, Bool.false_eq_true, if_false]
      subst hv
      exact wpAny_of_anyT hQ n _ _ _ (ht l w hi hC) hk

/-- An operation that may come up now may be taken first. -/
theorem anyT_first {i : Nat} {oi : Oper} {v : Value} (hi : ops[i]? = some oi) (hsel : ∀ (j : Nat) (o : Oper) cs b, ops[j]? = some o → o.op ≠ .select cs b) :
    ∀ (n : Nat) (l : Array Bool) (a : Act),
      (∀ j oj, ops[j]? = some oj → j ≠ i → l.getD j true = false → (∀ e ∈ oj.after, Region.binds md e = true → e.on ≠ i) → oi.apart ops oj = true) →
      i ∈ Region.ready md ops l → Tame P md ops C i oi v a → anyT P md ops C full Q n (l.setIfInBounds i true) (a.put oi.dst v) → anyT P md ops C full Q (n + 1) l a := by
  intro n
  induction n with
  | zero =>
    intro l a _ hr ht H
    refine ⟨fun h => (by rw [h] at hr; cases hr), fun j hj => ?_⟩
    by_cases hji : j = i
    · subst hji; exact ⟨oi, v, hi, ht, H⟩
    · have := ready_mono hj hji
      rw [H.2.1] at this
      cases this
  | succ n ih =>
    intro l a hfree hr ht H
    refine ⟨fun h => (by rw [h] at hr; cases hr), fun j hj => ?_⟩
    by_cases hji : j = i
    · subst hji; exact ⟨oi, v, hi, ht, H⟩
    · obtain ⟨oj, u, hoj, htj, hk⟩ := H.2 j (ready_mono hj hji)
      obtain ⟨hjun, oj', hoj', hafter⟩ := mem_ready.1 hj
      have e : oj' = oj := Option.some.inj (hoj'.symm.trans hoj)
      subst e
      have hnot : ∀ e ∈ oj'.after, Region.binds md e = true → e.on ≠ i := fun e he hb heq => by
        have h1 := hafter e he hb
        have h0 := (mem_ready.1 hr).1
        rw [heq] at h1
        rcases Nat.lt_or_ge i l.size with h' | h'
        · simp [h'] at h0 h1; rw [h0] at h1; cases h1
        · simp [Array.getElem?_eq_none h'] at h1
      obtain ⟨a1, a2, a3⟩ := Oper.apart_spec (hfree j oj' hoj hji hjun hnot)
      have htj' : Tame P md ops C j oj' u a :=
        htj.same (execOp_put oj' (fun cs b => hsel j oj' cs b hoj) a oi.dst v a1).symm (wanted_put oj' a oi.dst v a1).symm
      have hti : Tame P md ops C i oi v (a.put oj'.dst u) := ht.same (execOp_put oi (fun cs b => hsel i oi cs b hi) a oj'.dst u a3) (wanted_put oi a oj'.dst u a3)
      refine ⟨oj', u, hoj, htj', ih (l.setIfInBounds j true) (a.put oj'.dst u) ?_ (ready_mono hr (Ne.symm hji)) hti ?_⟩
      · intro k ok hk' hki hun hno
        refine hfree k ok hk' hki ?_ hno
        by_cases hjk : j = k
        · subst hjk; exact hjun
        · rw [getD_set_ne true hjk] at hun; exact hun
      · rw [Array.setIfInBounds_comm _ _ hji, ← Act.put_comm a v u a2]
        exact hk

/-- The walk in the order of the text. -/
def lexT (P : Program) (md : Region.Mode) (ops : Array Oper) (C : Array Bool → World → Prop) (Q : Act → Prop) : Nat → List Oper → Act → Prop
  | _, [], a => Q a
  | k, o :: rest, a => ∃ v, Tame P md ops C k o v a ∧ lexT P md ops C Q (k + 1) rest (a.put o.dst v)

theorem set_replicate (k n : Nat) : ((Array.replicate k true) ++ (Array.replicate (n + 1) false)).setIfInBounds k true = (Array.replicate (k + 1) true) ++ (Array.replicate n false) := by
  apply Array.ext_getElem?
  intro i
  rw [Array.getElem?_setIfInBounds]
  by_cases h : k = i
  · subst h
    simp [Array.getElem?_append]
  · rw [if_neg h]
    by_cases h' : i < k
    · simp [Array.getElem?_append, h', show i < k + 1 by omega]
    · simp only [Array.getElem?_append, Array.size_replicate, h', show ¬ i < k + 1 by omega, if_false, Array.getElem?_replicate]
      by_cases h2 : i - k < n + 1
      · rw [if_pos h2, if_pos (by omega)]
      · rw [if_neg h2, if_neg (by omega)]

theorem anyT_lex (hs : Region.noSelect ops = true) : ∀ (l : List Oper) (k : Nat) (a : Act), (∀ j, l[j]? = ops[k + j]?) →
    Region.lexFrom md ops l.length k (Array.replicate k true ++ Array.replicate l.length false) = true → lexT P md ops C Q k l a →
    anyT P md ops C (Array.replicate (k + l.length) true) Q l.length (Array.replicate k true ++ Array.replicate l.length false) a
  | [], k, a, _, hB, h => by
    refine ⟨by simp, ?_, h⟩
    simpa [Region.lexFrom] using hB
  | o :: l, k, a, hl, hB, ⟨v, ht, hk⟩ => by
    have h0 : ops[k]? = some o := by simpa using (hl 0).symm
    simp only [List.length_cons, Region.lexFrom, Bool.and_eq_true] at hB
    obtain ⟨⟨hr, hf⟩, hB'⟩ := hB
    rw [set_replicate] at hB'
    have := anyT_lex hs l (k + 1) _ (fun j => by have := hl (j + 1); simpa [Nat.add_assoc, Nat.add_comm 1 j] using this) hB' hk
    rw [← set_replicate, show k + 1 + l.length = k + (o :: l).length by simp; omega] at this
    exact anyT_first h0 (Region.noSelect_spec hs) l.length _ a (Region.free_spec h0 hf) (by simpa using hr) ht this

/-- **ONE WALK IN THE ORDER OF THE TEXT SERVES EVERY ORDER.** -/
theorem wp_region_tame {id : Nat} {Q' : Exit → Act → World → Prop} {a : Act} {w : World} {l : List Oper} (C : Array Bool → World → Prop) (hm : P.follows .mixedOrders = true) (hB : Region.lexB .any l.toArray = true)
    (hC : C (Array.replicate l.length false) w.drew) (h : lexT P .any l.toArray C (fun a' => ∀ w', C (Array.replicate l.length true) w' → Q' .normal a' w') 0 l a) :
    (Code.region id l.toArray true).wp P Q' a w := by
  simp only [Region.lexB, Bool.and_eq_true] at hB
  refine wp_region_any hm ?_
  have := anyT_lex (md := .any) hB.1 l 0 a (by simp) (by simpa using hB.2) h
  simp only [Nat.zero_add] at this
  have e : (Array.replicate 0 true ++ Array.replicate l.length false) = Array.replicate l.toArray.size false := by simp
  rw [e] at this
  exact wpAny_of_anyT (Q' := Q') (fun a' w' hc hq => hq w' hc) _ _ _ _ (by simpa using hC) this

/-- Has operation n come up? -/
def flag (l : Array Bool) (n : Nat) : Bool := l.getD n false
theorem flag_ne {l : Array Bool} {k n : Nat} (h : k ≠ n) : flag (l.setIfInBounds k true) n = flag l n := getD_set_ne false h
theorem flag_un {l : Array Bool} {k : Nat} (h : l.getD k true = false) : flag l k = false := by
  unfold flag
  rcases Nat.lt_or_ge k l.size with h' | h'
  · simp [h'] at h ⊢; exact h
  · simp [Array.getElem?_eq_none h'] at h
theorem flag_eq {l : Array Bool} {k : Nat} (h : l.getD k true = false) : flag (l.setIfInBounds k true) k = true := by
  unfold flag
  rcases Nat.lt_or_ge k l.size with h' | h'
  · simp [h']
  · simp [Array.getElem?_eq_none h'] at h
theorem ready_un {l : Array Bool} {k : Nat} (h : k ∈ Region.ready md ops l) : l.getD k true = false := (mem_ready.1 h).1
theorem ready_dep {l : Array Bool} {k : Nat} (h : k ∈ Region.ready md ops l) (j : Nat) (hj : Region.waitsFor md ops k j = true) : flag l j = true := by
  obtain ⟨o, ho, e, he, hb, rfl⟩ := Region.waitsFor_spec hj
  obtain ⟨_, o', ho', hall⟩ := mem_ready.1 h
  have : o' = o := Option.some.inj (ho'.symm.trans ho)
  subst this
  exact hall e he hb
theorem flag_no (n k : Nat) : flag (Array.replicate n false) k = false := by
  unfold flag; simp [Array.getElem?_replicate]; split <;> rfl
theorem flag_all {n k : Nat} (h : k < n) : flag (Array.replicate n true) k = true := by
  unfold flag; simp [h]

section
variable {k : Nat} {o : Oper} {rest : List Oper} {a : Act} {v : Value}
/-- arithmetic, an address, a copy, a load: the world is left alone -/
theorem lexT_value (hw : Region.wanted o (yielded ops a.tmps) = true) (hC : ∀ l w, k ∈ Region.ready md ops l → C l w → C (l.setIfInBounds k true) w)
    (hr : ∀ l w, C l w → (execOp a.eval o).run P w = .ok (.value v) w) (h : lexT P md ops C Q (k + 1) rest (a.put o.dst v)) : lexT P md ops C Q k (o :: rest) a :=
  ⟨v, .inl ⟨hw, fun l w hun hc => by rw [hr l w hc]; exact ⟨rfl, hC l w hun hc⟩⟩, h⟩
/-- an operation whose guard says no -/
theorem lexT_no (hw : Region.wanted o (yielded ops a.tmps) = false) (hC : ∀ l w, k ∈ Region.ready md ops l → C l w → C (l.setIfInBounds k true) w)
    (h : lexT P md ops C Q (k + 1) rest (a.put o.dst undef)) : lexT P md ops C Q k (o :: rest) a :=
  ⟨undef, .inr ⟨hw, rfl, hC⟩, h⟩
/-- a call -/
theorem lexT_call {f : FuncId} {args : Array Value} (hw : Region.wanted o (yielded ops a.tmps) = true)
    (hr : ∀ l w, C l w → (execOp a.eval o).run P w = .ok (.enter f args) w) (hc : ∀ l w, k ∈ Region.ready md ops l → C l w → Calls P f args w fun e w' => e = .returned v ∧ C (l.setIfInBounds k true) w')
    (h : lexT P md ops C Q (k + 1) rest (a.put o.dst v)) : lexT P md ops C Q k (o :: rest) a :=
  ⟨v, .inl ⟨hw, fun l w hun h1 => by rw [hr l w h1]; exact hc l w hun h1⟩, h⟩
/-- an operation that yields a value and turns the world (an allocation) -/
theorem lexT_make (hw : Region.wanted o (yielded ops a.tmps) = true) (hr : ∀ l w, k ∈ Region.ready md ops l → C l w → ∃ w', (execOp a.eval o).run P w = .ok (.value v) w' ∧ C (l.setIfInBounds k true) w')
    (h : lexT P md ops C Q (k + 1) rest (a.put o.dst v)) : lexT P md ops C Q k (o :: rest) a :=
  ⟨v, .inl ⟨hw, fun l w hun h1 => by obtain ⟨w', e, h2⟩ := hr l w hun h1; rw [e]; exact ⟨rfl, h2⟩⟩, h⟩
/-- a store -/
theorem lexT_store (hw : Region.wanted o (yielded ops a.tmps) = true) (hr : ∀ l w, k ∈ Region.ready md ops l → C l w → ∃ w', (execOp a.eval o).run P w = .ok .skip w' ∧ C (l.setIfInBounds k true) w')
    (h : lexT P md ops C Q (k + 1) rest (a.put o.dst undef)) : lexT P md ops C Q k (o :: rest) a :=
  ⟨undef, .inl ⟨hw, fun l w hun h1 => by obtain ⟨w', e, h2⟩ := hr l w hun h1; rw [e]; exact ⟨rfl, h2⟩⟩, h⟩
theorem lexT_nil (h : Q a) : lexT P md ops C Q k [] a := h

/-- The world is known at each time: F (has i come up?) (has j come up?); j comes behind i. -/
def phase2 (i j : Nat) (F : Bool → Bool → World) : Array Bool → World → Prop := fun l w => w = F (flag l i) (flag l j) ∧ (flag l j = true → flag l i = true)
section
variable {i j : Nat} {F : Bool → Bool → World}
theorem phase2_init (n : Nat) {w : World} (h : w = F false false) : phase2 i j F (Array.replicate n false) w := by
  unfold phase2; rw [flag_no, flag_no]; exact ⟨h, fun h => by cases h⟩
theorem phase2_end {n : Nat} {w : World} (hi : i < n) (hj : j < n) (h : phase2 i j F (Array.replicate n true) w) : w = F true true := by
  unfold phase2 at h; rw [flag_all hi, flag_all hj] at h; exact h.1
theorem phase2_keep (h1 : k ≠ i) (h2 : k ≠ j) : ∀ l w, k ∈ Region.ready md ops l → phase2 i j F l w → phase2 i j F (l.setIfInBounds k true) w := by
  intro l w _ h; unfold phase2 at *; rw [flag_ne h1, flag_ne h2]; exact h
theorem lexT_value2 (h1 : k ≠ i) (h2 : k ≠ j) (hw : Region.wanted o (yielded ops a.tmps) = true) (hr : ∀ s t, (execOp a.eval o).run P (F s t) = .ok (.value v) (F s t))
    (h : lexT P md ops (phase2 i j F) Q (k + 1) rest (a.put o.dst v)) : lexT P md ops (phase2 i j F) Q k (o :: rest) a :=
  lexT_value hw (phase2_keep h1 h2) (fun l w hc => by unfold phase2 at hc; rw [hc.1]; exact hr _ _) h
theorem lexT_no2 (h1 : k ≠ i) (h2 : k ≠ j) (hw : Region.wanted o (yielded ops a.tmps) = false)
    (h : lexT P md ops (phase2 i j F) Q (k + 1) rest (a.put o.dst undef)) : lexT P md ops (phase2 i j F) Q k (o :: rest) a :=
  lexT_no hw (phase2_keep h1 h2) h
theorem lexT_call2 {f : FuncId} {args : Array Value} (h1 : k ≠ i) (h2 : k ≠ j) (hw : Region.wanted o (yielded ops a.tmps) = true) (hr : ∀ s t, (execOp a.eval o).run P (F s t) = .ok (.enter f args) (F s t))
    (hc : ∀ w, Calls P f args w fun e w' => e = .returned v ∧ w = w') (h : lexT P md ops (phase2 i j F) Q (k + 1) rest (a.put o.dst v)) : lexT P md ops (phase2 i j F) Q k (o :: rest) a :=
  lexT_call hw (fun l w hc => by unfold phase2 at hc; rw [hc.1]; exact hr _ _) (fun l w hk h => (hc w).mono fun e w' ⟨he, hw'⟩ => ⟨he, hw' ▸ phase2_keep h1 h2 l w hk h⟩) h
/-- the allocation: operation i -/
theorem lexT_alloc2 (hij : i ≠ j) (hw : Region.wanted o (yielded ops a.tmps) = true) (hr : (execOp a.eval o).run P (F false false) = .ok (.value v) (F true false))
    (h : lexT P md ops (phase2 i j F) Q (i + 1) rest (a.put o.dst v)) : lexT P md ops (phase2 i j F) Q i (o :: rest) a :=
  lexT_make hw (fun l w hk hc => by
    unfold phase2 at hc ⊢
    obtain ⟨h1, h2⟩ := hc
    have e1 : flag l i = false := flag_un (ready_un hk)
    have e2 : flag l j = false := by
      cases e : flag l j with
      | false => rfl
      | true => rw [h2 e] at e1; cases e1
    rw [h1, e1, e2, flag_eq (ready_un hk), flag_ne hij, e2]
    exact ⟨_, hr, rfl, fun h => by cases h⟩) h
/-- the store: operation j, which waits for i -/
theorem lexT_store2 (hij : j ≠ i) (hd : Region.waitsFor md ops j i = true) (hw : Region.wanted o (yielded ops a.tmps) = true) (hr : (execOp a.eval o).run P (F true false) = .ok .skip (F true true))
    (h : lexT P md ops (phase2 i j F) Q (j + 1) rest (a.put o.dst undef)) : lexT P md ops (phase2 i j F) Q j (o :: rest) a :=
  lexT_store hw (fun l w hk hc => by
    unfold phase2 at hc ⊢
    rw [hc.1, flag_un (ready_un hk), ready_dep hk i hd, flag_eq (ready_un hk), flag_ne hij, ready_dep hk i hd]
    exact ⟨_, hr, rfl, fun _ => rfl⟩) h
end

/-- The world is known at each time: F (has j come up?). -/
def phase1 (j : Nat) (F : Bool → World) : Array Bool → World → Prop := fun l w => w = F (flag l j)
section
variable {j : Nat} {F : Bool → World}
theorem phase1_init (n : Nat) {w : World} (h : w = F false) : phase1 j F (Array.replicate n false) w := by
  unfold phase1; rw [flag_no]; exact h
theorem phase1_end {n : Nat} {w : World} (hj : j < n) (h : phase1 j F (Array.replicate n true) w) : w = F true := by
  unfold phase1 at h; rw [flag_all hj] at h; exact h
theorem phase1_keep (h2 : k ≠ j) : ∀ l w, k ∈ Region.ready md ops l → phase1 j F l w → phase1 j F (l.setIfInBounds k true) w := by
  intro l w _ h; unfold phase1 at *; rw [flag_ne h2]; exact h
theorem lexT_value1 (h2 : k ≠ j) (hw : Region.wanted o (yielded ops a.tmps) = true) (hr : ∀ t, (execOp a.eval o).run P (F t) = .ok (.value v) (F t))
    (h : lexT P md ops (phase1 j F) Q (k + 1) rest (a.put o.dst v)) : lexT P md ops (phase1 j F) Q k (o :: rest) a :=
  lexT_value hw (phase1_keep h2) (fun l w hc => by unfold phase1 at hc; rw [hc]; exact hr _) h
theorem lexT_no1 (h2 : k ≠ j) (hw : Region.wanted o (yielded ops a.tmps) = false)
    (h : lexT P md ops (phase1 j F) Q (k + 1) rest (a.put o.dst undef)) : lexT P md ops (phase1 j F) Q k (o :: rest) a :=
  lexT_no hw (phase1_keep h2) h
theorem lexT_call1 {f : FuncId} {args : Array Value} (h2 : k ≠ j) (hw : Region.wanted o (yielded ops a.tmps) = true) (hr : ∀ t, (execOp a.eval o).run P (F t) = .ok (.enter f args) (F t))
    (hc : ∀ w, Calls P f args w fun e w' => e = .returned v ∧ w = w') (h : lexT P md ops (phase1 j F) Q (k + 1) rest (a.put o.dst v)) : lexT P md ops (phase1 j F) Q k (o :: rest) a :=
  lexT_call hw (fun l w hc => by unfold phase1 at hc; rw [hc]; exact hr _) (fun l w hk h => (hc w).mono fun e w' ⟨he, hw'⟩ => ⟨he, hw' ▸ phase1_keep h2 l w hk h⟩) h
/-- the store: operation j -/
theorem lexT_store1 (hw : Region.wanted o (yielded ops a.tmps) = true) (hr : (execOp a.eval o).run P (F false) = .ok .skip (F true))
    (h : lexT P md ops (phase1 j F) Q (j + 1) rest (a.put o.dst undef)) : lexT P md ops (phase1 j F) Q j (o :: rest) a :=
  lexT_store hw (fun l w hk hc => by
    unfold phase1 at hc ⊢
    rw [hc, flag_un (ready_un hk), flag_eq (ready_un hk)]
    exact ⟨_, hr, rfl⟩) h
end
end
end
end Go.Proofs.Ytihjefncjkdnpaa
