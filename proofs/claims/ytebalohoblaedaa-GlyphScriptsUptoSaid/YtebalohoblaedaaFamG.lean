/- Families of lists of the call's own: each marked, each gone on with, all read back. -/
import Derived.Test.YtebalohoblaedaaLntO
import Derived.Laws.OwnMore
import Derived.Deep.OwnRows
import Derived.OneCell
import Derived.Test.YtebalohoblaedaaAppK
namespace Go.Proofs.Ytebalohoblaedaa
open Go.RowKit
set_option linter.unusedVariables false
set_option linter.unusedSimpArgs false

theorem row_kept {w w' : World} {base : Nat} {t : TypeId} {k n : Nat} {v : Value} {xs : List Value} (h : w.ownsRow base t k v n xs) (hk : ∀ g, v.ownBlock = some g → w'.heap[g]? = w.heap[g]?) : w'.ownsRow base t k v n xs := by
  refine ⟨h.1, ?_⟩
  rcases h.2 with hn | ⟨g, cap, cur, rfl, hb, hgg, rest⟩
  · exact .inl hn
  · exact .inr ⟨g, cap, cur, rfl, hb, (hk g rfl).trans hgg, rest⟩
/-- a list: its elements' type and cells, the value that names it, its length, what it holds -/
structure Rw where
  t : TypeId
  k : Nat
  v : Value
  n : Nat
  xs : List Value
/-- lists of the call's own, no two in one block -/
structure Fam {ι : Type} (base : Nat) (w : World) (V : ι → Prop) (R : ι → Rw) : Prop where
  own : ∀ a, V a → w.ownsRow base (R a).t (R a).k (R a).v (R a).n (R a).xs
  dis : ∀ a b, V a → V b → a ≠ b → ∀ g, (R a).v.ownBlock = some g → (R b).v.ownBlock ≠ some g
/-- those of D may have been gone on with since wm -/
structure Grw {ι : Type} (base : Nat) (wm wr : World) (V : ι → Prop) (R : ι → Rw) (D : ι → Prop) : Prop where
  rd : ∀ a, V a → ∀ g, (R a).v.ownBlock = some g → ∀ (k : Nat) (u : Value), (R a).xs[k]? = some u → wr.cell? ⟨g, k, none⟩ = some u
  un : ∀ b, b < wm.heap.size → (∀ a, V a → D a → (R a).v.ownBlock ≠ some b) → wr.heap[b]? = wm.heap[b]?
  sz : wm.heap.size ≤ wr.heap.size
  be : Below base wm wr
/-- one that is being gone on with -/
structure Gro (base : Nat) (wm wr : World) (r : Rw) (G : Value) (m : Nat) (T : List Value) : Prop where
  own : wr.ownsRow base r.t r.k G m (r.xs ++ T)
  far : G.ownBlock = r.v.ownBlock ∨ ∃ h, G.ownBlock = some h ∧ wm.heap.size ≤ h
section
variable {ι : Type} {base : Nat} {w w' wm wr w1 w2 : World} {V : ι → Prop} {R R' : ι → Rw} {D D' : ι → Prop}
theorem Fam.kept (h : Fam base w V R) (hk : ∀ a g, V a → (R a).v.ownBlock = some g → w'.heap[g]? = w.heap[g]?) : Fam base w' V R :=
  ⟨fun a ha => row_kept (h.own a ha) fun g e => hk a g ha e, h.dis⟩
theorem Fam.later (h : Fam base w V R) (hb : Below w.heap.size w w') : Fam base w' V R := h.kept fun a g ha e => hb.block g (row_lt (h.own a ha) g e).1
/-- a block of another type is none of theirs -/
theorem Fam.set_out (h : Fam base w V R) {g i : Nat} {u : Value} (hg : ∀ a, V a → (R a).v.ownBlock ≠ some g) : Fam base (w.setCell ⟨g, i, none⟩ u) V R :=
  h.kept fun a q ha e => heap_setCell_other w ⟨g, i, none⟩ q u (fun e' => hg a ha (by have e' : q = g := e'; rw [e, e']))
/-- a cell of one of them is set -/
theorem Fam.set (h : Fam base w V R) {a : ι} (ha : V a) {g c : Nat} (hv : (R a).v = .slice (some ⟨g, 0, none⟩) (R a).n c) (i : Nat) (u : Value) (hR : R' a = { R a with xs := (R a).xs.set i u }) (hne : ∀ b, V b → b ≠ a → R' b = R b) : Fam base (w.setCell ⟨g, i, none⟩ u) V R' := by
  have hg : (R a).v.ownBlock = some g := by rw [hv]; rfl
  have hvs : ∀ b, V b → (R' b).v = (R b).v := fun b hb => by
    by_cases e : b = a
    · subst e; rw [hR]
    · rw [hne b hb e]
  refine ⟨fun b hb => ?_, fun b b' hb hb' e q hq => ?_⟩
  · by_cases e : b = a
    · subst e
      rw [hR]
      have h1 := h.own b ha
      rw [hv] at h1
      have := (h1.stored i u).1
      rw [← hv] at this
      exact this
    · rw [hne b hb e]
      exact row_kept (h.own b hb) fun q hq => heap_setCell_other w ⟨g, i, none⟩ q u (fun e' => h.dis a b ha hb (Ne.symm e) g hg (by have e' : q = g := e'; rw [hq, e']))
  · rw [hvs b hb] at hq
    rw [hvs b' hb']
    exact h.dis b b' hb hb' e q hq
theorem Grw.refl (h : Fam base w V R) (hD : ∀ a, ¬ D a) : Grw base w w V R D :=
  ⟨fun a ha g hg k u hu => by
    have := (h.own a ha).cells hg k u hu
    rw [Addr.add_mid, Nat.zero_add] at this
    exact this, fun b hb hn => rfl, Nat.le_refl _, Below.refl _ _⟩
theorem Grw.mono (h : Grw base wm wr V R D) (hD : ∀ a, V a → D a → D' a) : Grw base wm wr V R D' := ⟨h.rd, fun b hb hn => h.un b hb fun a ha hd => hn a ha (hD a ha hd), h.sz, h.be⟩
theorem Grw.later (F : Fam base wm V R) (h : Grw base wm wr V R D) (hb : Below wr.heap.size wr w1) (hbase : base ≤ wm.heap.size) : Grw base wm w1 V R D :=
  ⟨fun a ha g hg k u hu => (World.cell?_of_block (a := ⟨g, k, none⟩) (hb.block g (by have := (row_lt (F.own a ha) g hg).1; have := h.sz; omega))).trans (h.rd a ha g hg k u hu), fun b hb' hn => (hb.block b (by have := h.sz; omega)).trans (h.un b hb' hn), Nat.le_trans h.sz hb.size, h.be.trans (hb.mono (Nat.le_trans hbase h.sz))⟩
/-- one that has not been gone on with is the call's own yet -/
theorem Grw.own (F : Fam base wm V R) (h : Grw base wm wr V R D) {a : ι} (ha : V a) (hd : ¬ D a) : wr.ownsRow base (R a).t (R a).k (R a).v (R a).n (R a).xs :=
  row_kept (F.own a ha) fun g hg => h.un g (row_lt (F.own a ha) g hg).1 fun b hb hdb e => F.dis b a hb ha (fun e' => hd (e' ▸ hdb)) g e hg
theorem Grw.start (F : Fam base wm V R) (h : Grw base wm wr V R D) {a : ι} (ha : V a) (hd : ¬ D a) : Gro base wm wr (R a) (R a).v (R a).n [] :=
  ⟨by rw [List.append_nil]; exact h.own F ha hd, .inl rfl⟩
theorem Gro.later {r : Rw} {G : Value} {m : Nat} {T : List Value} (g : Gro base wm wr r G m T) (hb : Below wr.heap.size wr w1) : Gro base wm w1 r G m T := ⟨row_later g.own hb, g.far⟩
theorem Gro.kept {r : Rw} {G : Value} {m : Nat} {T : List Value} {row : Option Nat} (g : Gro base wm wr r G m T) (gr : wr.grownBy w1 row) (hne : G.ownBlock = none ∨ G.ownBlock ≠ row) : Gro base wm w1 r G m T := ⟨g.own.kept gr hne, g.far⟩
/-- one more -/
theorem Grw.app (F : Fam base wm V R) (hbase : base ≤ wm.heap.size) (h : Grw base wm wr V R D) {a : ι} (ha : V a) (hd : D a) {G v2 : Value} {m m2 : Nat} {T T2 : List Value} (g : Gro base wm wr (R a) G m T) (gr : wr.grownBy w2 G.ownBlock)
    (own : w2.ownsRow base (R a).t (R a).k v2 m2 ((R a).xs ++ T2)) (loc : v2.ownBlock = G.ownBlock ∨ (v2.ownBlock = some wr.heap.size ∧ wr.grownBy w2 none)) : Grw base wm w2 V R D ∧ Gro base wm w2 (R a) v2 m2 T2 := by
  have X : ∀ b, V b → b ≠ a → ∀ q, (R b).v.ownBlock = some q → some q ≠ G.ownBlock := fun b hb hba q hq e => by
    rcases g.far with f | ⟨k, f, f'⟩
    · exact F.dis b a hb ha hba q hq (by rw [← f, ← e])
    · rw [f] at e
      injection e with e
      have := (row_lt (F.own b hb) q hq).1
      omega
  have zq : ∀ b, V b → ∀ q, (R b).v.ownBlock = some q → q < wr.heap.size := fun b hb q hq => by have := (row_lt (F.own b hb) q hq).1; have := h.sz; omega
  refine ⟨⟨fun b hb q hq k u hu => ?_, fun b hb hn => ?_, Nat.le_trans h.sz gr.size, Below.grown h.be gr (Nat.le_trans hbase h.sz) (fun k hk => (row_lt g.own k hk).2)⟩, ⟨own, ?_⟩⟩
  · by_cases e : b = a
    · subst e
      by_cases hG : G.ownBlock = some q
      · rcases loc with l | ⟨_, g2⟩
        · have := own.cells (l.trans hG) k u (by rw [List.getElem?_append_left (List.getElem?_eq_some_iff.1 hu).1]; exact hu)
          rw [Addr.add_mid, Nat.zero_add] at this
          exact this
        · exact (World.cell?_of_block (a := ⟨q, k, none⟩) (g2.block q (zq b hb q hq) (by simp))).trans (h.rd b hb q hq k u hu)
      · exact (World.cell?_of_block (a := ⟨q, k, none⟩) (gr.block q (zq b hb q hq) (Ne.symm hG))).trans (h.rd b hb q hq k u hu)
    · exact (World.cell?_of_block (a := ⟨q, k, none⟩) (gr.block q (zq b hb q hq) (X b hb e q hq))).trans (h.rd b hb q hq k u hu)
  · refine (gr.block b (by have := h.sz; omega) (fun e => ?_)).trans (h.un b hb hn)
    rcases g.far with f | ⟨k, f, f'⟩
    · exact hn a ha hd (by rw [← f, ← e])
    · rw [f] at e
      injection e with e
      omega
  · rcases loc with l | ⟨l, _⟩
    · rw [l]; exact g.far
    · exact .inr ⟨_, l, h.sz⟩
end
end Go.Proofs.Ytebalohoblaedaa
