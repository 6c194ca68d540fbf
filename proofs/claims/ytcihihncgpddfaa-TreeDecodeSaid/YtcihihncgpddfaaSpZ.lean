/- SpZ: Fam SpA SpB SpC in one text. -/
import Derived.Test.YtcihihncgpddfaaDecA
import Derived.Test.YtcihihncgpddfaaAppK
import Derived.Test.YtcihihncgpddfaaLtZ
import Derived.Test.YtcihihncgpddfaaApZ
import Derived.StillTailTactics
import Derived.Test.YtcihihncgpddfaaDecB
namespace Go.Proofs.Ytcihihncgpddfaa
open Go.RowKit
set_option linter.unusedVariables false
set_option linter.unusedSimpArgs false

/-- a list: its elements' type and cells, the value that names it, its length, what it holds -/
structure Rw where
  t : TypeId
  k : Nat
  v : Value
  n : Nat
  xs : List Value
/-- lists of the call's own, no two in one block -/
structure Fam {ι : Type} (base : Nat) (w : World) (V : ι → Prop) (R : ι → Rw) : Prop where
  own : ∀ a, V a → w.ownsRow base (R a).t (R a).k (R a).v (R a).n (R a).xs
  dis : ∀ a b, V a → V b → a ≠ b → ∀ g, (R a).v.ownBlock = some g → (R b).v.ownBlock ≠ some g
/-- those of D may have been gone on with since wm -/
structure Grw {ι : Type} (base : Nat) (wm wr : World) (V : ι → Prop) (R : ι → Rw) (D : ι → Prop) : Prop where
  rd : ∀ a, V a → ∀ g, (R a).v.ownBlock = some g → ∀ (k : Nat) (u : Value), (R a).xs[k]? = some u → wr.cell? ⟨g, k, none⟩ = some u
  un : ∀ b, b < wm.heap.size → (∀ a, V a → D a → (R a).v.ownBlock ≠ some b) → wr.heap[b]? = wm.heap[b]?
  sz : wm.heap.size ≤ wr.heap.size
  be : Below base wm wr
/-- one that is being gone on with -/
structure Gro (base : Nat) (wm wr : World) (r : Rw) (G : Value) (m : Nat) (T : List Value) : Prop where
  own : wr.ownsRow base r.t r.k G m (r.xs ++ T)
  far : G.ownBlock = r.v.ownBlock ∨ ∃ h, G.ownBlock = some h ∧ wm.heap.size ≤ h
section
variable {ι : Type} {base : Nat} {w w' wm wr w1 w2 : World} {V : ι → Prop} {R R' : ι → Rw} {D D' : ι → Prop}
theorem Fam.kept (h : Fam base w V R) (hk : ∀ a g, V a → (R a).v.ownBlock = some g → w'.heap[g]? = w.heap[g]?) : Fam base w' V R :=
  ⟨fun a ha => row_kept (h.own a ha) fun g e => hk a g ha e, h.dis⟩
theorem Fam.later (h : Fam base w V R) (hb : Below w.heap.size w w') : Fam base w' V R := h.kept fun a g ha e => hb.block g (row_lt (h.own a ha) g e).1
/-- a block of another type is none of theirs -/
theorem Fam.set_out (h : Fam base w V R) {g i : Nat} {u : Value} (hg : ∀ a, V a → (R a).v.ownBlock ≠ some g) : Fam base (w.setCell ⟨g, i, none⟩ u) V R :=
  h.kept fun a q ha e => heap_setCell_other w ⟨g, i, none⟩ q u (fun e' => hg a ha (by have e' : q = g := e'; rw [e, e']))
/-- a cell of one of them is set -/
theorem Fam.set (h : Fam base w V R) {a : ι} (ha : V a) {g c : Nat} (hv : (R a).v = .slice (some ⟨g, 0, none⟩) (R a).n c) (i : Nat) (u : Value) (hR : R' a = { R a with xs := (R a).xs.set i u }) (hne : ∀ b, V b → b ≠ a → R' b = R b) : Fam base (w.setCell ⟨g, i, none⟩ u) V R' := by
  have hg : (R a).v.ownBlock = some g := by rw [hv]; rfl
  have hvs : ∀ b, V b → (R' b).v = (R b).v := fun b hb => by
    by_cases e : b = a
    · subst e; rw [hR]
    · rw [hne b hb e]
  refine ⟨fun b hb => ?_, fun b b' hb hb' e q hq => ?_⟩
  · by_cases e : b = a
    · subst e
      rw [hR]
      have h1 := h.own b ha
      rw [hv] at h1
      have := (h1.stored i u).1
      rw [← hv] at this
      exact this
    · rw [hne b hb e]
      exact row_kept (h.own b hb) fun q hq => heap_setCell_other w ⟨g, i, none⟩ q u (fun e' => h.dis a b ha hb (Ne.symm e) g hg (by have e' : q = g := e'; rw [hq, e']))
  · rw [hvs b hb] at hq
    rw [hvs b' hb']
    exact h.dis b b' hb hb' e q hq
theorem Grw.refl (h : Fam base w V R) (hD : ∀ a, ¬ D a) : Grw base w w V R D :=
  ⟨fun a ha g hg k u hu => by
    have := (h.own a ha).cells hg k u hu
    rw [Addr.add_mid, Nat.zero_add] at this
    exact this, fun b hb hn => rfl, Nat.le_refl _, Below.refl _ _⟩
theorem Grw.mono (h : Grw base wm wr V R D) (hD : ∀ a, V a → D a → D' a) : Grw base wm wr V R D' := ⟨h.rd, fun b hb hn => h.un b hb fun a ha hd => hn a ha (hD a ha hd), h.sz, h.be⟩
theorem Grw.later (F : Fam base wm V R) (h : Grw base wm wr V R D) (hb : Below wr.heap.size wr w1) (hbase : base ≤ wm.heap.size) : Grw base wm w1 V R D :=
  ⟨fun a ha g hg k u hu => (World.cell?_of_block (a := ⟨g, k, none⟩) (hb.block g (by have := (row_lt (F.own a ha) g hg).1; have := h.sz; omega))).trans (h.rd a ha g hg k u hu), fun b hb' hn => (hb.block b (by have := h.sz; omega)).trans (h.un b hb' hn), Nat.le_trans h.sz hb.size, h.be.trans (hb.mono (Nat.le_trans hbase h.sz))⟩
/-- one that has not been gone on with is the call's own yet -/
theorem Grw.own (F : Fam base wm V R) (h : Grw base wm wr V R D) {a : ι} (ha : V a) (hd : ¬ D a) : wr.ownsRow base (R a).t (R a).k (R a).v (R a).n (R a).xs :=
  row_kept (F.own a ha) fun g hg => h.un g (row_lt (F.own a ha) g hg).1 fun b hb hdb e => F.dis b a hb ha (fun e' => hd (e' ▸ hdb)) g e hg
theorem Grw.start (F : Fam base wm V R) (h : Grw base wm wr V R D) {a : ι} (ha : V a) (hd : ¬ D a) : Gro base wm wr (R a) (R a).v (R a).n [] :=
  ⟨by rw [List.append_nil]; exact h.own F ha hd, .inl rfl⟩
theorem Gro.later {r : Rw} {G : Value} {m : Nat} {T : List Value} (g : Gro base wm wr r G m T) (hb : Below wr.heap.size wr w1) : Gro base wm w1 r G m T := ⟨row_later g.own hb, g.far⟩
theorem Gro.kept {r : Rw} {G : Value} {m : Nat} {T : List Value} {row : Option Nat} (g : Gro base wm wr r G m T) (gr : wr.grownBy w1 row) (hne : G.ownBlock = none ∨ G.ownBlock ≠ row) : Gro base wm w1 r G m T := ⟨g.own.kept gr hne, g.far⟩
/-- one more -/
theorem Grw.app (F : Fam base wm V R) (hbase : base ≤ wm.heap.size) (h : Grw base wm wr V R D) {a : ι} (ha : V a) (hd : D a) {G v2 : Value} {m m2 : Nat} {T T2 : List Value} (g : Gro base wm wr (R a) G m T) (gr : wr.grownBy w2 G.ownBlock)
    (own : w2.ownsRow base (R a).t (R a).k v2 m2 ((R a).xs ++ T2)) (loc : v2.ownBlock = G.ownBlock ∨ (v2.ownBlock = some wr.heap.size ∧ wr.grownBy w2 none)) : Grw base wm w2 V R D ∧ Gro base wm w2 (R a) v2 m2 T2 := by
  have X : ∀ b, V b → b ≠ a → ∀ q, (R b).v.ownBlock = some q → some q ≠ G.ownBlock := fun b hb hba q hq e => by
    rcases g.far with f | ⟨k, f, f'⟩
    · exact F.dis b a hb ha hba q hq (by rw [← f, ← e])
    · rw [f] at e
      injection e with e
      have := (row_lt (F.own b hb) q hq).1
      omega
  have zq : ∀ b, V b → ∀ q, (R b).v.ownBlock = some q → q < wr.heap.size := fun b hb q hq => by have := (row_lt (F.own b hb) q hq).1; have := h.sz; omega
  refine ⟨⟨fun b hb q hq k u hu => ?_, fun b hb hn => ?_, Nat.le_trans h.sz gr.size, Below.grown h.be gr (Nat.le_trans hbase h.sz) (fun k hk => (row_lt g.own k hk).2)⟩, ⟨own, ?_⟩⟩
  · by_cases e : b = a
    · subst e
      by_cases hG : G.ownBlock = some q
      · rcases loc with l | ⟨_, g2⟩
        · have := own.cells (l.trans hG) k u (by rw [List.getElem?_append_left (List.getElem?_eq_some_iff.1 hu).1]; exact hu)
          rw [Addr.add_mid, Nat.zero_add] at this
          exact this
        · exact (World.cell?_of_block (a := ⟨q, k, none⟩) (g2.block q (zq b hb q hq) (by simp))).trans (h.rd b hb q hq k u hu)
      · exact (World.cell?_of_block (a := ⟨q, k, none⟩) (gr.block q (zq b hb q hq) (Ne.symm hG))).trans (h.rd b hb q hq k u hu)
    · exact (World.cell?_of_block (a := ⟨q, k, none⟩) (gr.block q (zq b hb q hq) (X b hb e q hq))).trans (h.rd b hb q hq k u hu)
  · refine (gr.block b (by have := h.sz; omega) (fun e => ?_)).trans (h.un b hb hn)
    rcases g.far with f | ⟨k, f, f'⟩
    · exact hn a ha hd (by rw [← f, ← e])
    · rw [f] at e
      injection e with e
      omega
  · rcases loc with l | ⟨l, _⟩
    · rw [l]; exact g.far
    · exact .inr ⟨_, l, h.sz⟩
end
end Go.Proofs.Ytcihihncgpddfaa
namespace Go.Proofs.Ytcihihncgpddfaa
open Go.RowKit
set_option linter.unusedVariables false
set_option linter.unusedSimpArgs false

/-- a list of spoil's: the tree, which list (0 its nodes, 1 a node's kids, 2 its columns), the node -/
abbrev Ix := Nat × Nat × Nat
def tyX : Nat → TypeId
  | 0 => 64
  | 1 => 3
  | _ => 57
def szX : Nat → Nat
  | 0 => 34
  | 1 => 1
  | _ => 5
def RX (vv : Ix → Value) (nn : Ix → Nat) (XS : Ix → List Value) : Ix → Rw := fun a => ⟨tyX a.2.1, szX a.2.1, vv a, nn a, XS a⟩
def VX (nn : Ix → Nat) : Ix → Prop := fun a => a.1 < 2 ∧ ((a.2.1 = 0 ∧ a.2.2 = 0) ∨ ((a.2.1 = 1 ∨ a.2.1 = 2) ∧ a.2.2 < nn (a.1, 0, 0)))
theorem VX.nd {nn : Ix → Nat} {i : Nat} (h : i < 2) : VX nn (i, 0, 0) := ⟨h, .inl ⟨rfl, rfl⟩⟩
theorem VX.kd {nn : Ix → Nat} {i j : Nat} (h : i < 2) (hj : j < nn (i, 0, 0)) : VX nn (i, 1, j) := ⟨h, .inr ⟨.inl rfl, hj⟩⟩
theorem VX.cl {nn : Ix → Nat} {i j : Nat} (h : i < 2) (hj : j < nn (i, 0, 0)) : VX nn (i, 2, j) := ⟨h, .inr ⟨.inr rfl, hj⟩⟩
def updX (XS : Ix → List Value) (a : Ix) (L : List Value) : Ix → List Value := fun b => if b = a then L else XS b
theorem updX_same (XS : Ix → List Value) (a : Ix) (L : List Value) : updX XS a L a = L := if_pos rfl
theorem updX_other (XS : Ix → List Value) {a b : Ix} (L : List Value) (h : b ≠ a) : updX XS a L b = XS b := if_neg h
/-- the lists, and the nodes' headers that name them -/
structure Sp (base : Nat) (w : World) (vv : Ix → Value) (nn : Ix → Nat) (XS : Ix → List Value) : Prop where
  fam : Fam base w (VX nn) (RX vv nn XS)
  hk : ∀ i j, i < 2 → j < nn (i, 0, 0) → (XS (i, 0, 0))[j * 34 + 3]? = some (vv (i, 1, j))
  hc : ∀ i j, i < 2 → j < nn (i, 0, 0) → (XS (i, 0, 0))[j * 34 + 28]? = some (vv (i, 2, j))
  one : ∀ a, VX nn a → ∀ u ∈ XS a, u.oneCell' = true
abbrev kM (i j : Nat) : Value := .int .i64 (1000 * (i : Int) + (j : Int) + 100000)
abbrev cM (i j : Nat) : Value := .int .i64 (1000 * (i : Int) + (j : Int) + 200000)
abbrev gM (i j : Nat) : Value := .int .i64 (1000 * (i : Int) + (j : Int) + 300000)
def KMk (XS : Ix → List Value) (i j n : Nat) : Prop := ∀ k, k < n → (XS (i, 1, j))[k]? = some (kM i j)
def CMk (XS : Ix → List Value) (i j n : Nat) : Prop := ∀ k, k < n → (XS (i, 2, j))[k * 5 + 1]? = some (cM i j)
/-- node j of tree i has its marks -/
structure FullM (nn : Ix → Nat) (XS : Ix → List Value) (i j : Nat) : Prop where
  k : KMk XS i j (nn (i, 1, j))
  c : CMk XS i j (nn (i, 2, j))
  g : (XS (i, 0, 0))[j * 34 + 14]? = some (gM i j)
/-- all nodes ahead of node j of tree i have theirs -/
def DoneM (nn : Ix → Nat) (XS : Ix → List Value) (i j : Nat) : Prop := ∀ i' j', i' < 2 → j' < nn (i', 0, 0) → (i' < i ∨ (i' = i ∧ j' < j)) → FullM nn XS i' j'
section
variable {base : Nat} {w w' : World} {vv : Ix → Value} {nn : Ix → Nat} {XS : Ix → List Value}
theorem Sp.later (h : Sp base w vv nn XS) (hb : Below w.heap.size w w') : Sp base w' vv nn XS := ⟨h.fam.later hb, h.hk, h.hc, h.one⟩
theorem Sp.form (h : Sp base w vv nn XS) {a : Ix} (ha : VX nn a) : (vv a = .slice none 0 0 ∧ nn a = 0 ∧ XS a = []) ∨ ∃ g c, vv a = .slice (some ⟨g, 0, none⟩) (nn a) c ∧ nn a ≤ c ∧ c ≤ maxLen ∧ g < w.heap.size ∧ base ≤ g := row_form (h.fam.own a ha)
theorem Sp.len (h : Sp base w vv nn XS) {a : Ix} (ha : VX nn a) : (XS a).length = nn a * szX a.2.1 := (h.fam.own a ha).1
theorem Sp.cell (h : Sp base w vv nn XS) {a : Ix} (ha : VX nn a) {g : Nat} (hg : (vv a).ownBlock = some g) {k : Nat} {u : Value} (hu : (XS a)[k]? = some u) : w.cell? ⟨g, k, none⟩ = some u := by
  have := (h.fam.own a ha).cells hg k u hu
  rw [Addr.add_mid, Nat.zero_add] at this
  exact this
theorem Sp.frz (h : Sp base w vv nn XS) {a : Ix} (ha : VX nn a) {g c : Nat} (hv : vv a = .slice (some ⟨g, 0, none⟩) (nn a) c) (j : Nat) : w.frozen? ⟨g, j, none⟩ = false := by
  have h1 := h.fam.own a ha
  have h2 : w.ownsRow base (tyX a.2.1) (szX a.2.1) (vv a) (nn a) (XS a) := h1
  rw [hv] at h2
  exact h2.frozenAt j
/-- a cell is set, none of the headers -/
theorem Sp.set (h : Sp base w vv nn XS) {a : Ix} (ha : VX nn a) {g c : Nat} (hv : vv a = .slice (some ⟨g, 0, none⟩) (nn a) c) (q : Nat) (u : Value) (h1 : u.oneCell' = true) (hq : a.2.1 = 0 → ∀ j, q ≠ j * 34 + 3 ∧ q ≠ j * 34 + 28) : Sp base (w.setCell ⟨g, q, none⟩ u) vv nn (updX XS a ((XS a).set q u)) := by
  refine ⟨h.fam.set ha (R' := RX vv nn (updX XS a ((XS a).set q u))) hv q u ?_ fun b hb hne => ?_, fun i j hi hj => ?_, fun i j hi hj => ?_, fun b hb x hx => ?_⟩
  · unfold RX; rw [updX_same]
  · unfold RX; rw [updX_other _ _ hne]
  · by_cases e : ((i, 0, 0) : Ix) = a
    · subst e
      rw [updX_same, List.getElem?_set_ne (hq rfl j).1]
      exact h.hk i j hi hj
    · rw [updX_other _ _ e]; exact h.hk i j hi hj
  · by_cases e : ((i, 0, 0) : Ix) = a
    · subst e
      rw [updX_same, List.getElem?_set_ne (hq rfl j).2]
      exact h.hc i j hi hj
    · rw [updX_other _ _ e]; exact h.hc i j hi hj
  · by_cases e : b = a
    · subst e
      rw [updX_same] at hx
      rcases List.mem_or_eq_of_mem_set hx with hx | rfl
      · exact h.one b hb x hx
      · exact h1
    · rw [updX_other _ _ e] at hx; exact h.one b hb x hx
theorem FullM.other {XS' : Ix → List Value} {i j : Nat} (h : FullM nn XS i j) (h1 : XS' (i, 1, j) = XS (i, 1, j)) (h2 : XS' (i, 2, j) = XS (i, 2, j)) (h3 : (XS' (i, 0, 0))[j * 34 + 14]? = (XS (i, 0, 0))[j * 34 + 14]?) : FullM nn XS' i j :=
  ⟨fun k hk => by rw [h1]; exact h.k k hk, fun k hk => by rw [h2]; exact h.c k hk, h3.trans h.g⟩
/-- kids of node j of tree i are set: those of the nodes ahead stay -/
theorem DoneM.list {i j c : Nat} {L : List Value} (h : DoneM nn XS i j) (hc : c = 1 ∨ c = 2) : DoneM nn (updX XS (i, c, j) L) i j := fun i' j' h1 h2 h3 => by
  have hn : ¬ (i' = i ∧ j' = j) := by omega
  have n1 : ((i', 1, j') : Ix) ≠ (i, c, j) := fun e => by simp only [Prod.mk.injEq] at e; exact hn ⟨e.1, e.2.2⟩
  have n2 : ((i', 2, j') : Ix) ≠ (i, c, j) := fun e => by simp only [Prod.mk.injEq] at e; exact hn ⟨e.1, e.2.2⟩
  have n3 : ((i', 0, 0) : Ix) ≠ (i, c, j) := fun e => by simp only [Prod.mk.injEq] at e; omega
  exact (h i' j' h1 h2 h3).other (updX_other _ _ n1) (updX_other _ _ n2) (by rw [updX_other _ _ n3])
theorem KMk.step {i j k : Nat} (h : KMk XS i j k) (hk : k < (XS (i, 1, j)).length) : KMk (updX XS (i, 1, j) ((XS (i, 1, j)).set k (kM i j))) i j (k + 1) := fun t ht => by
  rw [updX_same]
  by_cases e : t = k
  · subst e; rw [List.getElem?_set_self hk]
  · rw [List.getElem?_set_ne (Ne.symm e)]; exact h t (by omega)
/-- the item of spoil's marks -/
def setIt (L : List Value) (k : Nat) (m : Value) : List Value := ((((L.set (k * 5) (.int .i8 0)).set (k * 5 + 1) m).set (k * 5 + 2) (.int .i64 0)).set (k * 5 + 3) (.int .i64 0)).set (k * 5 + 4) (.int .i64 0)
theorem setIt_len (L : List Value) (k : Nat) (m : Value) : (setIt L k m).length = L.length := by simp [setIt]
theorem setIt_same {L : List Value} {k : Nat} {m : Value} (h : k * 5 + 1 < L.length) : (setIt L k m)[k * 5 + 1]? = some m := by
  unfold setIt
  rw [List.getElem?_set_ne (by omega), List.getElem?_set_ne (by omega), List.getElem?_set_ne (by omega), List.getElem?_set_self (by simpa using h)]
theorem setIt_other {L : List Value} {k t : Nat} {m : Value} (h : t ≠ k) : (setIt L k m)[t * 5 + 1]? = L[t * 5 + 1]? := by
  unfold setIt
  rw [List.getElem?_set_ne (by omega), List.getElem?_set_ne (by omega), List.getElem?_set_ne (by omega), List.getElem?_set_ne (by omega), List.getElem?_set_ne (by omega)]
theorem CMk.step {i j k : Nat} (h : CMk XS i j k) (hk : k * 5 + 1 < (XS (i, 2, j)).length) : CMk (updX XS (i, 2, j) (setIt (XS (i, 2, j)) k (cM i j))) i j (k + 1) := fun t ht => by
  rw [updX_same]
  by_cases e : t = k
  · subst e; exact setIt_same hk
  · rw [setIt_other e]; exact h t (by omega)
theorem KMk.other {i j n : Nat} {a : Ix} {L : List Value} (h : KMk XS i j n) (ha : a ≠ (i, 1, j)) : KMk (updX XS a L) i j n := fun k hk => by rw [updX_other _ _ (Ne.symm ha)]; exact h k hk
theorem CMk.other {i j n : Nat} {a : Ix} {L : List Value} (h : CMk XS i j n) (ha : a ≠ (i, 2, j)) : CMk (updX XS a L) i j n := fun k hk => by rw [updX_other _ _ (Ne.symm ha)]; exact h k hk
theorem updX_updX (a : Ix) (L M : List Value) : updX (updX XS a L) a M = updX XS a M := by
  funext b
  by_cases e : b = a
  · subst e; rw [updX_same, updX_same]
  · rw [updX_other _ _ e, updX_other _ _ e, updX_other _ _ e]
/-- an item is stored -/
theorem Sp.setIt (h : Sp base w vv nn XS) {i j : Nat} (hi : i < 2) (hj : j < nn (i, 0, 0)) {g c : Nat} (hv : vv (i, 2, j) = .slice (some ⟨g, 0, none⟩) (nn (i, 2, j)) c) (k : Nat) (m : Value) (hm : m.oneCell' = true) :
    Sp base (((((w.setCell ⟨g, k * 5, none⟩ (.int .i8 0)).setCell ⟨g, k * 5 + 1, none⟩ m).setCell ⟨g, k * 5 + 2, none⟩ (.int .i64 0)).setCell ⟨g, k * 5 + 3, none⟩ (.int .i64 0)).setCell ⟨g, k * 5 + 4, none⟩ (.int .i64 0)) vv nn (updX XS (i, 2, j) (setIt (XS (i, 2, j)) k m)) := by
  have ha : VX nn (i, 2, j) := VX.cl hi hj
  have hq : (((i, 2, j) : Ix).2.1 = 0) → ∀ (q j : Nat), q ≠ j * 34 + 3 ∧ q ≠ j * 34 + 28 := fun e => by cases e
  have h1 := h.set ha hv (k * 5) (.int .i8 0) rfl (fun e => hq e _)
  have h2 := h1.set ha hv (k * 5 + 1) m hm (fun e => hq e _)
  have h3 := h2.set ha hv (k * 5 + 2) (.int .i64 0) rfl (fun e => hq e _)
  have h4 := h3.set ha hv (k * 5 + 3) (.int .i64 0) rfl (fun e => hq e _)
  have h5 := h4.set ha hv (k * 5 + 4) (.int .i64 0) rfl (fun e => hq e _)
  simp only [updX_same, updX_updX] at h5
  exact h5
/-- the gap of node j of tree i is set: it has all its marks -/
theorem DoneM.gap {i j : Nat} (h : DoneM nn XS i j) (hk : KMk XS i j (nn (i, 1, j))) (hc : CMk XS i j (nn (i, 2, j))) (hl : j * 34 + 14 < (XS (i, 0, 0)).length) : DoneM nn (updX XS (i, 0, 0) ((XS (i, 0, 0)).set (j * 34 + 14) (gM i j))) i (j + 1) := fun i' j' h1 h2 h3 => by
  by_cases e : i' = i ∧ j' = j
  · obtain ⟨rfl, rfl⟩ := e
    exact ⟨hk.other (by simp), hc.other (by simp), by rw [updX_same, List.getElem?_set_self hl]⟩
  · refine (h i' j' h1 h2 (by omega)).other (updX_other _ _ (by simp)) (updX_other _ _ (by simp)) ?_
    by_cases e2 : i' = i
    · subst e2
      rw [updX_same, List.getElem?_set_ne (by have : j' ≠ j := fun e3 => e ⟨rfl, e3⟩; omega)]
    · rw [updX_other _ _ (by simp [e2])]
theorem DoneM.next {i : Nat} (h : DoneM nn XS i (nn (i, 0, 0))) : DoneM nn XS (i + 1) 0 := fun i' j' h1 h2 h3 => h i' j' h1 h2 (by
  rcases h3 with h3 | h3
  · by_cases e : i' = i
    · subst e; right; exact ⟨rfl, h2⟩
    · left; omega
  · omega)
theorem DoneM.zero : DoneM nn XS 0 0 := fun i' j' h1 h2 h3 => by omega
end
/-- the first loops of spoil, ahead of node j of tree i -/
structure Ph1 (base b : Nat) (w : World) (vv : Ix → Value) (nn : Ix → Nat) (XS : Ix → List Value) (i j : Nat) (wr : World) : Prop where
  sp : Sp base wr vv nn XS
  dn : DoneM nn XS i j
  ct : ∀ i, i < 2 → wr.cell? ⟨b, i, none⟩ = some (vv (i, 0, 0))
  bz : b < wr.heap.size
  be : Below base w wr
  bs : base ≤ wr.heap.size
/-- within node j of tree i, whose copy lies at cb -/
structure PhK (base b : Nat) (w : World) (cb : Nat) (vv : Ix → Value) (nn : Ix → Nat) (XS : Ix → List Value) (i j kn cn : Nat) (wr : World) : Prop where
  ph : Ph1 base b w vv nn XS i j wr
  km : KMk XS i j kn
  cm : CMk XS i j cn
  k3 : wr.cell? ⟨cb, 3, none⟩ = some (vv (i, 1, j))
  kc : wr.cell? ⟨cb, 28, none⟩ = some (vv (i, 2, j))
  zc : cb < wr.heap.size
  lt : ∀ a, VX nn a → ∀ g, (vv a).ownBlock = some g → g < cb
section
variable {base b cb i j kn cn : Nat} {w wr w' : World} {vv : Ix → Value} {nn : Ix → Nat} {XS : Ix → List Value}
theorem Sp.form2 (h : Sp base w vv nn XS) {a : Ix} (ha : VX nn a) : ∃ p c, vv a = .slice p (nn a) c ∧ nn a ≤ c ∧ (0 < nn a → ∃ g, p = some ⟨g, 0, none⟩ ∧ g < w.heap.size) := by
  rcases h.form ha with ⟨e, e2, _⟩ | ⟨g, c, e, h1, h2, h3, h4⟩
  · exact ⟨none, 0, by rw [e, e2], by omega, fun h => by omega⟩
  · exact ⟨_, c, e, h1, fun _ => ⟨g, rfl, h3⟩⟩
theorem Ph1.later (h : Ph1 base b w vv nn XS i j wr) (hb : Below wr.heap.size wr w') : Ph1 base b w vv nn XS i j w' :=
  ⟨h.sp.later hb, h.dn, fun i hi => (World.cell?_of_block (a := ⟨b, i, none⟩) (hb.block b h.bz)).trans (h.ct i hi), Nat.lt_of_lt_of_le h.bz hb.size, h.be.trans (hb.mono h.bs), Nat.le_trans h.bs hb.size⟩
theorem Ph1.next (h : Ph1 base b w vv nn XS i (nn (i, 0, 0)) wr) : Ph1 base b w vv nn XS (i + 1) 0 wr := ⟨h.sp, h.dn.next, h.ct, h.bz, h.be, h.bs⟩
/-- the node is copied into a new block -/
theorem Ph1.copy (h : Ph1 base b w vv nn XS i j wr) (hb : Below wr.heap.size wr w') (hz : wr.heap.size < w'.heap.size) (h3 : w'.cell? ⟨wr.heap.size, 3, none⟩ = some (vv (i, 1, j))) (hc : w'.cell? ⟨wr.heap.size, 28, none⟩ = some (vv (i, 2, j))) : PhK base b w wr.heap.size vv nn XS i j 0 0 w' :=
  ⟨h.later hb, fun k hk => by omega, fun k hk => by omega, h3, hc, hz, fun a ha g hg => (row_lt (h.sp.fam.own a ha) g hg).1⟩
theorem cell_set_far {w : World} {g q b k : Nat} {u v : Value} (h : w.cell? ⟨b, k, none⟩ = some v) (hne : b ≠ g) : (w.setCell ⟨g, q, none⟩ u).cell? ⟨b, k, none⟩ = some v :=
  (World.cell?_of_block (a := ⟨b, k, none⟩) (heap_setCell_other w ⟨g, q, none⟩ b u hne)).trans h
theorem PhK.setK (h : PhK base b w cb vv nn XS i j kn cn wr) (hi : i < 2) (hj : j < nn (i, 0, 0)) (ho : ∀ a, VX nn a → (vv a).ownBlock ≠ some b) {g c : Nat} (hv : vv (i, 1, j) = .slice (some ⟨g, 0, none⟩) (nn (i, 1, j)) c) (hk : kn < nn (i, 1, j)) :
    PhK base b w cb vv nn (updX XS (i, 1, j) ((XS (i, 1, j)).set kn (kM i j))) i j (kn + 1) cn (wr.setCell ⟨g, kn, none⟩ (kM i j)) := by
  have ha : VX nn (i, 1, j) := VX.kd hi hj
  have hg : (vv (i, 1, j)).ownBlock = some g := by rw [hv]; rfl
  have hgc := h.lt _ ha g hg
  have hgb : b ≠ g := fun e => ho _ ha (by rw [hg, e])
  have hlen : (XS (i, 1, j)).length = nn (i, 1, j) := by have := h.ph.sp.len ha; simpa [szX] using this
  refine ⟨⟨h.ph.sp.set ha hv kn (kM i j) rfl (fun e => by cases e), h.ph.dn.list (.inl rfl), fun i' hi' => cell_set_far (h.ph.ct i' hi') hgb, by have := h.ph.bz; simpa using this, h.ph.be.setCell (p := ⟨g, kn, none⟩) (row_lt (h.ph.sp.fam.own _ ha) g hg).2 _, by have := h.ph.bs; simpa using this⟩, h.km.step (by omega), h.cm.other (by simp), cell_set_far h.k3 (by omega), cell_set_far h.kc (by omega), by have := h.zc; simpa using this, h.lt⟩
theorem PhK.setC (h : PhK base b w cb vv nn XS i j kn cn wr) (hi : i < 2) (hj : j < nn (i, 0, 0)) (ho : ∀ a, VX nn a → (vv a).ownBlock ≠ some b) {g c : Nat} (hv : vv (i, 2, j) = .slice (some ⟨g, 0, none⟩) (nn (i, 2, j)) c) (hk : cn < nn (i, 2, j)) :
    PhK base b w cb vv nn (updX XS (i, 2, j) (setIt (XS (i, 2, j)) cn (cM i j))) i j kn (cn + 1) (((((wr.setCell ⟨g, cn * 5, none⟩ (.int .i8 0)).setCell ⟨g, cn * 5 + 1, none⟩ (cM i j)).setCell ⟨g, cn * 5 + 2, none⟩ (.int .i64 0)).setCell ⟨g, cn * 5 + 3, none⟩ (.int .i64 0)).setCell ⟨g, cn * 5 + 4, none⟩ (.int .i64 0)) := by
  have ha : VX nn (i, 2, j) := VX.cl hi hj
  have hg : (vv (i, 2, j)).ownBlock = some g := by rw [hv]; rfl
  have hgc := h.lt _ ha g hg
  have hgb : b ≠ g := fun e => ho _ ha (by rw [hg, e])
  have hlen : (XS (i, 2, j)).length = nn (i, 2, j) * 5 := h.ph.sp.len ha
  have hbg : base ≤ g := (row_lt (h.ph.sp.fam.own _ ha) g hg).2
  have five : ∀ {bb k : Nat} {v : Value}, wr.cell? ⟨bb, k, none⟩ = some v → bb ≠ g → (((((wr.setCell ⟨g, cn * 5, none⟩ (.int .i8 0)).setCell ⟨g, cn * 5 + 1, none⟩ (cM i j)).setCell ⟨g, cn * 5 + 2, none⟩ (.int .i64 0)).setCell ⟨g, cn * 5 + 3, none⟩ (.int .i64 0)).setCell ⟨g, cn * 5 + 4, none⟩ (.int .i64 0)).cell? ⟨bb, k, none⟩ = some v := fun hc hne => cell_set_far (cell_set_far (cell_set_far (cell_set_far (cell_set_far hc hne) hne) hne) hne) hne
  have be5 := ((((h.ph.be.setCell (p := ⟨g, cn * 5, none⟩) hbg (.int .i8 0)).setCell (p := ⟨g, cn * 5 + 1, none⟩) hbg (cM i j)).setCell (p := ⟨g, cn * 5 + 2, none⟩) hbg (.int .i64 0)).setCell (p := ⟨g, cn * 5 + 3, none⟩) hbg (.int .i64 0)).setCell (p := ⟨g, cn * 5 + 4, none⟩) hbg (.int .i64 0)
  refine ⟨⟨h.ph.sp.setIt hi hj hv cn (cM i j) rfl, h.ph.dn.list (.inr rfl), fun i' hi' => five (h.ph.ct i' hi') hgb, by have := h.ph.bz; simpa using this, be5, by have := h.ph.bs; simpa using this⟩, h.km.other (by simp), h.cm.step (by omega), five h.k3 (by omega), five h.kc (by omega), by have := h.zc; simpa using this, h.lt⟩
theorem PhK.gap (h : PhK base b w cb vv nn XS i j (nn (i, 1, j)) (nn (i, 2, j)) wr) (hi : i < 2) (hj : j < nn (i, 0, 0)) (ho : ∀ a, VX nn a → (vv a).ownBlock ≠ some b) {g c : Nat} (hv : vv (i, 0, 0) = .slice (some ⟨g, 0, none⟩) (nn (i, 0, 0)) c) :
    Ph1 base b w vv nn (updX XS (i, 0, 0) ((XS (i, 0, 0)).set (j * 34 + 14) (gM i j))) i (j + 1) (wr.setCell ⟨g, j * 34 + 14, none⟩ (gM i j)) := by
  have ha : VX nn (i, 0, 0) := VX.nd hi
  have hg : (vv (i, 0, 0)).ownBlock = some g := by rw [hv]; rfl
  have hgb : b ≠ g := fun e => ho _ ha (by rw [hg, e])
  have hlen : (XS (i, 0, 0)).length = nn (i, 0, 0) * 34 := h.ph.sp.len ha
  exact ⟨h.ph.sp.set ha hv (j * 34 + 14) (gM i j) rfl (fun _ t => by omega), h.ph.dn.gap h.km h.cm (by omega), fun i' hi' => cell_set_far (h.ph.ct i' hi') hgb, by have := h.ph.bz; simpa using this, h.ph.be.setCell (p := ⟨g, j * 34 + 14, none⟩) (row_lt (h.ph.sp.fam.own _ ha) g hg).2 _, by have := h.ph.bs; simpa using this⟩
end
/-- the lists that have been gone on with, ahead of node j of tree i -/
def D2 (i j : Nat) : Ix → Prop := fun a => a.1 < i ∨ (a.1 = i ∧ a.2.1 ≠ 0 ∧ a.2.2 < j)
structure St2 (base b : Nat) (wm : World) (vv : Ix → Value) (nn : Ix → Nat) (XS : Ix → List Value) : Prop where
  sp : Sp base wm vv nn XS
  ct : ∀ i, i < 2 → wm.cell? ⟨b, i, none⟩ = some (vv (i, 0, 0))
  bz : b < wm.heap.size
  ho : ∀ a, VX nn a → (vv a).ownBlock ≠ some b
  bs : base ≤ wm.heap.size
abbrev Gr2 (base : Nat) (wm wr : World) (vv : Ix → Value) (nn : Ix → Nat) (XS : Ix → List Value) (D : Ix → Prop) : Prop := Grw base wm wr (VX nn) (RX vv nn XS) D
abbrev Go2 (base : Nat) (wm wr : World) (vv : Ix → Value) (nn : Ix → Nat) (XS : Ix → List Value) (a : Ix) (G : Value) (q : Nat) : Prop := ∃ T, Gro base wm wr (RX vv nn XS a) G (nn a + q) T
/-- within node j of tree i: its kids and columns are being gone on with -/
structure In2 (base : Nat) (wm wr : World) (vv : Ix → Value) (nn : Ix → Nat) (XS : Ix → List Value) (i j qk qc : Nat) (G H : Value) : Prop where
  gr : Gr2 base wm wr vv nn XS (D2 i (j + 1))
  gk : Go2 base wm wr vv nn XS (i, 1, j) G qk
  gc : Go2 base wm wr vv nn XS (i, 2, j) H qc
/-- the nodes of tree i are being gone on with -/
structure In3 (base : Nat) (wm wr : World) (vv : Ix → Value) (nn : Ix → Nat) (XS : Ix → List Value) (i q : Nat) (G : Value) : Prop where
  gr : Gr2 base wm wr vv nn XS (D2 (i + 1) 0)
  gn : Go2 base wm wr vv nn XS (i, 0, 0) G q
section
variable {base b i j qk qc q : Nat} {wm wr w2 : World} {vv : Ix → Value} {nn : Ix → Nat} {XS : Ix → List Value} {D : Ix → Prop} {G H v2 : Value}
theorem Ph1.st {w : World} (h : Ph1 base b w vv nn XS i j wr) (ho : ∀ a, VX nn a → (vv a).ownBlock ≠ some b) : St2 base b wr vv nn XS := ⟨h.sp, h.ct, h.bz, ho, h.bs⟩
theorem St2.cell (S : St2 base b wm vv nn XS) (h : Gr2 base wm wr vv nn XS D) (hi : i < 2) : wr.cell? ⟨b, i, none⟩ = some (vv (i, 0, 0)) :=
  (World.cell?_of_block (a := ⟨b, i, none⟩) (h.un b S.bz fun a ha _ => S.ho a ha)).trans (S.ct i hi)
theorem St2.zero (S : St2 base b wm vv nn XS) : Gr2 base wm wm vv nn XS (D2 0 0) := Grw.refl S.sp.fam fun a h => by rcases h with h | h <;> omega
theorem St2.hd3 (S : St2 base b wm vv nn XS) (h : Gr2 base wm wr vv nn XS D) (hi : i < 2) (hj : j < nn (i, 0, 0)) {g c : Nat} (hv : vv (i, 0, 0) = .slice (some ⟨g, 0, none⟩) (nn (i, 0, 0)) c) : wr.cell? ⟨g, j * 34 + 3, none⟩ = some (vv (i, 1, j)) :=
  h.rd (i, 0, 0) (VX.nd hi) g (by show (vv (i, 0, 0)).ownBlock = _; rw [hv]; rfl) _ _ (S.sp.hk i j hi hj)
theorem St2.hd28 (S : St2 base b wm vv nn XS) (h : Gr2 base wm wr vv nn XS D) (hi : i < 2) (hj : j < nn (i, 0, 0)) {g c : Nat} (hv : vv (i, 0, 0) = .slice (some ⟨g, 0, none⟩) (nn (i, 0, 0)) c) : wr.cell? ⟨g, j * 34 + 28, none⟩ = some (vv (i, 2, j)) :=
  h.rd (i, 0, 0) (VX.nd hi) g (by show (vv (i, 0, 0)).ownBlock = _; rw [hv]; rfl) _ _ (S.sp.hc i j hi hj)
theorem St2.in2 (S : St2 base b wm vv nn XS) (h : Gr2 base wm wr vv nn XS (D2 i j)) (hi : i < 2) (hj : j < nn (i, 0, 0)) : In2 base wm wr vv nn XS i j 0 0 (vv (i, 1, j)) (vv (i, 2, j)) :=
  ⟨h.mono fun a _ ha => by rcases ha with ha | ha; exact .inl ha; exact .inr ⟨ha.1, ha.2.1, by omega⟩,
    ⟨[], Grw.start S.sp.fam h (VX.kd hi hj) (fun e => by rcases e with e | ⟨_, _, e⟩ <;> simp at e)⟩,
    ⟨[], Grw.start S.sp.fam h (VX.cl hi hj) (fun e => by rcases e with e | ⟨_, _, e⟩ <;> simp at e)⟩⟩
theorem St2.in3 (S : St2 base b wm vv nn XS) (h : Gr2 base wm wr vv nn XS (D2 i (nn (i, 0, 0)))) (hi : i < 2) : In3 base wm wr vv nn XS i 0 (vv (i, 0, 0)) :=
  ⟨h.mono fun a _ ha => by left; rcases ha with ha | ha <;> omega,
    ⟨[], Grw.start S.sp.fam h (VX.nd hi) (fun e => by rcases e with e | ⟨_, e, _⟩ <;> simp at e)⟩⟩
theorem In2.alloc (h : In2 base wm wr vv nn XS i j qk qc G H) (S : St2 base b wm vv nn XS) (o : Obj) : In2 base wm (wr.alloc o) vv nn XS i j qk qc G H := by
  have hb : Below wr.heap.size wr (wr.alloc o) := below_al (Below.refl _ _) o
  obtain ⟨T, g⟩ := h.gk
  obtain ⟨U, g'⟩ := h.gc
  exact ⟨Grw.later S.sp.fam h.gr hb S.bs, ⟨T, g.later hb⟩, ⟨U, g'.later hb⟩⟩
theorem In3.alloc (h : In3 base wm wr vv nn XS i q G) (S : St2 base b wm vv nn XS) (o : Obj) : In3 base wm (wr.alloc o) vv nn XS i q G := by
  have hb : Below wr.heap.size wr (wr.alloc o) := below_al (Below.refl _ _) o
  obtain ⟨T, g⟩ := h.gn
  exact ⟨Grw.later S.sp.fam h.gr hb S.bs, ⟨T, g.later hb⟩⟩
theorem In2.appK (h : In2 base wm wr vv nn XS i j qk qc G H) (S : St2 base b wm vv nn XS) (hi : i < 2) (hj : j < nn (i, 0, 0)) (gr : wr.grownBy w2 G.ownBlock) {T : List Value}
    (own : w2.ownsRow base 3 1 v2 (nn (i, 1, j) + qk + 1) (XS (i, 1, j) ++ T)) (loc : v2.ownBlock = G.ownBlock ∨ (v2.ownBlock = some wr.heap.size ∧ wr.grownBy w2 none)) : In2 base wm w2 vv nn XS i j (qk + 1) qc v2 H := by
  obtain ⟨T', g⟩ := h.gk
  obtain ⟨U, g'⟩ := h.gc
  obtain ⟨h1, h2⟩ := Grw.app S.sp.fam S.bs h.gr (VX.kd hi hj) (.inr ⟨rfl, (by show (1 : Nat) ≠ 0; decide), Nat.lt_succ_self j⟩) g gr (m2 := nn (i, 1, j) + (qk + 1)) (T2 := T) own loc
  exact ⟨h1, ⟨_, h2⟩, ⟨U, g'.kept gr (row_ne g'.own g.own (by show tyX 2 ≠ tyX 1; decide))⟩⟩
theorem In2.appC (h : In2 base wm wr vv nn XS i j qk qc G H) (S : St2 base b wm vv nn XS) (hi : i < 2) (hj : j < nn (i, 0, 0)) (gr : wr.grownBy w2 H.ownBlock) {T : List Value}
    (own : w2.ownsRow base 57 5 v2 (nn (i, 2, j) + qc + 1) (XS (i, 2, j) ++ T)) (loc : v2.ownBlock = H.ownBlock ∨ (v2.ownBlock = some wr.heap.size ∧ wr.grownBy w2 none)) : In2 base wm w2 vv nn XS i j qk (qc + 1) G v2 := by
  obtain ⟨T', g⟩ := h.gk
  obtain ⟨U, g'⟩ := h.gc
  obtain ⟨h1, h2⟩ := Grw.app S.sp.fam S.bs h.gr (VX.cl hi hj) (.inr ⟨rfl, (by show (2 : Nat) ≠ 0; decide), Nat.lt_succ_self j⟩) g' gr (m2 := nn (i, 2, j) + (qc + 1)) (T2 := T) own loc
  exact ⟨h1, ⟨T', g.kept gr (row_ne g.own g'.own (by show tyX 1 ≠ tyX 2; decide))⟩, ⟨_, h2⟩⟩
theorem In3.app (h : In3 base wm wr vv nn XS i q G) (S : St2 base b wm vv nn XS) (hi : i < 2) (gr : wr.grownBy w2 G.ownBlock) {T : List Value}
    (own : w2.ownsRow base 64 34 v2 (nn (i, 0, 0) + q + 1) (XS (i, 0, 0) ++ T)) (loc : v2.ownBlock = G.ownBlock ∨ (v2.ownBlock = some wr.heap.size ∧ wr.grownBy w2 none)) : In3 base wm w2 vv nn XS i (q + 1) v2 := by
  obtain ⟨T', g⟩ := h.gn
  obtain ⟨h1, h2⟩ := Grw.app S.sp.fam S.bs h.gr (VX.nd hi) (.inl (Nat.lt_succ_self i)) g gr (m2 := nn (i, 0, 0) + (q + 1)) (T2 := T) own loc
  exact ⟨h1, ⟨_, h2⟩⟩
theorem In2.ownK (h : In2 base wm wr vv nn XS i j qk qc G H) : ∃ T, wr.ownsRow base 3 1 G (nn (i, 1, j) + qk) (XS (i, 1, j) ++ T) := by obtain ⟨T, g⟩ := h.gk; exact ⟨T, g.own⟩
theorem In2.ownC (h : In2 base wm wr vv nn XS i j qk qc G H) : ∃ T, wr.ownsRow base 57 5 H (nn (i, 2, j) + qc) (XS (i, 2, j) ++ T) := by obtain ⟨T, g⟩ := h.gc; exact ⟨T, g.own⟩
theorem In3.ownN (h : In3 base wm wr vv nn XS i q G) : ∃ T, wr.ownsRow base 64 34 G (nn (i, 0, 0) + q) (XS (i, 0, 0) ++ T) := by obtain ⟨T, g⟩ := h.gn; exact ⟨T, g.own⟩
end
end Go.Proofs.Ytcihihncgpddfaa
namespace Go.Proofs.Ytcihihncgpddfaa
open Go.RowKit Go.Deep
set_option linter.unusedVariables false
set_option linter.unusedSimpArgs false

set_option maxRecDepth 100000 in
set_option maxHeartbeats 16000000 in
theorem spoil_some (base b : Nat) (vv : Ix → Value) (nn : Ix → Nat) (XS : Ix → List Value) (w : World) (hS : Sp base w vv nn XS) (hct : ∀ i, i < 2 → w.cell? ⟨b, i, none⟩ = some (vv (i, 0, 0))) (hb : b < w.heap.size) (ho : ∀ a, VX nn a → (vv a).ownBlock ≠ some b) (hn : ∀ a, VX nn a → nn a ≤ 4294967296) (hbase : base ≤ w.heap.size) :
    Calls Try.prog 24 #[.slice (some ⟨b, 0, none⟩) 2 2] w fun e w' => e = .returned (.bool true) ∧ Below base w w' := by
  have HO := Lib.hid ho
  have HN := Lib.hid hn
  have HP := Lib.hid (show Ph1 base b w vv nn XS 0 0 w from ⟨hS, DoneM.zero, hct, hb, Below.refl _ _, hbase⟩)
  obtain ⟨P, hP⟩ : ∃ P : Ending → World → Prop, P = fun e w' => e = .returned (.bool true) ∧ Below base w w' := ⟨_, rfl⟩
  have HQ := Lib.hid (fun w' (h : Below base w w') => show P (.returned (.bool true)) w' from by rw [hP]; exact ⟨rfl, h⟩)
  rw [← hP]
  clear hS hct hb ho hn hP
  go_enter Try.func24, Try.ntmps24
  go_wp2
  go_loopw [3] (fun iv wr => ∃ (i : Nat) (XS : Ix → List Value), iv = .int .i64 i ∧ i ≤ 2 ∧ RowKit.Hid (Ph1 base b w vv nn XS i 0 wr)) (fun iv _ => 2 - (intOf iv).toNat)
  case atStart => exact ⟨0, XS, rfl, by omega, HP⟩
  case round =>
    clear HP
    obtain ⟨i, XS, rfl, hi, HP⟩ := hrel
    by_cases hi2 : i < 2
    · have hii : (i : Int) < 2 := by omega
      obtain ⟨wo, hwo⟩ : ∃ x, x = wr := ⟨_, rfl⟩
      rw [← hwo] at HP ⊢
      clear hwo
      go_wp2
      go_loopw [4] (fun jv wr => ∃ (j : Nat) (XS : Ix → List Value), jv = .int .i64 j ∧ j ≤ nn (i, 0, 0) ∧ RowKit.Hid (Ph1 base b w vv nn XS i j wr)) (fun iv _ => nn (i, 0, 0) - (intOf iv).toNat)
      case atStart => exact ⟨0, XS, rfl, by omega, HP⟩
      case round =>
        clear HP
        obtain ⟨j, XS, rfl, hj, HP⟩ := hrel
        have hct := HP.out.ct i hi2
        have hbz := HP.out.bz
        obtain ⟨pv, cv, hv, hcv, hpv⟩ := HP.out.sp.form2 (VX.nd hi2)
        have hnb := HN.out _ (VX.nd hi2)
        rw [hv] at hct
        by_cases hjn : j < nn (i, 0, 0)
        · have hjj : (j : Int) < (nn (i, 0, 0) : Int) := by omega
          obtain ⟨g, rfl, hgz⟩ := hpv (by omega)
          obtain ⟨ns, hns⟩ : ∃ q, q = ((XS (i, 0, 0)).drop (j * 34)).take 34 := ⟨_, rfl⟩
          have hlx : (XS (i, 0, 0)).length = nn (i, 0, 0) * 34 := HP.out.sp.len (VX.nd hi2)
          have hln : ns.length = 34 := by rw [hns, List.length_take, List.length_drop, hlx]; omega
          have hget : ∀ t, t < 34 → ns[t]? = (XS (i, 0, 0))[j * 34 + t]? := fun t ht => by rw [hns, List.getElem?_take_of_lt ht, List.getElem?_drop]
          have LEN := Lib.hid hln
          have RNG := Lib.hid (show wr.rangeAt g (j * 34) ns from fun t u hu => HP.out.sp.cell (VX.nd hi2) (by rw [hv]; rfl) (by rw [← hget t (by have := (List.getElem?_eq_some_iff.1 hu).1; omega)]; exact hu))
          have ONE := Lib.hid (show ∀ u ∈ ns, u.oneCell' = true from fun u hu => HP.out.sp.one _ (VX.nd hi2) u (by rw [hns] at hu; exact List.mem_of_mem_drop (List.mem_of_mem_take hu)))
          have G3 := Lib.hid (show ns[3]? = some (vv (i, 1, j)) by rw [hget 3 (by omega)]; exact HP.out.sp.hk i j hi2 hjn)
          have GC := Lib.hid (show ns[28]? = some (vv (i, 2, j)) by rw [hget 28 (by omega)]; exact HP.out.sp.hc i j hi2 hjn)
          clear hns hlx hln hget
          have hz34 : nodeZ.size = 34 := rfl
          go_wp2_with (first | ((with_reducible refine wpList_load_node ?g1 (.tmp 42) ?g2 g (j * 34) ?g3 ns LEN.out RNG.out ?_); (case g1 => rfl); (case g2 => rfl); (case g3 => rfl)) | ((with_reducible refine wpList_store_nodeB ?g1 (.tmp 5) (.tmp 43) ?g2 _ _ ns ?g3 ?g4 ?g5 LEN.out ONE.out ?_); (case g1 => rfl); (case g2 => rfl); (case g3 => rfl); (case g4 => rfl); (case g5 => rfl)))
          intro wc HWC
          have PK := Lib.hid (show PhK base b w wr.heap.size vv nn XS i j 0 0 wc from by rw [HWC.out]; exact HP.out.copy (below_al (Below.refl _ _) _) (by simp) (blk_cell (heap_alloc_new _ _) G3.out) (blk_cell (heap_alloc_new _ _) GC.out))
          obtain ⟨cb, hcb⟩ : ∃ q, q = wr.heap.size := ⟨_, rfl⟩
          rw [← hcb] at PK
          simp only [← hcb]
          clear hcb HWC G3 GC LEN RNG ONE HP hgz hct hbz hpv
          go_wp2
          go_loopw [6] (fun kv wr => ∃ (k : Nat) (XS : Ix → List Value), kv = .int .i64 k ∧ k ≤ nn (i, 1, j) ∧ RowKit.Hid (PhK base b w cb vv nn XS i j k 0 wr)) (fun iv _ => nn (i, 1, j) - (intOf iv).toNat)
          case atStart => exact ⟨0, XS, rfl, by omega, PK⟩
          case round =>
            clear PK
            obtain ⟨k, XS, rfl, hk, PK⟩ := hrel
            have k3 := PK.out.k3
            have zc := PK.out.zc
            obtain ⟨pk, ck, hvk, hck, hpk⟩ := PK.out.ph.sp.form2 (VX.kd hi2 hjn)
            have hnk := HN.out _ (VX.kd hi2 hjn)
            rw [hvk] at k3
            by_cases hkn : k < nn (i, 1, j)
            · have hkk : (k : Int) < (nn (i, 1, j) : Int) := by omega
              obtain ⟨gk, rfl, hgz⟩ := hpk (by omega)
              have PK2 := Lib.hid (PK.out.setK hi2 hjn HO.out hvk hkn)
              have hlx : (XS (i, 1, j)).length = nn (i, 1, j) := by have := PK.out.ph.sp.len (VX.kd hi2 hjn); simpa [szX] using this
              obtain ⟨u0, hu0⟩ : ∃ u, (XS (i, 1, j))[k]? = some u := ⟨_, List.getElem?_eq_getElem (by omega)⟩
              have hgc := PK.out.ph.sp.cell (VX.kd hi2 hjn) (by rw [hvk]; rfl) hu0
              have hfz := PK.out.ph.sp.frz (VX.kd hi2 hjn) hvk k
              clear hu0 hlx PK
              go_wp2
              go_roundw
              case rel => exact ⟨k + 1, _, by go_num, by omega, PK2⟩
              case measure => simp [intOf]; omega
            · have hkk : ¬ (k : Int) < (nn (i, 1, j) : Int) := by omega
              obtain rfl : k = nn (i, 1, j) := by omega
              clear hpk
              obtain ⟨wp, hwp⟩ : ∃ x, x = wr := ⟨_, rfl⟩
              rw [← hwp] at PK zc k3 ⊢
              clear hwp
              go_wp2
              go_loopw [7] (fun kv wr => ∃ (k : Nat) (XS : Ix → List Value), kv = .int .i64 k ∧ k ≤ nn (i, 2, j) ∧ RowKit.Hid (PhK base b w cb vv nn XS i j (nn (i, 1, j)) k wr)) (fun iv _ => nn (i, 2, j) - (intOf iv).toNat)
              case atStart => exact ⟨0, XS, rfl, by omega, PK⟩
              case round =>
                clear PK hnk hkk hvk hck zc k3
                obtain ⟨k, XS, rfl, hk, PK⟩ := hrel
                have k3 := PK.out.kc
                have zc := PK.out.zc
                obtain ⟨pk, ck, hvk, hck, hpk⟩ := PK.out.ph.sp.form2 (VX.cl hi2 hjn)
                have hnk := HN.out _ (VX.cl hi2 hjn)
                rw [hvk] at k3
                by_cases hkn : k < nn (i, 2, j)
                · have hkk : (k : Int) < (nn (i, 2, j) : Int) := by omega
                  obtain ⟨gk, rfl, hgz⟩ := hpk (by omega)
                  have PK2 := Lib.hid (PK.out.setC hi2 hjn HO.out hvk hkn)
                  have hlx : (XS (i, 2, j)).length = nn (i, 2, j) * 5 := PK.out.ph.sp.len (VX.cl hi2 hjn)
                  have five : ∀ q, q < 5 → ∃ u, wr.cell? ⟨gk, k * 5 + q, none⟩ = some u := fun q hq => ⟨_, PK.out.ph.sp.cell (VX.cl hi2 hjn) (by rw [hvk]; rfl) (List.getElem?_eq_getElem (by omega))⟩
                  obtain ⟨u0, c0⟩ := five 0 (by omega)
                  obtain ⟨u1, c1⟩ := five 1 (by omega)
                  obtain ⟨u2, c2⟩ := five 2 (by omega)
                  obtain ⟨u3, c3⟩ := five 3 (by omega)
                  obtain ⟨u4, c4⟩ := five 4 (by omega)
                  rw [Nat.add_zero] at c0
                  have f0 := PK.out.ph.sp.frz (VX.cl hi2 hjn) hvk (k * 5)
                  have f1 := PK.out.ph.sp.frz (VX.cl hi2 hjn) hvk (k * 5 + 1)
                  have f2 := PK.out.ph.sp.frz (VX.cl hi2 hjn) hvk (k * 5 + 2)
                  have f3 := PK.out.ph.sp.frz (VX.cl hi2 hjn) hvk (k * 5 + 3)
                  have f4 := PK.out.ph.sp.frz (VX.cl hi2 hjn) hvk (k * 5 + 4)
                  clear hlx five PK hpk
                  go_wp2
                  go_roundw
                  case rel => exact ⟨k + 1, _, by go_num, by omega, PK2⟩
                  case measure => simp [intOf]; omega
                · have hkk : ¬ (k : Int) < (nn (i, 2, j) : Int) := by omega
                  obtain rfl : k = nn (i, 2, j) := by omega
                  have PG := Lib.hid (PK.out.gap hi2 hjn HO.out hv)
                  have hct := PK.out.ph.ct i hi2
                  rw [hv] at hct
                  have hbz := PK.out.ph.bz
                  have hfz := PK.out.ph.sp.frz (VX.nd hi2) hv (j * 34 + 14)
                  have hlx : (XS (i, 0, 0)).length = nn (i, 0, 0) * 34 := PK.out.ph.sp.len (VX.nd hi2)
                  obtain ⟨u0, hu0⟩ : ∃ u, (XS (i, 0, 0))[j * 34 + 14]? = some u := ⟨_, List.getElem?_eq_getElem (by omega)⟩
                  have hgc := PK.out.ph.sp.cell (VX.nd hi2) (by rw [hv]; rfl) hu0
                  have hgz : g < wr.heap.size := (row_lt (PK.out.ph.sp.fam.own (i, 0, 0) (VX.nd hi2)) g (show (vv (i, 0, 0)).ownBlock = some g by rw [hv]; rfl)).1
                  clear hpk hu0 hlx PK
                  go_wp2
                  go_roundw
                  case rel => exact ⟨j + 1, _, by go_num, by omega, PG⟩
                  case measure => simp [intOf]; omega
        · have hjj : ¬ (j : Int) < (nn (i, 0, 0) : Int) := by omega
          obtain rfl : j = nn (i, 0, 0) := by omega
          have HP2 := Lib.hid HP.out.next
          clear HP hpv
          go_wp2
          go_roundw
          case rel => exact ⟨i + 1, XS, by go_num, by omega, HP2⟩
          case measure => simp [intOf]; omega
    · have hii : ¬ (i : Int) < 2 := by omega
      have HP := Lib.hid (show Ph1 base b w vv nn XS 2 0 wr from (show i = 2 by omega) ▸ HP.out)
      have ST := Lib.hid (HP.out.st HO.out)
      have HBE := Lib.hid HP.out.be
      obtain ⟨wm, hwm⟩ : ∃ x, x = wr := ⟨_, rfl⟩
      rw [← hwm] at HP ST HBE ⊢
      clear hwm
      have HG := Lib.hid ST.out.zero
      have HDN := Lib.hid HP.out.dn
      clear HP
      obtain ⟨i0, hi0, hz0, hz1, hz2⟩ := info_parts infoInt_
      obtain ⟨j0, hj0, hy0, hy1, hy2⟩ := info_parts infoItm_
      obtain ⟨n0, hn0, hx0, hx1, hx2⟩ := info_parts infoNode_
      have HI := Lib.hid (And.intro hi0 (And.intro hz0 (And.intro hz1 hz2)))
      have HJ := Lib.hid (And.intro hj0 (And.intro hy0 (And.intro hy1 hy2)))
      have HNI := Lib.hid (And.intro hn0 (And.intro hx0 (And.intro hx1 hx2)))
      have hbm := ST.out.bs
      clear hi0 hz0 hz1 hz2 hj0 hy0 hy1 hy2 hn0 hx0 hx1 hx2 hi hi2
      go_wp2
      clear hii
      go_loopw [8] (fun iv wr => ∃ (i : Nat), iv = .int .i64 i ∧ i ≤ 2 ∧ RowKit.Hid (Gr2 base wm wr vv nn XS (D2 i 0))) (fun iv _ => 2 - (intOf iv).toNat)
      case atStart => exact ⟨0, rfl, by omega, HG⟩
      case round =>
        clear HG
        obtain ⟨i, rfl, hi, HG⟩ := hrel
        by_cases hi2 : i < 2
        · have hii : (i : Int) < 2 := by omega
          obtain ⟨wo, hwo⟩ : ∃ x, x = wr := ⟨_, rfl⟩
          rw [← hwo] at HG ⊢
          clear hwo
          obtain ⟨pv, cv, hv, hcv, hpv⟩ := ST.out.sp.form2 (VX.nd hi2)
          have hnb := HN.out _ (VX.nd hi2)
          go_wp2
          go_loopw [9] (fun jv wr => ∃ (j : Nat), jv = .int .i64 j ∧ j ≤ nn (i, 0, 0) ∧ RowKit.Hid (Gr2 base wm wr vv nn XS (D2 i j))) (fun iv _ => nn (i, 0, 0) - (intOf iv).toNat)
          case atStart => exact ⟨0, rfl, by omega, HG⟩
          case round =>
            clear HG
            obtain ⟨j, rfl, hj, HG⟩ := hrel
            have hct := ST.out.cell HG.out hi2
            have hbz : b < wr.heap.size := by have := ST.out.bz; have := HG.out.sz; omega
            rw [hv] at hct
            by_cases hjn : j < nn (i, 0, 0)
            · have hjj : (j : Int) < (nn (i, 0, 0) : Int) := by omega
              obtain ⟨g, rfl, hgz0⟩ := hpv (by omega)
              have hgz : g < wr.heap.size := by have := HG.out.sz; omega
              have h3 := ST.out.hd3 HG.out hi2 hjn hv
              have hc := ST.out.hd28 HG.out hi2 hjn hv
              obtain ⟨pk, ck, hvk, _, _⟩ := ST.out.sp.form2 (VX.kd hi2 hjn)
              obtain ⟨pc, cc, hvc, _, _⟩ := ST.out.sp.form2 (VX.cl hi2 hjn)
              have hnk := HN.out _ (VX.kd hi2 hjn)
              have hnc := HN.out _ (VX.cl hi2 hjn)
              have IN := Lib.hid (ST.out.in2 HG.out hi2 hjn)
              rw [hvk, hvc] at IN
              rw [hvk] at h3
              rw [hvc] at hc
              clear HG
              go_wp2
              go_loopw [10, 11, 12] (fun G H qv wr => ∃ (q : Nat), qv = .int .i64 q ∧ q ≤ 9 ∧ RowKit.Hid (In2 base wm wr vv nn XS i j q q G H)) (fun _ _ qv _ => 9 - (intOf qv).toNat)
              case atStart => exact ⟨0, rfl, by omega, IN⟩
              case round =>
                clear IN h3 hc hct hbz hgz
                obtain ⟨q, rfl, hq, IN⟩ := hrel
                by_cases hq9 : q < 9
                · have hqq : (q : Int) < 9 := by omega
                  have hsz := IN.out.gr.sz
                  obtain ⟨T, OK⟩ := (IN.out.alloc ST.out (.cells #[.int .i64 (-5)] 3)).ownK
                  go_wp2_with (at_builtin; go_must (refine append_keep rfl (.tmp 128) (.tmp 129) 45 rfl base 3 i0 (.int .i64 0) 1 8 Try.underlying45 HI.out.1 HI.out.2.1 HI.out.2.2.1 HI.out.2.2.2 rfl (by decide) _ _ _ rfl OK ⟨wr.heap.size, 0, none⟩ 1 1 [.int .i64 (-5)] rfl rfl ?c1 ?c2 ?c3 ?c4 ?c5 ?_))
                  case c1 => exact cell_one_newI _ _ _
                  case c2 => intro u hu; simp only [List.mem_singleton] at hu; subst hu; rfl
                  case c3 => unfold maxLen; omega
                  case c4 => omega
                  case c5 => simp; omega
                  intro v2 w2 own2 gr2 loc2
                  have IN1 := Lib.hid ((IN.out.alloc ST.out _).appK ST.out hi2 hjn gr2 own2 (loc2.imp id fun h => ⟨by rw [World.size_alloc]; exact h.1, h.2⟩))
                  clear own2 gr2 loc2 OK IN
                  have hsz2 := IN1.out.gr.sz
                  obtain ⟨U, OC⟩ := (IN1.out.alloc ST.out (.cells #[.int .i8 0, .int .i64 (-5), .int .i64 0, .int .i64 0, .int .i64 0] 57)).ownC
                  go_wp2_with (at_builtin; go_must (refine append_keep rfl (.tmp 131) (.tmp 133) 62 rfl base 57 j0 _ 5 40 Try.underlying62 HJ.out.1 HJ.out.2.1 HJ.out.2.2.1 HJ.out.2.2.2 rfl (by decide) _ _ _ rfl OC ⟨w2.heap.size, 0, none⟩ 1 1 [.int .i8 0, .int .i64 (-5), .int .i64 0, .int .i64 0, .int .i64 0] rfl rfl ?d1 ?d2 ?d3 ?d4 ?d5 ?_))
                  case d1 => exact World.news_of_block (cs := #[.int .i8 0, .int .i64 (-5), .int .i64 0, .int .i64 0, .int .i64 0]) (t := 57) (fr := (0, 0)) (heap_alloc_new _ _)
                  case d2 => intro u hu; simp only [List.mem_cons, List.not_mem_nil, or_false] at hu; rcases hu with rfl | rfl | rfl | rfl | rfl <;> rfl
                  case d3 => unfold maxLen; omega
                  case d4 => omega
                  case d5 => simp; omega
                  intro v3 w3 own3 gr3 loc3
                  have IN2 := Lib.hid ((IN1.out.alloc ST.out _).appC ST.out hi2 hjn gr3 own3 (loc3.imp id fun h => ⟨by rw [World.size_alloc]; exact h.1, h.2⟩))
                  clear own3 gr3 loc3 OC IN1
                  go_wp2
                  go_roundw
                  case rel => exact ⟨q + 1, by go_num, by omega, IN2⟩
                  case measure => simp [intOf]; omega
                · have hqq : ¬ (q : Int) < 9 := by omega
                  have HG := Lib.hid IN.out.gr
                  clear IN
                  go_wp2
                  go_roundw
                  case rel => exact ⟨j + 1, by go_num, by omega, HG⟩
                  case measure => simp [intOf]; omega
            · have hjj : ¬ (j : Int) < (nn (i, 0, 0) : Int) := by omega
              obtain rfl : j = nn (i, 0, 0) := by omega
              have IN := Lib.hid (ST.out.in3 HG.out hi2)
              rw [hv] at IN
              clear HG
              go_wp2
              go_loopw [13, 14] (fun G qv wr => ∃ (q : Nat), qv = .int .i64 q ∧ q ≤ 9 ∧ RowKit.Hid (In3 base wm wr vv nn XS i q G)) (fun _ qv _ => 9 - (intOf qv).toNat)
              case atStart => exact ⟨0, rfl, by omega, IN⟩
              case round =>
                clear IN hct hbz
                obtain ⟨q, rfl, hq, IN⟩ := hrel
                by_cases hq9 : q < 9
                · have hqq : (q : Int) < 9 := by omega
                  have hsz := IN.out.gr.sz
                  obtain ⟨NS, hNS⟩ : ∃ q, q = ndV { zNd with gap := -5 } (.slice none 0 0) (.slice none 0 0) := ⟨_, rfl⟩
                  have LEN := Lib.hid (show NS.length = 34 by rw [hNS]; rfl)
                  have ONE := Lib.hid (show ∀ u ∈ NS, u.oneCell' = true by rw [hNS]; exact ndV_ones _ _ _ _ _ _ _)
                  have L1 := Lib.hid (show ∀ a ∈ [NS], a.length = 34 from fun a ha => by rw [List.mem_singleton] at ha; rw [ha]; exact LEN.out)
                  obtain ⟨T, ON⟩ := (IN.out.alloc ST.out (.cells ([NS].flatten.toArray) 64)).ownN
                  have NEW := Lib.hid (World.news_of_block (cs := [NS].flatten.toArray) (t := 64) (fr := (0, 0)) (heap_alloc_new wr _))
                  go_wp2_with (first
                    | ((with_reducible refine wpList_buildSlice_all _ ?b1 22 64 1 #[(0, .tmp 145)] ?b2 n0 _ 34 Try.underlying22 HNI.out.1 HNI.out.2.1 HNI.out.2.2.1 ?b6 [NS] ?b7 ?b3 ?b4 ?b5 ?_); (case b1 => rfl); (case b2 => rfl); (case b6 => decide); (case b7 => rfl); (case b3 => (rw [hNS]; rfl)); (case b4 => exact L1.out); (case b5 => (show 1 * 34 ≤ 16777216; decide)))
                    | (at_builtin; go_must (refine append_keep rfl (.tmp 144) (.tmp 146) 22 rfl base 64 n0 _ 34 288 Try.underlying22 HNI.out.1 HNI.out.2.1 HNI.out.2.2.1 HNI.out.2.2.2 rfl (by decide) _ _ _ rfl ON ⟨wr.heap.size, 0, none⟩ 1 1 NS rfl ?e0 ?e1 ONE.out ?e3 ?e4 ?e5 ?_)))
                  case e0 => rfl
                  try case e1 => simpa using NEW.out
                  case e3 => unfold maxLen; omega
                  case e4 => omega
                  case e5 => first | omega | (simp; omega)
                  intro v2 w2 own2 gr2 loc2
                  have IN2 := Lib.hid ((IN.out.alloc ST.out _).app ST.out hi2 gr2 own2 (loc2.imp id fun h => ⟨by rw [World.size_alloc]; first | exact h.1 | simpa using h.1, h.2⟩))
                  clear own2 gr2 loc2 ON IN NEW ONE L1 LEN
                  go_wp2
                  go_roundw
                  case rel => exact ⟨q + 1, by go_num, by omega, IN2⟩
                  case measure => simp [intOf]; omega
                · have hqq : ¬ (q : Int) < 9 := by omega
                  have HG := Lib.hid IN.out.gr
                  clear IN
                  go_wp2
                  go_roundw
                  case rel => exact ⟨i + 1, by go_num, by omega, HG⟩
                  case measure => simp [intOf]; omega
        · have hii : ¬ (i : Int) < 2 := by omega
          have HG := Lib.hid (show Gr2 base wm wr vv nn XS (D2 2 0) from (show i = 2 by omega) ▸ HG.out)
          clear hi
          go_wp2
          clear hii
          go_loopw [15] (fun iv wr => ∃ (i : Nat), iv = .int .i64 i ∧ i ≤ 2 ∧ RowKit.Hid (Gr2 base wm wr vv nn XS (D2 2 0))) (fun iv _ => 2 - (intOf iv).toNat)
          case atStart => exact ⟨0, rfl, by omega, HG⟩
          case round =>
            clear HG hi2
            obtain ⟨i, rfl, hi, HG⟩ := hrel
            by_cases hi2 : i < 2
            · have hii : (i : Int) < 2 := by omega
              obtain ⟨wo, hwo⟩ : ∃ x, x = wr := ⟨_, rfl⟩
              rw [← hwo] at HG ⊢
              clear hwo
              obtain ⟨pv, cv, hv, hcv, hpv⟩ := ST.out.sp.form2 (VX.nd hi2)
              have hnb := HN.out _ (VX.nd hi2)
              go_wp2
              go_loopw [16] (fun jv wr => ∃ (j : Nat), jv = .int .i64 j ∧ j ≤ nn (i, 0, 0) ∧ RowKit.Hid (Gr2 base wm wr vv nn XS (D2 2 0))) (fun iv _ => nn (i, 0, 0) - (intOf iv).toNat)
              case atStart => exact ⟨0, rfl, by omega, HG⟩
              case round =>
                clear HG
                obtain ⟨j, rfl, hj, HG⟩ := hrel
                have hct := ST.out.cell HG.out hi2
                have hbz : b < wr.heap.size := by have := ST.out.bz; have := HG.out.sz; omega
                rw [hv] at hct
                by_cases hjn : j < nn (i, 0, 0)
                · have hjj : (j : Int) < (nn (i, 0, 0) : Int) := by omega
                  obtain ⟨g, rfl, hgz0⟩ := hpv (by omega)
                  have FM := Lib.hid (HDN.out i j hi2 hjn (by omega))
                  obtain ⟨ns, hns⟩ : ∃ q, q = ((XS (i, 0, 0)).drop (j * 34)).take 34 := ⟨_, rfl⟩
                  have hlx : (XS (i, 0, 0)).length = nn (i, 0, 0) * 34 := ST.out.sp.len (VX.nd hi2)
                  have hln : ns.length = 34 := by rw [hns, List.length_take, List.length_drop, hlx]; omega
                  have hget : ∀ t, t < 34 → ns[t]? = (XS (i, 0, 0))[j * 34 + t]? := fun t ht => by rw [hns, List.getElem?_take_of_lt ht, List.getElem?_drop]
                  have LEN := Lib.hid hln
                  have RNG := Lib.hid (show wr.rangeAt g (j * 34) ns from fun t u hu => HG.out.rd (i, 0, 0) (VX.nd hi2) g (by show (vv (i, 0, 0)).ownBlock = _; rw [hv]; rfl) (j * 34 + t) u (by show (XS (i, 0, 0))[j * 34 + t]? = _; rw [← hget t (by have := (List.getElem?_eq_some_iff.1 hu).1; omega)]; exact hu))
                  have ONE := Lib.hid (show ∀ u ∈ ns, u.oneCell' = true from fun u hu => ST.out.sp.one _ (VX.nd hi2) u (by rw [hns] at hu; exact List.mem_of_mem_drop (List.mem_of_mem_take hu)))
                  have G3 := Lib.hid (show ns[3]? = some (vv (i, 1, j)) by rw [hget 3 (by omega)]; exact ST.out.sp.hk i j hi2 hjn)
                  have GC := Lib.hid (show ns[28]? = some (vv (i, 2, j)) by rw [hget 28 (by omega)]; exact ST.out.sp.hc i j hi2 hjn)
                  have GG := Lib.hid (show ns[14]? = some (gM i j) by rw [hget 14 (by omega)]; exact FM.out.g)
                  clear hns hlx hln hget
                  have hz34 : nodeZ.size = 34 := rfl
                  have hgz : g < wr.heap.size := by have := HG.out.sz; omega
                  go_wp2_with (first | ((with_reducible refine wpList_load_node ?g1 (.tmp 170) ?g2 g (j * 34) ?g3 ns LEN.out RNG.out ?_); (case g1 => rfl); (case g2 => rfl); (case g3 => rfl)) | ((with_reducible refine wpList_store_nodeB ?g1 (.tmp 17) (.tmp 171) ?g2 _ _ ns ?g3 ?g4 ?g5 LEN.out ONE.out ?_); (case g1 => rfl); (case g2 => rfl); (case g3 => rfl); (case g4 => rfl); (case g5 => rfl)))
                  intro wc HWC
                  have HG2 := Lib.hid (show Gr2 base wm wc vv nn XS (D2 2 0) from by rw [HWC.out]; exact Grw.later ST.out.sp.fam HG.out (below_al (Below.refl _ _) _) ST.out.bs)
                  have k3 : wc.cell? ⟨wr.heap.size, 3, none⟩ = some (vv (i, 1, j)) := by rw [HWC.out]; exact blk_cell (heap_alloc_new _ _) G3.out
                  have kc : wc.cell? ⟨wr.heap.size, 28, none⟩ = some (vv (i, 2, j)) := by rw [HWC.out]; exact blk_cell (heap_alloc_new _ _) GC.out
                  have kg : wc.cell? ⟨wr.heap.size, 14, none⟩ = some (gM i j) := by rw [HWC.out]; exact blk_cell (heap_alloc_new _ _) GG.out
                  have zc : wr.heap.size < wc.heap.size := by rw [HWC.out]; simp
                  obtain ⟨cb, hcb⟩ : ∃ q, q = wr.heap.size := ⟨_, rfl⟩
                  rw [← hcb] at k3 kc kg zc
                  simp only [← hcb]
                  obtain ⟨pk, ck, hvk, hck, hpk⟩ := ST.out.sp.form2 (VX.kd hi2 hjn)
                  obtain ⟨pc, cc, hvc, hcc, hpc⟩ := ST.out.sp.form2 (VX.cl hi2 hjn)
                  have hnk := HN.out _ (VX.kd hi2 hjn)
                  have hnc := HN.out _ (VX.cl hi2 hjn)
                  rw [hvk] at k3
                  rw [hvc] at kc
                  clear hcb HWC G3 GC GG LEN RNG ONE HG hgz hct hbz hpv
                  go_wp2
                  go_loopw [18] (fun kv wr => ∃ (k : Nat), kv = .int .i64 k ∧ k ≤ nn (i, 1, j) ∧ wr = wc) (fun iv _ => nn (i, 1, j) - (intOf iv).toNat)
                  case atStart => exact ⟨0, rfl, by omega, rfl⟩
                  case round =>
                    obtain ⟨k, rfl, hk, hw⟩ := hrel
                    rw [hw]
                    clear hw
                    by_cases hkn : k < nn (i, 1, j)
                    · have hkk : (k : Int) < (nn (i, 1, j) : Int) := by omega
                      obtain ⟨gk, rfl, hgk0⟩ := hpk (by omega)
                      have hgk : gk < wc.heap.size := by have := HG2.out.sz; omega
                      have hck2 : wc.cell? ⟨gk, k, none⟩ = some (kM i j) := HG2.out.rd (i, 1, j) (VX.kd hi2 hjn) gk (by show (vv (i, 1, j)).ownBlock = _; rw [hvk]; rfl) k _ (FM.out.k k hkn)
                      go_wp2
                      go_roundw
                      case rel => exact ⟨k + 1, by go_num, by omega, by first | rfl | trivial⟩
                      case measure => simp [intOf]; omega
                    · have hkk : ¬ (k : Int) < (nn (i, 1, j) : Int) := by omega
                      obtain rfl : k = nn (i, 1, j) := by omega
                      go_wp2
                      clear hkk hkn hk
                      go_loopw [19] (fun kv wr => ∃ (k : Nat), kv = .int .i64 k ∧ k ≤ nn (i, 2, j) ∧ wr = wc) (fun iv _ => nn (i, 2, j) - (intOf iv).toNat)
                      case atStart => exact ⟨0, rfl, by omega, rfl⟩
                      case round =>
                        obtain ⟨k, rfl, hk, hw⟩ := hrel
                        rw [hw]
                        clear hw
                        by_cases hkn : k < nn (i, 2, j)
                        · have hkk : (k : Int) < (nn (i, 2, j) : Int) := by omega
                          obtain ⟨gk, rfl, hgk0⟩ := hpc (by omega)
                          have hgk : gk < wc.heap.size := by have := HG2.out.sz; omega
                          have hck2 : wc.cell? ⟨gk, k * 5 + 1, none⟩ = some (cM i j) := HG2.out.rd (i, 2, j) (VX.cl hi2 hjn) gk (by show (vv (i, 2, j)).ownBlock = _; rw [hvc]; rfl) _ _ (FM.out.c k hkn)
                          go_wp2
                          go_roundw
                          case rel => exact ⟨k + 1, by go_num, by omega, by first | rfl | trivial⟩
                          case measure => simp [intOf]; omega
                        · have hkk : ¬ (k : Int) < (nn (i, 2, j) : Int) := by omega
                          obtain rfl : k = nn (i, 2, j) := by omega
                          go_wp2
                          go_roundw
                          case rel => exact ⟨j + 1, by go_num, by omega, HG2⟩
                          case measure => simp [intOf]; omega
                · have hjj : ¬ (j : Int) < (nn (i, 0, 0) : Int) := by omega
                  obtain rfl : j = nn (i, 0, 0) := by omega
                  go_wp2
                  go_roundw
                  case rel => exact ⟨i + 1, by go_num, by omega, HG⟩
                  case measure => simp [intOf]; omega
            · have hii : ¬ (i : Int) < 2 := by omega
              have HB := Lib.hid (show Below base w wr from HBE.out.trans HG.out.be)
              clear HG
              go_wp2
              first | exact HQ.out _ HB.out | exact bodyPost_ret (v := .bool true) (by simp [results, Try.results24, go_sem]) rfl (HQ.out _ HB.out)
end Go.Proofs.Ytcihihncgpddfaa
namespace Go.Proofs.Ytcihihncgpddfaa
open Go.RowKit
set_option linter.unusedVariables false
set_option linter.unusedSimpArgs false

/-- two trees' lists -/
def vvT (tv : Nat → Value) (kvs cvs : Nat → Nat → Value) : Ix → Value
  | (i, 0, _) => tv i
  | (i, 1, j) => kvs i j
  | (i, _, j) => cvs i j
def nnT (T : Nat → List Nd) : Ix → Nat
  | (i, 0, _) => (T i).length
  | (i, 1, j) => ((T i).getD j zNd).kids.length
  | (i, _, j) => ((T i).getD j zNd).cols.length
def xsT (T : Nat → List Nd) (kvs cvs : Nat → Nat → Value) : Ix → List Value
  | (i, 0, _) => ndsV (T i) (kvs i) (cvs i)
  | (i, 1, j) => ((T i).getD j zNd).kids.map (Value.int .i64)
  | (i, _, j) => itsV ((T i).getD j zNd).cols
theorem ix_cases {T : Nat → List Nd} {a : Ix} (h : VX (nnT T) a) : ∃ i, i < 2 ∧ (a = (i, 0, 0) ∨ ∃ j, j < (T i).length ∧ (a = (i, 1, j) ∨ a = (i, 2, j))) := by
  obtain ⟨i, c, j⟩ := a
  obtain ⟨h1, h2⟩ := h
  refine ⟨i, h1, ?_⟩
  rcases h2 with ⟨h2, h3⟩ | ⟨h2, h3⟩
  · simp only at h2 h3; subst h2 h3; exact .inl rfl
  · simp only at h2 h3
    refine .inr ⟨j, h3, ?_⟩
    rcases h2 with h2 | h2 <;> subst h2
    · exact .inl rfl
    · exact .inr rfl
/-- within one tree no two lists share a block -/
theorem own_dis {base : Nat} {w : World} {T : Nat → List Nd} {tv : Nat → Value} {kvs cvs : Nat → Nat → Value} {i : Nat} (h : OwnT base w (tv i) (T i) (kvs i) (cvs i)) {a b : Ix}
    (ha : a = (i, 0, 0) ∨ ∃ j, j < (T i).length ∧ (a = (i, 1, j) ∨ a = (i, 2, j))) (hb : b = (i, 0, 0) ∨ ∃ j, j < (T i).length ∧ (b = (i, 1, j) ∨ b = (i, 2, j))) (hne : a ≠ b) {g : Nat} (hg : (vvT tv kvs cvs a).ownBlock = some g) : (vvT tv kvs cvs b).ownBlock ≠ some g := by
  have key : ∀ {b1 b2 : Nat} {e1 e2 : TypeId} {s1 s2 n1 n2 : Nat} {v1 v2 : Value} {x1 x2 : List Value}, w.ownsRow b1 e1 s1 v1 n1 x1 → w.ownsRow b2 e2 s2 v2 n2 x2 → e1 ≠ e2 → v1.ownBlock = some g → v2.ownBlock ≠ some g := fun h1 h2 he e1 e2 => by
    rcases row_ne h1 h2 he with h3 | h3
    · rw [h3] at e1; cases e1
    · exact h3 (e1.trans e2.symm)
  rcases ha with rfl | ⟨j, hj, rfl | rfl⟩ <;> rcases hb with rfl | ⟨k, hk, rfl | rfl⟩
  · exact absurd rfl hne
  · exact key h.row (h.kr k hk) (by decide) hg
  · exact key h.row (h.cr k hk) (by decide) hg
  · exact key (h.kr j hj) h.row (by decide) hg
  · exact h.kd j k hj hk (fun e => hne (by rw [e])) g hg
  · exact key (h.kr j hj) (h.cr k hk) (by decide) hg
  · exact key (h.cr j hj) h.row (by decide) hg
  · exact key (h.cr j hj) (h.kr k hk) (by decide) hg
  · exact h.cd j k hj hk (fun e => hne (by rw [e])) g hg
theorem vv_own {base : Nat} {w : World} {T : Nat → List Nd} {tv : Nat → Value} {kvs cvs : Nat → Nat → Value} {i : Nat} (h : OwnT base w (tv i) (T i) (kvs i) (cvs i)) {a : Ix}
    (ha : a = (i, 0, 0) ∨ ∃ j, j < (T i).length ∧ (a = (i, 1, j) ∨ a = (i, 2, j))) : w.ownsRow base (tyX a.2.1) (szX a.2.1) (vvT tv kvs cvs a) (nnT T a) (xsT T kvs cvs a) := by
  rcases ha with rfl | ⟨j, hj, rfl | rfl⟩
  · exact h.row
  · exact h.kr j hj
  · exact h.cr j hj
theorem nds_one {base : Nat} {w : World} {tv : Value} {T : List Nd} {kvs cvs : Nat → Value} (h : OwnT base w tv T kvs cvs) : ∀ u ∈ ndsV T kvs cvs, u.oneCell' = true := fun u hu => by
  obtain ⟨i, hi, hx⟩ := List.mem_flatMap.1 hu
  have hi : i < T.length := List.mem_range.1 hi
  exact ndV_one (row_ints (h.kr i hi)) (row_items (h.cr i hi)) u hx
/-- two trees of the call's own, the second one's blocks behind the first one's -/
theorem Sp.of2 {base base1 : Nat} {w : World} {T : Nat → List Nd} {tv : Nat → Value} {kvs cvs : Nat → Nat → Value} (h0 : OwnT base w (tv 0) (T 0) (kvs 0) (cvs 0)) (h1 : OwnT base1 w (tv 1) (T 1) (kvs 1) (cvs 1)) (hb : base ≤ base1)
    (hlt : ∀ a, (a = (0, 0, 0) ∨ ∃ j, j < (T 0).length ∧ (a = (0, 1, j) ∨ a = (0, 2, j))) → ∀ g, (vvT tv kvs cvs a).ownBlock = some g → g < base1) : Sp base w (vvT tv kvs cvs) (nnT T) (xsT T kvs cvs) := by
  have own : ∀ a, VX (nnT T) a → w.ownsRow base (tyX a.2.1) (szX a.2.1) (vvT tv kvs cvs a) (nnT T a) (xsT T kvs cvs a) := fun a ha => by
    obtain ⟨i, hi, hc⟩ := ix_cases ha
    obtain rfl | rfl : i = 0 ∨ i = 1 := by omega
    · exact vv_own h0 hc
    · exact row_base (vv_own h1 hc) hb
  have hlow : ∀ a, (a = (1, 0, 0) ∨ ∃ j, j < (T 1).length ∧ (a = (1, 1, j) ∨ a = (1, 2, j))) → ∀ g, (vvT tv kvs cvs a).ownBlock = some g → base1 ≤ g := fun a ha g hg => (row_lt (vv_own h1 ha) g hg).2
  refine ⟨⟨own, fun a b ha hb' hne g hg hg' => ?_⟩, fun i j hi hj => ?_, fun i j hi hj => ?_, fun a ha u hu => ?_⟩
  · obtain ⟨i, hi, hc⟩ := ix_cases ha
    obtain ⟨i', hi', hc'⟩ := ix_cases hb'
    obtain rfl | rfl : i = 0 ∨ i = 1 := by omega
    · obtain rfl | rfl : i' = 0 ∨ i' = 1 := by omega
      · exact own_dis h0 hc hc' hne hg hg'
      · have := hlt a hc g hg; have := hlow b hc' g hg'; omega
    · obtain rfl | rfl : i' = 0 ∨ i' = 1 := by omega
      · have := hlt b hc' g hg'; have := hlow a hc g hg; omega
      · exact own_dis h1 hc hc' hne hg hg'
  · exact (ndsV_get (T i) (kvs i) (cvs i) (i := j) (j := 3) hj (by omega)).trans rfl
  · exact (ndsV_get (T i) (kvs i) (cvs i) (i := j) (j := 28) hj (by omega)).trans rfl
  · obtain ⟨i, hi, hc⟩ := ix_cases ha
    rcases hc with rfl | ⟨j, hj, rfl | rfl⟩
    · obtain rfl | rfl : i = 0 ∨ i = 1 := by omega
      · exact nds_one h0 u hu
      · exact nds_one h1 u hu
    · exact ints_one _ u hu
    · exact items_one _ u hu
theorem manyR_le {α : Type} (f : Rdr α) (B : List Int) : ∀ (n : Nat) (s : Rs), (manyR f n B s).1.length ≤ n
  | 0, s => Nat.le_refl 0
  | n + 1, s => by
    rw [manyR_succ]
    by_cases h : s.code ≠ 0
    · rw [if_pos h]; exact Nat.zero_le _
    · rw [if_neg h]
      have := manyR_le f B n (f B s).2
      simp only [List.length_cons]
      omega
set_option maxRecDepth 100000 in
theorem ndR_lists {B : List Int} (hB : Byte8 B) (s : Rs) : (ndR B s).1.kids.length ≤ 4294967296 ∧ (ndR B s).1.cols.length ≤ 4294967296 := by
  constructor
  · have e : (ndR B s).1.kids = (manyR numR (numR B (partsR 4 B s).2).1.toNat B (numR B (partsR 4 B s).2).2).1 := rfl
    have h1 := manyR_le numR B (numR B (partsR 4 B s).2).1.toNat (numR B (partsR 4 B s).2).2
    have h2 := numR_range hB (partsR 4 B s).2
    rw [e]; omega
  · have e : (ndR B s).1.cols = (manyR itR (numR B (partsR 11 B s).2).1.toNat B (numR B (partsR 11 B s).2).2).1 := rfl
    have h1 := manyR_le itR B (numR B (partsR 11 B s).2).1.toNat (numR B (partsR 11 B s).2).2
    have h2 := numR_range hB (partsR 11 B s).2
    rw [e]; omega
theorem ndsS_lists {B : List Int} (hB : Byte8 B) : (ndsS B).1.length ≤ 4294967296 ∧ ∀ x ∈ (ndsS B).1, x.kids.length ≤ 4294967296 ∧ x.cols.length ≤ 4294967296 := by
  refine ⟨?_, manyR_all (P := fun (x : Nd) => x.kids.length ≤ 4294967296 ∧ x.cols.length ≤ 4294967296) (fun s => ndR_lists hB s) _ _⟩
  have h1 := manyR_le ndR B (cntS B).1.toNat (bgS B)
  have h2 := numR_range hB (hdS B 3)
  have h3 : cntS B = numR B (hdS B 3) := rfl
  rw [h3] at h1
  unfold ndsS
  rw [h3]
  omega
theorem decT_lists {B : List Int} (hB : Byte8 B) : (decT B).1.length ≤ 4294967296 ∧ ∀ x ∈ (decT B).1, x.kids.length ≤ 4294967296 ∧ x.cols.length ≤ 4294967296 := by
  have nil : ∀ {c a : Int}, decT B = ([], c, a) → (decT B).1.length ≤ 4294967296 ∧ ∀ x ∈ (decT B).1, x.kids.length ≤ 4294967296 ∧ x.cols.length ≤ 4294967296 := fun e => by rw [e]; exact ⟨Nat.zero_le _, fun x hx => by cases hx⟩
  by_cases hl : 1048576 < B.length
  · exact nil (decT_long hl)
  · have hl : B.length ≤ 1048576 := by omega
    by_cases hc : (endS B (ndsS B).2).code = 0
    · by_cases hk : (checkT (ndsS B).1).1 = 0
      · rw [decT_ok hl hc hk]; exact ndsS_lists hB
      · exact nil (decT_check hl hc hk)
    · exact nil (decT_code hl hc)
theorem nnT_le {B : List Int} (hB : Byte8 B) : ∀ a, VX (nnT fun _ => (decT B).1) a → nnT (fun _ => (decT B).1) a ≤ 4294967296 := fun a ha => by
  obtain ⟨h1, h2⟩ := decT_lists hB
  obtain ⟨i, hi, hc⟩ := ix_cases ha
  have hm : ∀ {j}, j < (decT B).1.length → (decT B).1.getD j zNd ∈ (decT B).1 := fun {j} hj => by rw [List.getD_eq_getElem?_getD, List.getElem?_eq_getElem hj]; exact List.getElem_mem hj
  rcases hc with rfl | ⟨j, hj, rfl | rfl⟩
  · exact h1
  · exact (h2 _ (hm hj)).1
  · exact (h2 _ (hm hj)).2
theorem decT_nds {B : List Int} (hB : Byte8 B) : ∀ x ∈ (decT B).1, NdOk x := by
  have nil : ∀ {c a : Int}, decT B = ([], c, a) → ∀ x ∈ (decT B).1, NdOk x := fun e => by rw [e]; exact fun x hx => by cases hx
  by_cases hl : 1048576 < B.length
  · exact nil (decT_long hl)
  · have hl : B.length ≤ 1048576 := by omega
    by_cases hc : (endS B (ndsS B).2).code = 0
    · by_cases hk : (checkT (ndsS B).1).1 = 0
      · rw [decT_ok hl hc hk]; exact manyR_all (P := NdOk) (fun s => partsR_ok hB hl s 13) _ _
      · exact nil (decT_check hl hc hk)
    · exact nil (decT_code hl hc)
end Go.Proofs.Ytcihihncgpddfaa
