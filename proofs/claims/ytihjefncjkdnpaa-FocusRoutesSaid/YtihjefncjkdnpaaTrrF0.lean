/- Trees: the states of the reference's Check; plain laws. -/
import Derived.Test.YtihjefncjkdnpaaTrrE
namespace Go.Proofs.Ytihjefncjkdnpaa
open Go.RowKit Go.Deep
set_option linter.unusedVariables false
set_option linter.unusedSimpArgs false

/-- who is taken and how deep, behind the first n nodes -/
def stAt (T : List Nd) : Nat → (Nat → Bool) × (Nat → Int)
  | 0 => (fun _ => false, fun _ => 0)
  | n + 1 => after T.length n (T.getD n zNd) (stAt T n).1 (stAt T n).2
theorem kidGo_low {N n : Nat} : ∀ (ks : List Int) (t : Nat → Bool) (d : Nat → Int) (r : (Nat → Bool) × (Nat → Int)), kidGo N n ks t d = some r → ∀ i, i ≤ n → r.1 i = t i ∧ r.2 i = d i
  | [], t, d, r, h, i, hi => by
    rw [kidGo] at h
    injection h with h
    subst h
    exact ⟨rfl, rfl⟩
  | k :: ks, t, d, r, h, i, hi => by
    rw [kidGo] at h
    by_cases hb : k ≤ (n : Int) ∨ (N : Int) ≤ k ∨ t k.toNat = true
    · rw [if_pos hb] at h; cases h
    · rw [if_neg hb] at h
      have hne : i ≠ k.toNat := by
        intro e
        apply hb
        left
        omega
      obtain ⟨h1, h2⟩ := kidGo_low ks _ _ r h i hi
      rw [h1, h2, upd_other hne, upd_other hne]
      exact ⟨rfl, rfl⟩
/-- all kids may be -/
def AllGo (T : List Nd) (m : Nat) : Prop := ∀ n, n < m → kidGo T.length n (T.getD n zNd).kids (stAt T n).1 (stAt T n).2 = some (stAt T (n + 1))
theorem st_low {T : List Nd} {m : Nat} (h : AllGo T m) : ∀ k n i, n + k ≤ m → i ≤ n → (stAt T (n + k)).1 i = (stAt T n).1 i ∧ (stAt T (n + k)).2 i = (stAt T n).2 i
  | 0, n, i, _, _ => ⟨rfl, rfl⟩
  | k + 1, n, i, hm, hi => by
    obtain ⟨h1, h2⟩ := kidGo_low _ _ _ _ (h (n + k) (by omega)) i (by omega)
    obtain ⟨h3, h4⟩ := st_low h k n i (by omega) hi
    rw [show n + (k + 1) = n + k + 1 by omega, h1, h2]
    exact ⟨h3, h4⟩
/-- the depths that the reference reckons, beside the program's -/
def Deeper (t : Nat → Bool) (d dR : Nat → Int) : Prop := ∀ i, (i = 0 ∨ t i = true) → dR i = d i + 1
theorem deeper_upd {t : Nat → Bool} {d dR : Nat → Int} {n q : Nat} (h : Deeper t d dR) (hn : n = 0 ∨ t n = true) : Deeper (upd t q true) (upd d q (d n + 1)) (upd dR q (dR n + 1)) := fun i hi => by
  by_cases e : i = q
  · subst e
    rw [upd_same, upd_same, h n hn]
  · rw [upd_other e, upd_other e]
    refine h i (hi.elim .inl fun h' => .inr ?_)
    rwa [upd_other e] at h'
theorem lone_step {t : Nat → Bool} {fin : Int × Int} {N n : Nat} (h1 : 1 ≤ n) (hn : n < N) : loneFrom t fin (N - n) n = if t n = true then loneFrom t fin (N - (n + 1)) (n + 1) else (102, (n : Int)) := by
  obtain ⟨f, hf⟩ : ∃ f, N - n = f + 1 := ⟨N - n - 1, by omega⟩
  have hf' : N - (n + 1) = f := by omega
  rw [hf, hf', loneFrom]
theorem deep_step {d : Nat → Int} {N n : Nat} (hn : n < N) : deepFrom d (N - n) n = if 64 ≤ d n then (103, (n : Int)) else deepFrom d (N - (n + 1)) (n + 1) := by
  obtain ⟨f, hf⟩ : ∃ f, N - n = f + 1 := ⟨N - n - 1, by omega⟩
  have hf' : N - (n + 1) = f := by omega
  rw [hf, hf', deepFrom]

/-- the state of the reference's first loop -/
structure RcW (w wr : World) (BT : Nat) (p : Option Addr) (c : Nat) (T : List Nd) (t : Nat → Bool) : Prop where
  l1 : w.heap.size < BT
  rt : wr.rowIs BT 4 T.length fun i => .bool (t i)
  be : Below w.heap.size w wr
  box : wr.cell? ⟨w.heap.size, 0, none⟩ = some (.slice p T.length c)
theorem RcW.below {w wr w' : World} {BT : Nat} {p : Option Addr} {c : Nat} {T : List Nd} {t : Nat → Bool} (h : RcW w wr BT p c T t) (hb : Below wr.heap.size wr w') : RcW w w' BT p c T t := by
  have z1 := h.rt.lt
  have l1 := h.l1
  exact ⟨h.l1, h.rt.of_block (below_block hb z1), below_via hb h.be, by rw [(bcell hb).1 _ _ (by omega)]; exact h.box⟩
theorem RcW.kids {w wr w' : World} {BT : Nat} {p : Option Addr} {c : Nat} {T : List Nd} {t t' : Nat → Bool} (h : RcW w wr BT p c T t) (hg : wr.grownBy w' (some BT)) (hr : w'.rowIs BT 4 T.length fun i => .bool (t' i)) : RcW w w' BT p c T t' := by
  have z1 := h.rt.lt
  have l1 := h.l1
  exact ⟨h.l1, hr, Below.grown h.be hg h.be.size (fun k hk => by injection hk with hk; omega), by rw [World.cell?_of_block (hg.block w.heap.size (by omega) (fun e => by injection e with e; omega))]; exact h.box⟩
/-- the state of its second loop -/
structure RdW (w wr : World) (BT BD : Nat) (p : Option Addr) (c : Nat) (T : List Nd) (t : Nat → Bool) (dR : Nat → Int) : Prop where
  rc : RcW w wr BT p c T t
  l2 : w.heap.size < BD
  ne : BT ≠ BD
  rd : wr.rowIs BD 3 T.length fun i => .int .i64 (dR i)
theorem RdW.below {w wr w' : World} {BT BD : Nat} {p : Option Addr} {c : Nat} {T : List Nd} {t : Nat → Bool} {dR : Nat → Int} (h : RdW w wr BT BD p c T t dR) (hb : Below wr.heap.size wr w') : RdW w w' BT BD p c T t dR :=
  ⟨h.rc.below hb, h.l2, h.ne, h.rd.of_block (below_block hb h.rd.lt)⟩
theorem RdW.set {w wr : World} {BT BD : Nat} {p : Option Addr} {c : Nat} {T : List Nd} {t : Nat → Bool} {dR : Nat → Int} (h : RdW w wr BT BD p c T t dR) (q : Nat) (v : Int) : RdW w (wr.setCell ⟨BD, q, none⟩ (.int .i64 v)) BT BD p c T t (upd dR q v) := by
  have l2 := h.l2
  have ne := h.ne
  refine ⟨⟨h.rc.l1, h.rc.rt.setOther ne _, h.rc.be.setCell (by simp; omega) _, ?_⟩, l2, ne, (h.rd.set q (.int .i64 v)).congr fun i _ => ?_⟩
  · rw [World.cell?_of_block (blk_setCell_other _ _ _ _ (by simp; omega))]; exact h.rc.box
  · unfold upd; split <;> rfl
theorem RdW.drew_in {w wj : World} {BT BD q : Nat} {v : Value} {p : Option Addr} {c : Nat} {T : List Nd} {t : Nat → Bool} {dR : Nat → Int} (h : RdW w (wj.setCell ⟨BD, q, none⟩ v) BT BD p c T t dR) : RdW w (wj.drew.setCell ⟨BD, q, none⟩ v) BT BD p c T t dR :=
  ⟨⟨h.rc.l1, h.rc.rt, ⟨h.rc.be.os, h.rc.be.tape, h.rc.be.output, h.rc.be.size, h.rc.be.block⟩, h.rc.box⟩, h.l2, h.ne, h.rd⟩
end Go.Proofs.Ytihjefncjkdnpaa
