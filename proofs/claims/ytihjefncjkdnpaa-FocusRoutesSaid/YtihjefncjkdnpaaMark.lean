/- Two lists of the call's own that are marked and then gone on with: each still reads its own marks. -/
import Derived.Test.YtihjefncjkdnpaaLntO
import Derived.Test.YtihjefncjkdnpaaAppK
namespace Go.Proofs.Ytihjefncjkdnpaa
open Go.RowKit
set_option linter.unusedVariables false
set_option linter.unusedSimpArgs false

theorem flat_get_ (n : Nat) : ∀ (L : List (List Value)), (∀ a ∈ L, a.length = n) → ∀ i j, i < L.length → j < n → L.flatten[i * n + j]? = (L.getD i [])[j]?
  | [], _, i, j, h, _ => absurd h (Nat.not_lt_zero _)
  | a :: L, hL, i, j, hi, hj => by
    have ha : a.length = n := hL a (by simp)
    rw [List.flatten_cons]
    cases i with
    | zero => rw [Nat.zero_mul, Nat.zero_add, List.getElem?_append_left (by omega)]; rfl
    | succ i =>
      rw [Nat.succ_mul, List.getElem?_append_right (by omega), ha, show i * n + n + j - n = i * n + j by omega]
      exact flat_get_ n L (fun b hb => hL b (by simp [hb])) i j (by simpa using hi) hj
theorem flat_len_ {k : Nat} : ∀ (L : List (List Value)), (∀ a ∈ L, a.length = k) → L.flatten.length = L.length * k
  | [], _ => by simp
  | a :: L, h => by rw [List.flatten_cons, List.length_append, h a (by simp), flat_len_ L (fun b hb => h b (by simp [hb])), List.length_cons, Nat.succ_mul, Nat.add_comm]
/-- n times the cells of one and the same element -/
def reps (n : Nat) (mk : List Value) : List Value := (List.replicate n mk).flatten
theorem reps_len (n : Nat) (mk : List Value) : (reps n mk).length = n * mk.length := by
  unfold reps; rw [flat_len_ (k := mk.length) _ (fun a ha => by rw [List.eq_of_mem_replicate ha]), List.length_replicate]
theorem reps_succ (n : Nat) (mk : List Value) : reps (n + 1) mk = reps n mk ++ mk := by
  unfold reps; rw [List.replicate_succ', List.flatten_append]; simp
theorem reps_get (n : Nat) (mk : List Value) (i j : Nat) (hi : i < n) (hj : j < mk.length) : (reps n mk)[i * mk.length + j]? = mk[j]? := by
  unfold reps
  rw [flat_get_ mk.length _ (fun a ha => by rw [List.eq_of_mem_replicate ha]) i j (by simpa using hi) hj]
  simp [List.getD_eq_getElem?_getD, hi]
theorem reps_prefix {n m : Nat} (h : n ≤ m) (mk : List Value) (j : Nat) (u : Value) (hu : (reps n mk)[j]? = some u) : (reps m mk)[j]? = some u := by
  obtain ⟨d, rfl⟩ : ∃ d, m = n + d := ⟨m - n, by omega⟩
  have e : reps (n + d) mk = reps n mk ++ reps d mk := by
    unfold reps
    rw [← List.replicate_append_replicate, List.flatten_append]
  have hj : j < (reps n mk).length := (List.getElem?_eq_some_iff.1 hu).1
  rw [e, List.getElem?_append_left hj]; exact hu

/-- like grownBy, with two rows -/
structure Grown2 (w w' : World) (r1 r2 : Option Nat) : Prop where
  os : w'.os = w.os
  tape : w'.tape = w.tape
  output : w'.output = w.output
  size : w.heap.size ≤ w'.heap.size
  block : ∀ k, k < w.heap.size → some k ≠ r1 → some k ≠ r2 → w'.heap[k]? = w.heap[k]?
theorem Grown2.refl (w : World) (r1 r2 : Option Nat) : Grown2 w w r1 r2 := ⟨rfl, rfl, rfl, Nat.le_refl _, fun _ _ _ _ => rfl⟩
theorem Grown2.step {w0 w w' : World} {r1 r2 row : Option Nat} (h : Grown2 w0 w r1 r2) (g : w.grownBy w' row) (hr : ∀ k, row = some k → w0.heap.size ≤ k ∨ r1 = some k ∨ r2 = some k) : Grown2 w0 w' r1 r2 :=
  ⟨g.os.trans h.os, g.tape.trans h.tape, g.output.trans h.output, Nat.le_trans h.size g.size, fun k hk h1 h2 => (g.block k (Nat.lt_of_lt_of_le hk h.size) (fun e => by
    rcases hr k e.symm with h' | h' | h'
    · omega
    · exact h1 h'.symm
    · exact h2 h'.symm)).trans (h.block k hk h1 h2)⟩
theorem Grown2.below {B : Nat} {a w0 w : World} {r1 r2 : Option Nat} (h : Grown2 w0 w r1 r2) (hb : Below B a w0) (hB : B ≤ w0.heap.size) (h1 : ∀ k, r1 = some k → B ≤ k) (h2 : ∀ k, r2 = some k → B ≤ k) : Below B a w :=
  hb.trans ⟨h.os, h.tape, h.output, h.size, fun k hk => h.block k (by omega) (fun e => by have := h1 k e.symm; omega) (fun e => by have := h2 k e.symm; omega)⟩
theorem Grown2.row {w0 w : World} {r1 r2 : Option Nat} {base : Nat} {t : TypeId} {k n : Nat} {v : Value} {xs : List Value} (h : Grown2 w0 w r1 r2) (own : w0.ownsRow base t k v n xs) (h1 : v.ownBlock = none ∨ v.ownBlock ≠ r1) (h2 : v.ownBlock = none ∨ v.ownBlock ≠ r2) : w.ownsRow base t k v n xs := by
  obtain ⟨hl, h' | ⟨g, cap, cur, rfl, hb', hh, hr⟩⟩ := own
  · exact ⟨hl, .inl h'⟩
  · refine ⟨hl, .inr ⟨g, cap, cur, rfl, hb', ?_, hr⟩⟩
    rw [h.block g (Array.getElem?_eq_some_iff.1 hh).1 (by simpa [Value.ownBlock] using h1) (by simpa [Value.ownBlock] using h2)]
    exact hh
theorem Grown2.cell {w0 w : World} {r1 r2 : Option Nat} (h : Grown2 w0 w r1 r2) {b : Nat} (hb : b < w0.heap.size) (h1 : some b ≠ r1) (h2 : some b ≠ r2) (o : Nat) : w.cell? ⟨b, o, none⟩ = w0.cell? ⟨b, o, none⟩ := World.cell?_of_block (h.block b hb h1 h2)
theorem Grown2.swap {w0 w : World} {r1 r2 : Option Nat} (h : Grown2 w0 w r1 r2) : Grown2 w0 w r2 r1 := ⟨h.os, h.tape, h.output, h.size, fun k hk h1 h2 => h.block k hk h2 h1⟩

/-- a list that was marked (va, n elements), and the one that it was gone on with (vx, m elements) -/
structure MarkS (w : World) (E : TypeId) (s : Nat) (va vx : Value) (sa n m : Nat) (mk : List Value) : Prop where
  own : w.ownsRow sa E s vx m (reps m mk)
  nm : n ≤ m
  rd : n = 0 ∨ ∃ ga ca, va = .slice (some ⟨ga, 0, none⟩) n ca ∧ ga < w.heap.size ∧ w.rangeAt ga 0 (reps n mk)
theorem MarkS.start {w : World} {E : TypeId} {s : Nat} {va : Value} {sa n : Nat} {mk : List Value} (h : w.ownsRow sa E s va n (reps n mk)) : MarkS w E s va va sa n n mk := by
  refine ⟨h, Nat.le_refl _, ?_⟩
  rcases row_form h with ⟨_, h0, _⟩ | ⟨g, c, rfl, _, _, hz, _⟩
  · exact .inl h0
  · exact .inr ⟨g, c, rfl, hz, row_cells h⟩
theorem MarkS.kept {w w' : World} {E : TypeId} {s : Nat} {va vx : Value} {sa n m : Nat} {mk : List Value} {row : Option Nat} (h : MarkS w E s va vx sa n m mk) (gr : w.grownBy w' row) (h1 : vx.ownBlock = none ∨ vx.ownBlock ≠ row) (h2 : va.ownBlock = none ∨ va.ownBlock ≠ row) : MarkS w' E s va vx sa n m mk := by
  refine ⟨h.own.kept gr h1, h.nm, ?_⟩
  rcases h.rd with h0 | ⟨ga, ca, rfl, hz, hc⟩
  · exact .inl h0
  · refine .inr ⟨ga, ca, rfl, Nat.lt_of_lt_of_le hz gr.size, fun j u hu => ?_⟩
    rw [World.cell?_of_block (gr.block ga hz (fun e => by
      rcases h2 with h2 | h2
      · simp [Value.ownBlock] at h2
      · exact h2 e))]
    exact hc j u hu
theorem MarkS.app {w w' : World} {E : TypeId} {s : Nat} {va vx v' : Value} {sa n m : Nat} {mk : List Value} (h : MarkS w E s va vx sa n m mk) (own' : w'.ownsRow sa E s v' (m + 1) (reps m mk ++ mk)) (gr : w.grownBy w' vx.ownBlock) (pl : v'.ownBlock = vx.ownBlock ∨ (v'.ownBlock = some w.heap.size ∧ w.grownBy w' none)) : MarkS w' E s va v' sa n (m + 1) mk := by
  rw [← reps_succ] at own'
  refine ⟨own', Nat.le_succ_of_le h.nm, ?_⟩
  rcases h.rd with h0 | ⟨ga, ca, rfl, hz, hc⟩
  · exact .inl h0
  · refine .inr ⟨ga, ca, rfl, Nat.lt_of_lt_of_le hz gr.size, fun j u hu => ?_⟩
    by_cases hg : vx.ownBlock = some ga
    · rcases pl with pl | ⟨_, pl⟩
      · rw [hg] at pl
        have hnm := h.nm
        rcases row_form own' with ⟨e, h0, _⟩ | ⟨g, c, rfl, _⟩
        · omega
        · simp [Value.ownBlock] at pl
          subst pl
          exact row_cells own' j u (reps_prefix (by omega) mk j u hu)
      · rw [World.cell?_of_block (pl.block ga hz (by simp))]; exact hc j u hu
    · rw [World.cell?_of_block (gr.block ga hz (fun e => hg e.symm))]; exact hc j u hu

structure TwoM (w0 w : World) (E : TypeId) (s : Nat) (va vc vx vy : Value) (sa sc n q m r : Nat) (mk mk2 : List Value) : Prop where
  gr : Grown2 w0 w va.ownBlock vc.ownBlock
  x : MarkS w E s va vx sa n m mk
  y : MarkS w E s vc vy sc q r mk2
  xa : vx.ownBlock = va.ownBlock ∨ ∃ g, vx.ownBlock = some g ∧ w0.heap.size ≤ g
  yc : vy.ownBlock = vc.ownBlock ∨ ∃ g, vy.ownBlock = some g ∧ w0.heap.size ≤ g
  xy : ∀ g, vx.ownBlock = some g → vy.ownBlock ≠ some g
  ac : ∀ g, va.ownBlock = some g → g < w0.heap.size ∧ vc.ownBlock ≠ some g
  cl : ∀ g, vc.ownBlock = some g → g < w0.heap.size
theorem TwoM.swap {w0 w : World} {E : TypeId} {s : Nat} {va vc vx vy : Value} {sa sc n q m r : Nat} {mk mk2 : List Value} (h : TwoM w0 w E s va vc vx vy sa sc n q m r mk mk2) : TwoM w0 w E s vc va vy vx sc sa q n r m mk2 mk :=
  ⟨h.gr.swap, h.y, h.x, h.yc, h.xa, fun g h1 h2 => h.xy g h2 h1, fun g hg => ⟨h.cl g hg, fun e => (h.ac g e).2 hg⟩, fun g hg => (h.ac g hg).1⟩
theorem TwoM.alloc {w0 w : World} {E : TypeId} {s : Nat} {va vc vx vy : Value} {sa sc n q m r : Nat} {mk mk2 : List Value} (h : TwoM w0 w E s va vc vx vy sa sc n q m r mk mk2) (o : Obj) : TwoM w0 (w.alloc o) E s va vc vx vy sa sc n q m r mk mk2 := by
  have g := World.grownBy_alloc w o none
  have hn : ∀ (v : Value), v.ownBlock = none ∨ v.ownBlock ≠ none := fun v => by cases v.ownBlock <;> simp
  exact ⟨h.gr.step g (fun k hk => by cases hk), h.x.kept g (hn _) (hn _), h.y.kept g (hn _) (hn _), h.xa, h.yc, h.xy, h.ac, h.cl⟩
theorem TwoM.appX {w0 w w' : World} {E : TypeId} {s : Nat} {va vc vx vy v' : Value} {sa sc n q m r : Nat} {mk mk2 : List Value} (h : TwoM w0 w E s va vc vx vy sa sc n q m r mk mk2) (own' : w'.ownsRow sa E s v' (m + 1) (reps m mk ++ mk)) (gr : w.grownBy w' vx.ownBlock) (pl : v'.ownBlock = vx.ownBlock ∨ (v'.ownBlock = some w.heap.size ∧ w.grownBy w' none)) : TwoM w0 w' E s va vc v' vy sa sc n q (m + 1) r mk mk2 := by
  have ne : ∀ v : Value, (∀ g, vx.ownBlock = some g → v.ownBlock ≠ some g) → v.ownBlock = none ∨ v.ownBlock ≠ vx.ownBlock := fun v hv => by
    cases e : v.ownBlock with
    | none => exact .inl rfl
    | some g => exact .inr (fun e' => hv g e'.symm e)
  have hxc : ∀ g, vx.ownBlock = some g → vc.ownBlock ≠ some g := fun g hg hc => by
    rcases h.xa with e | ⟨g', e, hg'⟩
    · exact (h.ac g (e ▸ hg)).2 hc
    · rw [hg] at e
      injection e with e
      subst e
      have := h.cl g hc
      omega
  have sz := h.gr.size
  refine ⟨h.gr.step gr (fun k hk => ?_), h.x.app own' gr pl, h.y.kept gr (ne vy h.xy) (ne vc hxc), ?_, h.yc, fun g hg => ?_, h.ac, h.cl⟩
  · rcases h.xa with e | ⟨g', e, hg'⟩
    · exact .inr (.inl (e ▸ hk))
    · rw [hk] at e
      injection e with e
      subst e
      exact .inl hg'
  · rcases pl with e | ⟨e, _⟩
    · rw [e]; exact h.xa
    · exact .inr ⟨_, e, sz⟩
  · rcases pl with e | ⟨e, _⟩
    · rw [e] at hg; exact h.xy g hg
    · rw [e] at hg
      injection hg with hg
      intro hy
      have := (row_lt h.y.own g hy).1
      omega
/-- one cell of an own row is set -/
theorem row_set {w : World} {base : Nat} {t : TypeId} {k g n c : Nat} {m : Nat} {xs : List Value} (h : w.ownsRow base t k (.slice (some ⟨g, 0, none⟩) m c) n xs) (i : Nat) (u : Value) : (w.setCell ⟨g, i, none⟩ u).ownsRow base t k (.slice (some ⟨g, 0, none⟩) m c) n (xs.set i u) := by
  obtain ⟨hl, ⟨e, _⟩ | ⟨g', cap, cur, e, hb', hh, h1, h2, h3, h4⟩⟩ := h
  · cases e
  · injection e with e1 e2 e3
    injection e1 with e1
    injection e1 with e1
    subst e1 e2 e3
    refine ⟨by rw [List.length_set]; exact hl, .inr ⟨g, c, cur.setIfInBounds i u, rfl, hb', heap_setCell_same w g i cur t u hh, h1, h2, by simpa using h3, ?_⟩⟩
    rw [Array.toList_setIfInBounds, List.take_set, h4]
theorem setCell_grown_ (w : World) (a : Addr) (v : Value) : w.grownBy (w.setCell a v) (some a.block) :=
  ⟨rfl, rfl, rfl, by simp, fun k hk hne => heap_setCell_other w a k v (fun e => hne (by rw [e]))⟩
/-- k of n elements are marked -/
def half (k : Nat) (mk : List Value) (L : List (List Value)) : List Value := (List.replicate k mk ++ L.drop k).flatten
theorem half_zero (mk : List Value) (L : List (List Value)) : half 0 mk L = L.flatten := rfl
theorem half_all (mk : List Value) (L : List (List Value)) : half L.length mk L = reps L.length mk := by unfold half reps; simp
theorem half_set1 {k : Nat} {u : Value} {L : List (List Value)} (hL : ∀ a ∈ L, a.length = 1) (hk : k < L.length) : (half k [u] L).set k u = half (k + 1) [u] L := by
  have hd := hL L[k] (List.getElem_mem hk)
  obtain ⟨a, ha⟩ := List.length_eq_one_iff.1 hd
  unfold half
  rw [List.drop_eq_getElem_cons hk, ha, List.flatten_append, List.flatten_cons, List.replicate_succ', List.append_assoc, List.flatten_append]
  have hl : (List.replicate k [u]).flatten.length = k := by simp
  rw [List.set_append_right _ _ (by omega), hl, Nat.sub_self]
  simp
theorem half_set2 {k : Nat} {u v : Value} {L : List (List Value)} (hL : ∀ a ∈ L, a.length = 2) (hk : k < L.length) : ((half k [u, v] L).set (k * 2) u).set (k * 2 + 1) v = half (k + 1) [u, v] L := by
  have hd := hL L[k] (List.getElem_mem hk)
  obtain ⟨a, b, ha⟩ : ∃ a b, L[k] = [a, b] := by
    match L[k], hd with
    | [a, b], _ => exact ⟨a, b, rfl⟩
  unfold half
  rw [List.drop_eq_getElem_cons hk, ha, List.flatten_append, List.flatten_cons, List.replicate_succ', List.append_assoc, List.flatten_append]
  have hl : (List.replicate k [u, v]).flatten.length = k * 2 := by rw [flat_len_ (k := 2) _ (fun a ha => by rw [List.eq_of_mem_replicate ha]; rfl), List.length_replicate]
  rw [List.set_append_right _ _ (by omega), hl, Nat.sub_self, List.set_append_right _ _ (by omega), hl, Nat.add_sub_cancel_left]
  simp
end Go.Proofs.Ytihjefncjkdnpaa
