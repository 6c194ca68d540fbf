/- Reading trees' bytes: a node that is being read; what numbers' reading takes. -/
import Derived.Test.YtcihihncgpddfaaRrB
import Derived.Test.YtcihihncgpddfaaAnyZ
import Derived.Test.YtcihihncgpddfaaWrB
namespace Go.Proofs.Ytcihihncgpddfaa
open Go.RowKit Go.Deep
set_option linter.unusedVariables false
set_option linter.unusedSimpArgs false

def itsV (L : List It) : List Value := L.flatMap itV
theorem itsV_len (L : List It) : (itsV L).length = L.length * 5 := by
  unfold itsV
  induction L with
  | nil => rfl
  | cons a l ih => rw [List.flatMap_cons, List.length_append, ih, List.length_cons]; show 5 + _ = _; omega
theorem itsV_app (L M : List It) : itsV (L ++ M) = itsV L ++ itsV M := by unfold itsV; rw [List.flatMap_append]
/-- a node of the call's own: its cells, its two lists -/
structure NdO (base : Nat) (W : World) (xb : Nat) (cs : Array Value) (ks : List Int) (its : List It) (kv cv : Value) : Prop where
  blk : W.heap[xb]? = some (.cells cs 64 (0, 0))
  kown : W.ownsRow base 3 1 kv ks.length (ks.map (Value.int .i64))
  cown : W.ownsRow base 57 5 cv its.length (itsV its)
  zx : base ≤ xb
structure TyOk (ty : TypeId) : Prop where
  n : ty ≠ 64
  i : ty ≠ 3
  t : ty ≠ 57
/-- what a step of the reading makes of a world -/
structure GetS (ty : TypeId) (w0 W : World) (rb : Nat) (sv : Value) (B : List Int) (xb : Nat) (kv cv : Value) (s : Rs) (cs : Array Value) (ks : List Int) (its : List It) (kv' cv' : Value) (W' : World) : Prop where
  rd : RdAt ty w0 W' rb sv B s
  nd : NdO w0.heap.size W' xb cs ks its kv' cv'
  sz : W.heap.size ≤ W'.heap.size
  fr : ∀ b, b < W.heap.size → b ≠ rb → b ≠ xb → kv.ownBlock ≠ some b → cv.ownBlock ≠ some b → W'.heap[b]? = W.heap[b]?
  kg : ∀ b, kv'.ownBlock = some b → kv.ownBlock = some b ∨ W.heap.size ≤ b
  cg : ∀ b, cv'.ownBlock = some b → cv.ownBlock = some b ∨ W.heap.size ≤ b
theorem row_kept {w w' : World} {base : Nat} {t : TypeId} {k : Nat} {v : Value} {n : Nat} {xs : List Value} (h : w.ownsRow base t k v n xs) (hb : ∀ g, v.ownBlock = some g → w'.heap[g]? = w.heap[g]?) : w'.ownsRow base t k v n xs := by
  obtain ⟨hl, h | ⟨g, cap, cur, e, hb', hh, hr⟩⟩ := h
  · exact ⟨hl, .inl h⟩
  · exact ⟨hl, .inr ⟨g, cap, cur, e, hb', (hb g (by rw [e]; rfl)).trans hh, hr⟩⟩
section
variable {ty : TypeId} {w0 W W1 W2 : World} {rb xb : Nat} {sv kv cv kv1 cv1 kv2 cv2 : Value} {B : List Int} {s s1 s2 : Rs} {cs cs1 cs2 : Array Value} {ks ks1 ks2 : List Int} {its its1 its2 : List It}
theorem NdO.lt {base : Nat} (h : NdO base W xb cs ks its kv cv) : xb < W.heap.size := lt_of_block h.blk
theorem NdO.later {base : Nat} (h : NdO base W xb cs ks its kv cv) (hb : Below W.heap.size W W1) : NdO base W1 xb cs ks its kv cv :=
  ⟨(hb.block _ h.lt).trans h.blk, row_later h.kown hb, row_later h.cown hb, h.zx⟩
theorem GetS.refl (h : RdAt ty w0 W rb sv B s) (hn : NdO w0.heap.size W xb cs ks its kv cv) : GetS ty w0 W rb sv B xb kv cv s cs ks its kv cv W :=
  ⟨h, hn, Nat.le_refl _, fun _ _ _ _ _ _ => rfl, fun b e => .inl e, fun b e => .inl e⟩
theorem GetS.trans (h : GetS ty w0 W rb sv B xb kv cv s1 cs1 ks1 its1 kv1 cv1 W1) (h' : GetS ty w0 W1 rb sv B xb kv1 cv1 s2 cs2 ks2 its2 kv2 cv2 W2) : GetS ty w0 W rb sv B xb kv cv s2 cs2 ks2 its2 kv2 cv2 W2 := by
  have z := h.sz
  have z' := h'.sz
  refine ⟨h'.rd, h'.nd, by omega, fun b h1 h2 h3 h4 h5 => ?_, fun b e => ?_, fun b e => ?_⟩
  · refine (h'.fr b (by omega) h2 h3 (fun e => ?_) (fun e => ?_)).trans (h.fr b h1 h2 h3 h4 h5)
    · rcases h.kg b e with e | e
      · exact h4 e
      · omega
    · rcases h.cg b e with e | e
      · exact h5 e
      · omega
  · rcases h'.kg b e with e | e
    · exact h.kg b e
    · exact .inr (by omega)
  · rcases h'.cg b e with e | e
    · exact h.cg b e
    · exact .inr (by omega)
/-- the reader alone has worked -/
theorem GetS.read (hty : TyOk ty) (h : RdAt ty w0 W rb sv B s) (hn : NdO w0.heap.size W xb cs ks its kv cv) (hs : RdS ty w0 W rb sv B s1 W1) : GetS ty w0 W rb sv B xb kv cv s1 cs ks its kv cv W1 := by
  have n1 : xb ≠ rb := fun e => by
    have := hn.blk
    rw [e, h.blk] at this
    injection this with this
    injection this with _ h2 _
    exact hty.n h2
  have hk : ∀ g, kv.ownBlock = some g → W1.heap[g]? = W.heap[g]? := fun g e => hs.fr g (row_lt hn.kown g e).1 (fun e' => row_blk_ne hn.kown h.blk (Ne.symm hty.i) (e' ▸ e))
  have hc : ∀ g, cv.ownBlock = some g → W1.heap[g]? = W.heap[g]? := fun g e => hs.fr g (row_lt hn.cown g e).1 (fun e' => row_blk_ne hn.cown h.blk (Ne.symm hty.t) (e' ▸ e))
  exact ⟨hs.at_, ⟨(hs.fr xb hn.lt n1).trans hn.blk, row_kept hn.kown hk, row_kept hn.cown hc, hn.zx⟩, hs.sz, fun b h1 h2 _ _ _ => hs.fr b h1 h2, fun b e => .inl e, fun b e => .inl e⟩
theorem GetS.next (hty : TyOk ty) (h : GetS ty w0 W rb sv B xb kv cv s cs ks its kv1 cv1 W1) (hs : RdS ty w0 W1 rb sv B s1 W2) : GetS ty w0 W rb sv B xb kv cv s1 cs ks its kv1 cv1 W2 := h.trans (GetS.read hty h.rd h.nd hs)
theorem GetS.quiet (h : GetS ty w0 W rb sv B xb kv cv s cs ks its kv1 cv1 W1) (hb : Below W1.heap.size W1 W2) : GetS ty w0 W rb sv B xb kv cv s cs ks its kv1 cv1 W2 :=
  h.trans ⟨h.rd.later hb, h.nd.later hb, hb.size, fun b h1 _ _ _ _ => hb.block b h1, fun b e => .inl e, fun b e => .inl e⟩
/-- a field is set -/
theorem GetS.store (hty : TyOk ty) (h : GetS ty w0 W rb sv B xb kv cv s cs ks its kv1 cv1 W1) (j : Nat) (v : Value) : GetS ty w0 W rb sv B xb kv cv s (cs.setIfInBounds j v) ks its kv1 cv1 (W1.setCell ⟨xb, j, none⟩ v) := by
  have n1 : rb ≠ xb := fun e => by
    have := h.nd.blk
    rw [← e, h.rd.blk] at this
    injection this with this
    injection this with _ h2 _
    exact hty.n h2
  have z := h.sz
  have hot : ∀ b, b ≠ xb → (W1.setCell ⟨xb, j, none⟩ v).heap[b]? = W1.heap[b]? := fun b hb => blk_setCell_other _ _ _ _ (by simpa using hb)
  refine ⟨⟨(hot _ n1).trans h.rd.blk, h.rd.zb, h.rd.be.setCell (p := ⟨xb, j, none⟩) h.nd.zx v, h.rd.src, h.rd.at_, h.rd.len, h.rd.byte⟩, ⟨cells_set h.nd.blk j v, row_kept h.nd.kown fun g e => hot g (fun e' => row_blk_ne h.nd.kown h.nd.blk (by decide) (e' ▸ e)), row_kept h.nd.cown fun g e => hot g (fun e' => row_blk_ne h.nd.cown h.nd.blk (by decide) (e' ▸ e)), h.nd.zx⟩, by simp; omega, fun b h1 h2 h3 h4 h5 => (hot b h3).trans (h.fr b h1 h2 h3 h4 h5), h.kg, h.cg⟩
theorem GetS.cell (h : GetS ty w0 W rb sv B xb kv cv s cs ks its kv1 cv1 W1) {j : Nat} {v : Value} (hv : cs[j]? = some v) : W1.cell? ⟨xb, j, none⟩ = some v := by rw [cell_of_row _ _ _ _ _ _ h.nd.blk]; exact hv
theorem GetS.free (h : GetS ty w0 W rb sv B xb kv cv s cs ks its kv1 cv1 W1) (j : Nat) : W1.frozen? ⟨xb, j, none⟩ = false := frozen_of_row _ _ _ _ _ h.nd.blk
theorem GetS.lt (h : GetS ty w0 W rb sv B xb kv cv s cs ks its kv1 cv1 W1) : xb < W1.heap.size := h.nd.lt
/-- a kid is appended, the field is set -/
theorem GetS.pushK (hty : TyOk ty) (h : GetS ty w0 W rb sv B xb kv cv s cs ks its kv1 cv1 W1) {WA : World} (hb : Below W1.heap.size W1 WA) {v' : Value} {m : Nat} {xs : List Value} {k : Int} (own : W2.ownsRow w0.heap.size 3 1 v' m xs) (hm : m = (ks ++ [k]).length) (hxs : xs = (ks ++ [k]).map (Value.int .i64)) (gr : WA.grownBy W2 kv1.ownBlock) (pl : v'.ownBlock = kv1.ownBlock ∨ v'.ownBlock = some WA.heap.size) : GetS ty w0 W rb sv B xb kv cv s cs (ks ++ [k]) its v' cv1 W2 := by
  subst hm hxs
  have hA := h.quiet hb
  have zg := gr.size
  have zA := hb.size
  have z := h.sz
  have hot : ∀ b, b < WA.heap.size → kv1.ownBlock ≠ some b → W2.heap[b]? = WA.heap[b]? := fun b h1 h2 => gr.block b h1 (fun e => h2 e.symm)
  have hz0 : w0.heap.size ≤ WA.heap.size := by have := hA.rd.zb; have := hA.rd.lt; omega
  refine ⟨⟨(hot _ hA.rd.lt (row_blk_ne hA.nd.kown hA.rd.blk (Ne.symm hty.i))).trans hA.rd.blk, hA.rd.zb, Below.grown hA.rd.be gr hz0 (fun k hk => (row_lt h.nd.kown k hk).2), hA.rd.src, hA.rd.at_, hA.rd.len, hA.rd.byte⟩, ⟨(hot _ hA.nd.lt (row_blk_ne hA.nd.kown hA.nd.blk (by decide))).trans hA.nd.blk, own, row_kept hA.nd.cown fun g e => hot g (row_lt hA.nd.cown g e).1 ?_, hA.nd.zx⟩, by omega, fun b h1 h2 h3 h4 h5 => ?_, fun b e => ?_, h.cg⟩
  · intro e'
    rcases row_ne hA.nd.kown hA.nd.cown (by decide) with e0 | e0
    · rw [e0] at e'; cases e'
    · exact e0 (e'.trans e.symm)
  · rw [hot b (by omega) (fun e => (h.kg b e).elim h4 (fun h => by omega)), hb.block b (by omega)]
    exact h.fr b h1 h2 h3 h4 h5
  · rcases pl with e1 | e1
    · exact h.kg b (e1 ▸ e)
    · rw [e1] at e; injection e with e; exact .inr (by omega)
/-- an item is appended -/
theorem GetS.pushC (hty : TyOk ty) (h : GetS ty w0 W rb sv B xb kv cv s cs ks its kv1 cv1 W1) {WA : World} (hb : Below W1.heap.size W1 WA) {v' : Value} {m : Nat} {xs : List Value} {k : It} (own : W2.ownsRow w0.heap.size 57 5 v' m xs) (hm : m = (its ++ [k]).length) (hxs : xs = itsV (its ++ [k])) (gr : WA.grownBy W2 cv1.ownBlock) (pl : v'.ownBlock = cv1.ownBlock ∨ v'.ownBlock = some WA.heap.size) : GetS ty w0 W rb sv B xb kv cv s cs ks (its ++ [k]) kv1 v' W2 := by
  subst hm hxs
  have hA := h.quiet hb
  have zg := gr.size
  have zA := hb.size
  have z := h.sz
  have hot : ∀ b, b < WA.heap.size → cv1.ownBlock ≠ some b → W2.heap[b]? = WA.heap[b]? := fun b h1 h2 => gr.block b h1 (fun e => h2 e.symm)
  have hz0 : w0.heap.size ≤ WA.heap.size := by have := hA.rd.zb; have := hA.rd.lt; omega
  refine ⟨⟨(hot _ hA.rd.lt (row_blk_ne hA.nd.cown hA.rd.blk (Ne.symm hty.t))).trans hA.rd.blk, hA.rd.zb, Below.grown hA.rd.be gr hz0 (fun k hk => (row_lt h.nd.cown k hk).2), hA.rd.src, hA.rd.at_, hA.rd.len, hA.rd.byte⟩, ⟨(hot _ hA.nd.lt (row_blk_ne hA.nd.cown hA.nd.blk (by decide))).trans hA.nd.blk, row_kept hA.nd.kown fun g e => hot g (row_lt hA.nd.kown g e).1 ?_, own, hA.nd.zx⟩, by omega, fun b h1 h2 h3 h4 h5 => ?_, h.kg, fun b e => ?_⟩
  · intro e'
    rcases row_ne hA.nd.kown hA.nd.cown (by decide) with e0 | e0
    · rw [e0] at e; cases e
    · exact e0 (e.trans e'.symm)
  · rw [hot b (by omega) (fun e => (h.cg b e).elim h5 (fun h => by omega)), hb.block b (by omega)]
    exact h.fr b h1 h2 h3 h4 h5
  · rcases pl with e1 | e1
    · exact h.cg b (e1 ▸ e)
    · rw [e1] at e; injection e with e; exact .inr (by omega)
end
/-- what is read goes on -/
theorem octR_adv {m : Int} {B : List Int} {s : Rs} (h : (octR m B s).2.code = 0) : s.code = 0 ∧ (octR m B s).2.at_ = s.at_ + 1 := by
  by_cases h0 : s.code = 0
  · refine ⟨h0, ?_⟩
    rcases Nat.lt_or_ge s.at_ B.length with h1 | h1
    · by_cases h2 : m < B.getD s.at_ 0
      · rw [octR_big h0 h1 h2] at h; exact absurd h (by simp)
      · rw [octR_ok h0 h1 (by omega)]
    · rw [octR_end h0 h1] at h; exact absurd h (by simp)
  · rw [octR_no h0] at h; exact absurd h h0
theorem failS_code {c a : Int} {s : Rs} (hc : c ≠ 0) : (failS c a s).code ≠ 0 := by
  by_cases h : s.code = 0
  · rw [failS_yes h]; exact hc
  · rw [failS_no h]; exact h
theorem numGo_adv {start : Nat} {B : List Int} : ∀ (f i : Nat) (n : Int) (s : Rs), (numGo start f i n B s).2.code = 0 → s.code = 0 ∧ s.at_ + 1 ≤ (numGo start f i n B s).2.at_
  | 0, i, n, s, h => absurd h (failS_code (by decide))
  | f + 1, i, n, s, h => by
    by_cases hc : (octR 255 B s).2.code = 0
    · obtain ⟨h0, h1⟩ := octR_adv hc
      refine ⟨h0, ?_⟩
      by_cases hl : (octR 255 B s).1 < 128
      · by_cases hb : (0 < i ∧ (octR 255 B s).1 = 0) ∨ 2147483648 ≤ n + (octR 255 B s).1 % 128 * 128 ^ i
        · rw [numGo_bad hc hl hb] at h; exact absurd h (failS_code (by decide))
        · rw [numGo_end hc hl hb]; simp only; omega
      · rw [numGo_next hc hl] at h ⊢
        have := numGo_adv f (i + 1) _ _ h
        omega
    · rw [numGo_no hc] at h; exact absurd h hc
theorem numR_adv {B : List Int} {s : Rs} (h : (numR B s).2.code = 0) : s.code = 0 ∧ s.at_ + 1 ≤ (numR B s).2.at_ := numGo_adv 5 0 0 s h
theorem itR_adv {B : List Int} {s : Rs} (h : (itR B s).2.code = 0) : s.code = 0 ∧ s.at_ + 1 ≤ (itR B s).2.at_ := by
  have e : (itR B s).2 = (numR B (numR B (numR B (numR B (octR 127 B s).2).2).2).2).2 := rfl
  rw [e] at h ⊢
  have h1 := numR_adv h
  have h2 := numR_adv h1.1
  have h3 := numR_adv h2.1
  have h4 := numR_adv h3.1
  have h5 := octR_adv h4.1
  exact ⟨h5.1, by omega⟩
/-- what is still to come of a list -/
theorem manyR_step {α : Type} {f : Rdr α} {n : Nat} {B : List Int} {s : Rs} {l : List α} {res : List α × Rs} (h : (l ++ (manyR f (n + 1) B s).1, (manyR f (n + 1) B s).2) = res) (hc : s.code = 0) : ((l ++ [(f B s).1]) ++ (manyR f n B (f B s).2).1, (manyR f n B (f B s).2).2) = res := by
  rw [manyR_succ, if_neg (by rw [hc]; simp)] at h
  rw [← h, List.append_assoc]
  rfl
theorem manyR_zero {α : Type} {f : Rdr α} {B : List Int} {s : Rs} {l : List α} {res : List α × Rs} (h : (l ++ (manyR f 0 B s).1, (manyR f 0 B s).2) = res) : res = (l, s) := by
  rw [← h]
  show (l ++ [], s) = (l, s)
  rw [List.append_nil]
theorem manyR_stop {α : Type} {f : Rdr α} {n : Nat} {B : List Int} {s : Rs} {l : List α} {res : List α × Rs} (h : (l ++ (manyR f n B s).1, (manyR f n B s).2) = res) (hc : s.code ≠ 0) : res = (l, s) := by
  rw [← h]
  cases n with
  | zero => exact manyR_zero rfl
  | succ n => rw [manyR_succ, if_pos hc]; simp
end Go.Proofs.Ytcihihncgpddfaa
