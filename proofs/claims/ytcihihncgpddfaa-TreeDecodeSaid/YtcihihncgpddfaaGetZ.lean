/- GetZ: GetA GetB GetC in one text. -/
import Derived.Test.YtcihihncgpddfaaRdZ
import Derived.Test.YtcihihncgpddfaaAnyZ
import Derived.Test.YtcihihncgpddfaaWrZ
namespace Go.Proofs.Ytcihihncgpddfaa
open Go.RowKit Go.Deep
set_option linter.unusedVariables false
set_option linter.unusedSimpArgs false

def itsV (L : List It) : List Value := L.flatMap itV
theorem itsV_len (L : List It) : (itsV L).length = L.length * 5 := by
  unfold itsV
  induction L with
  | nil => rfl
  | cons a l ih => rw [List.flatMap_cons, List.length_append, ih, List.length_cons]; show 5 + _ = _; omega
theorem itsV_app (L M : List It) : itsV (L ++ M) = itsV L ++ itsV M := by unfold itsV; rw [List.flatMap_append]
/-- a node of the call's own: its cells, its two lists -/
structure NdO (base : Nat) (W : World) (xb : Nat) (cs : Array Value) (ks : List Int) (its : List It) (kv cv : Value) : Prop where
  blk : W.heap[xb]? = some (.cells cs 64 (0, 0))
  kown : W.ownsRow base 3 1 kv ks.length (ks.map (Value.int .i64))
  cown : W.ownsRow base 57 5 cv its.length (itsV its)
  zx : base ≤ xb
structure TyOk (ty : TypeId) : Prop where
  n : ty ≠ 64
  i : ty ≠ 3
  t : ty ≠ 57
/-- what a step of the reading makes of a world -/
structure GetS (ty : TypeId) (w0 W : World) (rb : Nat) (sv : Value) (B : List Int) (xb : Nat) (kv cv : Value) (s : Rs) (cs : Array Value) (ks : List Int) (its : List It) (kv' cv' : Value) (W' : World) : Prop where
  rd : RdAt ty w0 W' rb sv B s
  nd : NdO w0.heap.size W' xb cs ks its kv' cv'
  sz : W.heap.size ≤ W'.heap.size
  fr : ∀ b, b < W.heap.size → b ≠ rb → b ≠ xb → kv.ownBlock ≠ some b → cv.ownBlock ≠ some b → W'.heap[b]? = W.heap[b]?
  kg : ∀ b, kv'.ownBlock = some b → kv.ownBlock = some b ∨ W.heap.size ≤ b
  cg : ∀ b, cv'.ownBlock = some b → cv.ownBlock = some b ∨ W.heap.size ≤ b
theorem row_kept {w w' : World} {base : Nat} {t : TypeId} {k : Nat} {v : Value} {n : Nat} {xs : List Value} (h : w.ownsRow base t k v n xs) (hb : ∀ g, v.ownBlock = some g → w'.heap[g]? = w.heap[g]?) : w'.ownsRow base t k v n xs := by
  obtain ⟨hl, h | ⟨g, cap, cur, e, hb', hh, hr⟩⟩ := h
  · exact ⟨hl, .inl h⟩
  · exact ⟨hl, .inr ⟨g, cap, cur, e, hb', (hb g (by rw [e]; rfl)).trans hh, hr⟩⟩
section
variable {ty : TypeId} {w0 W W1 W2 : World} {rb xb : Nat} {sv kv cv kv1 cv1 kv2 cv2 : Value} {B : List Int} {s s1 s2 : Rs} {cs cs1 cs2 : Array Value} {ks ks1 ks2 : List Int} {its its1 its2 : List It}
theorem NdO.lt {base : Nat} (h : NdO base W xb cs ks its kv cv) : xb < W.heap.size := lt_of_block h.blk
theorem NdO.later {base : Nat} (h : NdO base W xb cs ks its kv cv) (hb : Below W.heap.size W W1) : NdO base W1 xb cs ks its kv cv :=
  ⟨(hb.block _ h.lt).trans h.blk, row_later h.kown hb, row_later h.cown hb, h.zx⟩
theorem GetS.refl (h : RdAt ty w0 W rb sv B s) (hn : NdO w0.heap.size W xb cs ks its kv cv) : GetS ty w0 W rb sv B xb kv cv s cs ks its kv cv W :=
  ⟨h, hn, Nat.le_refl _, fun _ _ _ _ _ _ => rfl, fun b e => .inl e, fun b e => .inl e⟩
theorem GetS.trans (h : GetS ty w0 W rb sv B xb kv cv s1 cs1 ks1 its1 kv1 cv1 W1) (h' : GetS ty w0 W1 rb sv B xb kv1 cv1 s2 cs2 ks2 its2 kv2 cv2 W2) : GetS ty w0 W rb sv B xb kv cv s2 cs2 ks2 its2 kv2 cv2 W2 := by
  have z := h.sz
  have z' := h'.sz
  refine ⟨h'.rd, h'.nd, by omega, fun b h1 h2 h3 h4 h5 => ?_, fun b e => ?_, fun b e => ?_⟩
  · refine (h'.fr b (by omega) h2 h3 (fun e => ?_) (fun e => ?_)).trans (h.fr b h1 h2 h3 h4 h5)
    · rcases h.kg b e with e | e
      · exact h4 e
      · omega
    · rcases h.cg b e with e | e
      · exact h5 e
      · omega
  · rcases h'.kg b e with e | e
    · exact h.kg b e
    · exact .inr (by omega)
  · rcases h'.cg b e with e | e
    · exact h.cg b e
    · exact .inr (by omega)
/-- the reader alone has worked -/
theorem GetS.read (hty : TyOk ty) (h : RdAt ty w0 W rb sv B s) (hn : NdO w0.heap.size W xb cs ks its kv cv) (hs : RdS ty w0 W rb sv B s1 W1) : GetS ty w0 W rb sv B xb kv cv s1 cs ks its kv cv W1 := by
  have n1 : xb ≠ rb := fun e => by
    have := hn.blk
    rw [e, h.blk] at this
    injection this with this
    injection this with _ h2 _
    exact hty.n h2
  have hk : ∀ g, kv.ownBlock = some g → W1.heap[g]? = W.heap[g]? := fun g e => hs.fr g (row_lt hn.kown g e).1 (fun e' => row_blk_ne hn.kown h.blk (Ne.symm hty.i) (e' ▸ e))
  have hc : ∀ g, cv.ownBlock = some g → W1.heap[g]? = W.heap[g]? := fun g e => hs.fr g (row_lt hn.cown g e).1 (fun e' => row_blk_ne hn.cown h.blk (Ne.symm hty.t) (e' ▸ e))
  exact ⟨hs.at_, ⟨(hs.fr xb hn.lt n1).trans hn.blk, row_kept hn.kown hk, row_kept hn.cown hc, hn.zx⟩, hs.sz, fun b h1 h2 _ _ _ => hs.fr b h1 h2, fun b e => .inl e, fun b e => .inl e⟩
theorem GetS.next (hty : TyOk ty) (h : GetS ty w0 W rb sv B xb kv cv s cs ks its kv1 cv1 W1) (hs : RdS ty w0 W1 rb sv B s1 W2) : GetS ty w0 W rb sv B xb kv cv s1 cs ks its kv1 cv1 W2 := h.trans (GetS.read hty h.rd h.nd hs)
theorem GetS.quiet (h : GetS ty w0 W rb sv B xb kv cv s cs ks its kv1 cv1 W1) (hb : Below W1.heap.size W1 W2) : GetS ty w0 W rb sv B xb kv cv s cs ks its kv1 cv1 W2 :=
  h.trans ⟨h.rd.later hb, h.nd.later hb, hb.size, fun b h1 _ _ _ _ => hb.block b h1, fun b e => .inl e, fun b e => .inl e⟩
/-- a field is set -/
theorem GetS.store (hty : TyOk ty) (h : GetS ty w0 W rb sv B xb kv cv s cs ks its kv1 cv1 W1) (j : Nat) (v : Value) : GetS ty w0 W rb sv B xb kv cv s (cs.setIfInBounds j v) ks its kv1 cv1 (W1.setCell ⟨xb, j, none⟩ v) := by
  have n1 : rb ≠ xb := fun e => by
    have := h.nd.blk
    rw [← e, h.rd.blk] at this
    injection this with this
    injection this with _ h2 _
    exact hty.n h2
  have z := h.sz
  have hot : ∀ b, b ≠ xb → (W1.setCell ⟨xb, j, none⟩ v).heap[b]? = W1.heap[b]? := fun b hb => blk_setCell_other _ _ _ _ (by simpa using hb)
  refine ⟨⟨(hot _ n1).trans h.rd.blk, h.rd.zb, h.rd.be.setCell (p := ⟨xb, j, none⟩) h.nd.zx v, h.rd.src, h.rd.at_, h.rd.len, h.rd.byte⟩, ⟨cells_set h.nd.blk j v, row_kept h.nd.kown fun g e => hot g (fun e' => row_blk_ne h.nd.kown h.nd.blk (by decide) (e' ▸ e)), row_kept h.nd.cown fun g e => hot g (fun e' => row_blk_ne h.nd.cown h.nd.blk (by decide) (e' ▸ e)), h.nd.zx⟩, by simp; omega, fun b h1 h2 h3 h4 h5 => (hot b h3).trans (h.fr b h1 h2 h3 h4 h5), h.kg, h.cg⟩
theorem GetS.cell (h : GetS ty w0 W rb sv B xb kv cv s cs ks its kv1 cv1 W1) {j : Nat} {v : Value} (hv : cs[j]? = some v) : W1.cell? ⟨xb, j, none⟩ = some v := by rw [cell_of_row _ _ _ _ _ _ h.nd.blk]; exact hv
theorem GetS.free (h : GetS ty w0 W rb sv B xb kv cv s cs ks its kv1 cv1 W1) (j : Nat) : W1.frozen? ⟨xb, j, none⟩ = false := frozen_of_row _ _ _ _ _ h.nd.blk
theorem GetS.lt (h : GetS ty w0 W rb sv B xb kv cv s cs ks its kv1 cv1 W1) : xb < W1.heap.size := h.nd.lt
/-- a kid is appended, the field is set -/
theorem GetS.pushK (hty : TyOk ty) (h : GetS ty w0 W rb sv B xb kv cv s cs ks its kv1 cv1 W1) {WA : World} (hb : Below W1.heap.size W1 WA) {v' : Value} {m : Nat} {xs : List Value} {k : Int} (own : W2.ownsRow w0.heap.size 3 1 v' m xs) (hm : m = (ks ++ [k]).length) (hxs : xs = (ks ++ [k]).map (Value.int .i64)) (gr : WA.grownBy W2 kv1.ownBlock) (pl : v'.ownBlock = kv1.ownBlock ∨ v'.ownBlock = some WA.heap.size) : GetS ty w0 W rb sv B xb kv cv s cs (ks ++ [k]) its v' cv1 W2 := by
  subst hm hxs
  have hA := h.quiet hb
  have zg := gr.size
  have zA := hb.size
  have z := h.sz
  have hot : ∀ b, b < WA.heap.size → kv1.ownBlock ≠ some b → W2.heap[b]? = WA.heap[b]? := fun b h1 h2 => gr.block b h1 (fun e => h2 e.symm)
  have hz0 : w0.heap.size ≤ WA.heap.size := by have := hA.rd.zb; have := hA.rd.lt; omega
  refine ⟨⟨(hot _ hA.rd.lt (row_blk_ne hA.nd.kown hA.rd.blk (Ne.symm hty.i))).trans hA.rd.blk, hA.rd.zb, Below.grown hA.rd.be gr hz0 (fun k hk => (row_lt h.nd.kown k hk).2), hA.rd.src, hA.rd.at_, hA.rd.len, hA.rd.byte⟩, ⟨(hot _ hA.nd.lt (row_blk_ne hA.nd.kown hA.nd.blk (by decide))).trans hA.nd.blk, own, row_kept hA.nd.cown fun g e => hot g (row_lt hA.nd.cown g e).1 ?_, hA.nd.zx⟩, by omega, fun b h1 h2 h3 h4 h5 => ?_, fun b e => ?_, h.cg⟩
  · intro e'
    rcases row_ne hA.nd.kown hA.nd.cown (by decide) with e0 | e0
    · rw [e0] at e'; cases e'
    · exact e0 (e'.trans e.symm)
  · rw [hot b (by omega) (fun e => (h.kg b e).elim h4 (fun h => by omega)), hb.block b (by omega)]
    exact h.fr b h1 h2 h3 h4 h5
  · rcases pl with e1 | e1
    · exact h.kg b (e1 ▸ e)
    · rw [e1] at e; injection e with e; exact .inr (by omega)
/-- an item is appended -/
theorem GetS.pushC (hty : TyOk ty) (h : GetS ty w0 W rb sv B xb kv cv s cs ks its kv1 cv1 W1) {WA : World} (hb : Below W1.heap.size W1 WA) {v' : Value} {m : Nat} {xs : List Value} {k : It} (own : W2.ownsRow w0.heap.size 57 5 v' m xs) (hm : m = (its ++ [k]).length) (hxs : xs = itsV (its ++ [k])) (gr : WA.grownBy W2 cv1.ownBlock) (pl : v'.ownBlock = cv1.ownBlock ∨ v'.ownBlock = some WA.heap.size) : GetS ty w0 W rb sv B xb kv cv s cs ks (its ++ [k]) kv1 v' W2 := by
  subst hm hxs
  have hA := h.quiet hb
  have zg := gr.size
  have zA := hb.size
  have z := h.sz
  have hot : ∀ b, b < WA.heap.size → cv1.ownBlock ≠ some b → W2.heap[b]? = WA.heap[b]? := fun b h1 h2 => gr.block b h1 (fun e => h2 e.symm)
  have hz0 : w0.heap.size ≤ WA.heap.size := by have := hA.rd.zb; have := hA.rd.lt; omega
  refine ⟨⟨(hot _ hA.rd.lt (row_blk_ne hA.nd.cown hA.rd.blk (Ne.symm hty.t))).trans hA.rd.blk, hA.rd.zb, Below.grown hA.rd.be gr hz0 (fun k hk => (row_lt h.nd.cown k hk).2), hA.rd.src, hA.rd.at_, hA.rd.len, hA.rd.byte⟩, ⟨(hot _ hA.nd.lt (row_blk_ne hA.nd.cown hA.nd.blk (by decide))).trans hA.nd.blk, row_kept hA.nd.kown fun g e => hot g (row_lt hA.nd.kown g e).1 ?_, own, hA.nd.zx⟩, by omega, fun b h1 h2 h3 h4 h5 => ?_, h.kg, fun b e => ?_⟩
  · intro e'
    rcases row_ne hA.nd.kown hA.nd.cown (by decide) with e0 | e0
    · rw [e0] at e; cases e
    · exact e0 (e.trans e'.symm)
  · rw [hot b (by omega) (fun e => (h.cg b e).elim h5 (fun h => by omega)), hb.block b (by omega)]
    exact h.fr b h1 h2 h3 h4 h5
  · rcases pl with e1 | e1
    · exact h.cg b (e1 ▸ e)
    · rw [e1] at e; injection e with e; exact .inr (by omega)
end
/-- what is read goes on -/
theorem octR_adv {m : Int} {B : List Int} {s : Rs} (h : (octR m B s).2.code = 0) : s.code = 0 ∧ (octR m B s).2.at_ = s.at_ + 1 := by
  by_cases h0 : s.code = 0
  · refine ⟨h0, ?_⟩
    rcases Nat.lt_or_ge s.at_ B.length with h1 | h1
    · by_cases h2 : m < B.getD s.at_ 0
      · rw [octR_big h0 h1 h2] at h; exact absurd h (by simp)
      · rw [octR_ok h0 h1 (by omega)]
    · rw [octR_end h0 h1] at h; exact absurd h (by simp)
  · rw [octR_no h0] at h; exact absurd h h0
theorem failS_code {c a : Int} {s : Rs} (hc : c ≠ 0) : (failS c a s).code ≠ 0 := by
  by_cases h : s.code = 0
  · rw [failS_yes h]; exact hc
  · rw [failS_no h]; exact h
theorem numGo_adv {start : Nat} {B : List Int} : ∀ (f i : Nat) (n : Int) (s : Rs), (numGo start f i n B s).2.code = 0 → s.code = 0 ∧ s.at_ + 1 ≤ (numGo start f i n B s).2.at_
  | 0, i, n, s, h => absurd h (failS_code (by decide))
  | f + 1, i, n, s, h => by
    by_cases hc : (octR 255 B s).2.code = 0
    · obtain ⟨h0, h1⟩ := octR_adv hc
      refine ⟨h0, ?_⟩
      by_cases hl : (octR 255 B s).1 < 128
      · by_cases hb : (0 < i ∧ (octR 255 B s).1 = 0) ∨ 2147483648 ≤ n + (octR 255 B s).1 % 128 * 128 ^ i
        · rw [numGo_bad hc hl hb] at h; exact absurd h (failS_code (by decide))
        · rw [numGo_end hc hl hb]; simp only; omega
      · rw [numGo_next hc hl] at h ⊢
        have := numGo_adv f (i + 1) _ _ h
        omega
    · rw [numGo_no hc] at h; exact absurd h hc
theorem numR_adv {B : List Int} {s : Rs} (h : (numR B s).2.code = 0) : s.code = 0 ∧ s.at_ + 1 ≤ (numR B s).2.at_ := numGo_adv 5 0 0 s h
theorem itR_adv {B : List Int} {s : Rs} (h : (itR B s).2.code = 0) : s.code = 0 ∧ s.at_ + 1 ≤ (itR B s).2.at_ := by
  have e : (itR B s).2 = (numR B (numR B (numR B (numR B (octR 127 B s).2).2).2).2).2 := rfl
  rw [e] at h ⊢
  have h1 := numR_adv h
  have h2 := numR_adv h1.1
  have h3 := numR_adv h2.1
  have h4 := numR_adv h3.1
  have h5 := octR_adv h4.1
  exact ⟨h5.1, by omega⟩
/-- what is still to come of a list -/
theorem manyR_step {α : Type} {f : Rdr α} {n : Nat} {B : List Int} {s : Rs} {l : List α} {res : List α × Rs} (h : (l ++ (manyR f (n + 1) B s).1, (manyR f (n + 1) B s).2) = res) (hc : s.code = 0) : ((l ++ [(f B s).1]) ++ (manyR f n B (f B s).2).1, (manyR f n B (f B s).2).2) = res := by
  rw [manyR_succ, if_neg (by rw [hc]; simp)] at h
  rw [← h, List.append_assoc]
  rfl
theorem manyR_zero {α : Type} {f : Rdr α} {B : List Int} {s : Rs} {l : List α} {res : List α × Rs} (h : (l ++ (manyR f 0 B s).1, (manyR f 0 B s).2) = res) : res = (l, s) := by
  rw [← h]
  show (l ++ [], s) = (l, s)
  rw [List.append_nil]
theorem manyR_stop {α : Type} {f : Rdr α} {n : Nat} {B : List Int} {s : Rs} {l : List α} {res : List α × Rs} (h : (l ++ (manyR f n B s).1, (manyR f n B s).2) = res) (hc : s.code ≠ 0) : res = (l, s) := by
  rw [← h]
  cases n with
  | zero => exact manyR_zero rfl
  | succ n => rw [manyR_succ, if_pos hc]; simp
end Go.Proofs.Ytcihihncgpddfaa
namespace Go.Proofs.Ytcihihncgpddfaa
open Go.RowKit Go.Deep
set_option linter.unusedVariables false
set_option linter.unusedSimpArgs false

theorem tyRd : TyOk 100 := ⟨by decide, by decide, by decide⟩
/-- what a closure leaves -/
def GetPost (ty : TypeId) (w0 W : World) (rb : Nat) (sv : Value) (B : List Int) (xb : Nat) (kv cv : Value) (r : Nd × Rs) (e : Ending) (W' : World) : Prop := e = .returned (.tuple #[]) ∧ ∃ kv' cv', GetS ty w0 W rb sv B xb kv cv r.2 (ndV r.1 kv' cv').toArray r.1.kids r.1.cols kv' cv' W'
theorem get_mk {ty : TypeId} {w0 W W' : World} {rb xb : Nat} {sv kv cv kv' cv' : Value} {B : List Int} {r : Nd × Rs} {y : Nd} {s : Rs} (h : r = (y, s)) (hs : GetS ty w0 W rb sv B xb kv cv s (ndV y kv' cv').toArray y.kids y.cols kv' cv' W') : GetPost ty w0 W rb sv B xb kv cv r (.returned (.tuple #[])) W' := by subst h; exact ⟨rfl, kv', cv', hs⟩
theorem octR_u (m : Int) {B : List Int} (hB : Byte8 B) (s : Rs) (hm : 0 ≤ m) : 0 ≤ (octR m B s).1 ∧ (octR m B s).1 ≤ m ∧ (octR m B s).1 ≤ 255 := by
  rcases octR_sum m hB s with ⟨_, h⟩ | ⟨_, h1, h2, h3, _⟩
  · rw [h]; exact ⟨by omega, hm, by omega⟩
  · exact ⟨h1, h3, h2⟩
theorem unS_range {n : Int} (h : 0 ≤ n) (h' : n < 2147483648) : -2147483648 ≤ unS n ∧ unS n < 2147483648 := by unfold unS; split <;> omega
set_option maxRecDepth 100000 in
set_option maxHeartbeats 8000000 in
theorem get0 (w0 W : World) (rb : Nat) (sv : Value) (B : List Int) (s : Rs) (xb : Nat) (y : Nd) (kv cv : Value) (hr : RdAt 100 w0 W rb sv B s) (hn : NdO w0.heap.size W xb (ndV y kv cv).toArray y.kids y.cols kv cv) : Calls Try.prog 75 #[.pointer (some ⟨rb, 0, none⟩), .pointer (some ⟨xb, 0, none⟩)] W (GetPost 100 w0 W rb sv B xb kv cv (partR y 0 B s)) := by
  have hby := hr.byte
  have H0 := Lib.hid (GetS.refl hr hn)
  clear hr hn
  have HC := Lib.hid (rd_octet w0 W rb sv B s 127 H0.out.rd)
  obtain ⟨r1, hr1⟩ : ∃ r, r = octR 127 B s := ⟨_, rfl⟩
  rw [← hr1] at HC
  have hb1 := octR_u 127 hby s (by decide)
  rw [← hr1] at hb1
  have HR1 := Lib.hid hr1
  obtain ⟨v1, s1⟩ := r1
  simp only at hb1
  obtain ⟨hb1a, hb1b, hb1c⟩ := hb1
  clear hr1
  have E := Lib.hid (show partR y 0 B s = ({ y with kind := v1 }, s1) from by show (_, _) = _; rw [← HR1.out])
  go_enter Try.func75, Try.ntmps75
  go_wp2_with fail
  refine HC.out.mono ?_
  clear HC
  rintro e w1 ⟨rfl, hs⟩
  have H1 := Lib.hid (H0.out.next tyRd hs)
  clear hs
  simp only [itV] at H1 ⊢
  have c0 : w1.cell? ⟨xb, 0, none⟩ = some (.int .i8 y.kind) := H1.out.cell rfl
  have f0 := H1.out.free 0
  have zx := H1.out.lt
  have HF := Lib.hid ((H1.out.store tyRd 0 (.int .i8 v1)))
  clear H0 H1
  go_wp2
  first | exact bodyPost_end (v := .tuple #[]) (results_none rfl _ _ _) rfl (get_mk E.out HF.out) | exact bodyPost_ret (v := .tuple #[]) (results_none rfl _ _ _) rfl (get_mk E.out HF.out)
set_option maxRecDepth 100000 in
set_option maxHeartbeats 8000000 in
theorem get1 (w0 W : World) (rb : Nat) (sv : Value) (B : List Int) (s : Rs) (xb : Nat) (y : Nd) (kv cv : Value) (hr : RdAt 100 w0 W rb sv B s) (hn : NdO w0.heap.size W xb (ndV y kv cv).toArray y.kids y.cols kv cv) : Calls Try.prog 78 #[.pointer (some ⟨rb, 0, none⟩), .pointer (some ⟨xb, 0, none⟩)] W (GetPost 100 w0 W rb sv B xb kv cv (partR y 1 B s)) := by
  have hby := hr.byte
  have H0 := Lib.hid (GetS.refl hr hn)
  clear hr hn
  have HC := Lib.hid (rd_text w0 W rb sv B s H0.out.rd)
  obtain ⟨r1, hr1⟩ : ∃ r, r = txtR B s := ⟨_, rfl⟩
  rw [← hr1] at HC
  have HR1 := Lib.hid hr1
  obtain ⟨v1, s1⟩ := r1
  clear hr1
  have E := Lib.hid (show partR y 1 B s = ({ y with id := v1 }, s1) from by show (_, _) = _; rw [← HR1.out])
  go_enter Try.func78, Try.ntmps78
  go_wp2_with fail
  refine HC.out.mono ?_
  clear HC
  rintro e w1 ⟨rfl, hs⟩
  have H1 := Lib.hid (H0.out.next tyRd hs)
  clear hs
  simp only [itV] at H1 ⊢
  have c1 : w1.cell? ⟨xb, 1, none⟩ = some (.string y.id) := H1.out.cell rfl
  have f1 := H1.out.free 1
  have zx := H1.out.lt
  have HF := Lib.hid ((H1.out.store tyRd 1 (.string v1)))
  clear H0 H1
  go_wp2
  first | exact bodyPost_end (v := .tuple #[]) (results_none rfl _ _ _) rfl (get_mk E.out HF.out) | exact bodyPost_ret (v := .tuple #[]) (results_none rfl _ _ _) rfl (get_mk E.out HF.out)
set_option maxRecDepth 100000 in
set_option maxHeartbeats 8000000 in
theorem get2 (w0 W : World) (rb : Nat) (sv : Value) (B : List Int) (s : Rs) (xb : Nat) (y : Nd) (kv cv : Value) (hr : RdAt 100 w0 W rb sv B s) (hn : NdO w0.heap.size W xb (ndV y kv cv).toArray y.kids y.cols kv cv) : Calls Try.prog 81 #[.pointer (some ⟨rb, 0, none⟩), .pointer (some ⟨xb, 0, none⟩)] W (GetPost 100 w0 W rb sv B xb kv cv (partR y 2 B s)) := by
  have hby := hr.byte
  have H0 := Lib.hid (GetS.refl hr hn)
  clear hr hn
  have HC := Lib.hid (rd_text w0 W rb sv B s H0.out.rd)
  obtain ⟨r1, hr1⟩ : ∃ r, r = txtR B s := ⟨_, rfl⟩
  rw [← hr1] at HC
  have HR1 := Lib.hid hr1
  obtain ⟨v1, s1⟩ := r1
  clear hr1
  have E := Lib.hid (show partR y 2 B s = ({ y with cls := v1 }, s1) from by show (_, _) = _; rw [← HR1.out])
  go_enter Try.func81, Try.ntmps81
  go_wp2_with fail
  refine HC.out.mono ?_
  clear HC
  rintro e w1 ⟨rfl, hs⟩
  have H1 := Lib.hid (H0.out.next tyRd hs)
  clear hs
  simp only [itV] at H1 ⊢
  have c2 : w1.cell? ⟨xb, 2, none⟩ = some (.string y.cls) := H1.out.cell rfl
  have f2 := H1.out.free 2
  have zx := H1.out.lt
  have HF := Lib.hid ((H1.out.store tyRd 2 (.string v1)))
  clear H0 H1
  go_wp2
  first | exact bodyPost_end (v := .tuple #[]) (results_none rfl _ _ _) rfl (get_mk E.out HF.out) | exact bodyPost_ret (v := .tuple #[]) (results_none rfl _ _ _) rfl (get_mk E.out HF.out)
set_option maxRecDepth 100000 in
set_option maxHeartbeats 8000000 in
theorem get3 (w0 W : World) (rb : Nat) (sv : Value) (B : List Int) (s : Rs) (xb : Nat) (y : Nd) (kv cv : Value) (hr : RdAt 100 w0 W rb sv B s) (hn : NdO w0.heap.size W xb (ndV y kv cv).toArray y.kids y.cols kv cv) : Calls Try.prog 83 #[.pointer (some ⟨rb, 0, none⟩), .pointer (some ⟨xb, 0, none⟩)] W (GetPost 100 w0 W rb sv B xb kv cv (partR y 3 B s)) := by
  have hby := hr.byte
  have H0 := Lib.hid (GetS.refl hr hn)
  clear hr hn
  have HC := Lib.hid (rd_text w0 W rb sv B s H0.out.rd)
  obtain ⟨r1, hr1⟩ : ∃ r, r = txtR B s := ⟨_, rfl⟩
  rw [← hr1] at HC
  have HR1 := Lib.hid hr1
  obtain ⟨v1, s1⟩ := r1
  clear hr1
  have E := Lib.hid (show partR y 3 B s = ({ y with text := v1 }, s1) from by show (_, _) = _; rw [← HR1.out])
  go_enter Try.func83, Try.ntmps83
  go_wp2_with fail
  refine HC.out.mono ?_
  clear HC
  rintro e w1 ⟨rfl, hs⟩
  have H1 := Lib.hid (H0.out.next tyRd hs)
  clear hs
  simp only [itV] at H1 ⊢
  have c22 : w1.cell? ⟨xb, 22, none⟩ = some (.string y.text) := H1.out.cell rfl
  have f22 := H1.out.free 22
  have zx := H1.out.lt
  have HF := Lib.hid ((H1.out.store tyRd 22 (.string v1)))
  clear H0 H1
  go_wp2
  first | exact bodyPost_end (v := .tuple #[]) (results_none rfl _ _ _) rfl (get_mk E.out HF.out) | exact bodyPost_ret (v := .tuple #[]) (results_none rfl _ _ _) rfl (get_mk E.out HF.out)
set_option maxRecDepth 100000 in
set_option maxHeartbeats 8000000 in
theorem get5 (w0 W : World) (rb : Nat) (sv : Value) (B : List Int) (s : Rs) (xb : Nat) (y : Nd) (kv cv : Value) (hr : RdAt 100 w0 W rb sv B s) (hn : NdO w0.heap.size W xb (ndV y kv cv).toArray y.kids y.cols kv cv) : Calls Try.prog 88 #[.pointer (some ⟨rb, 0, none⟩), .pointer (some ⟨xb, 0, none⟩)] W (GetPost 100 w0 W rb sv B xb kv cv (partR y 5 B s)) := by
  have hby := hr.byte
  have H0 := Lib.hid (GetS.refl hr hn)
  clear hr hn
  have HC := Lib.hid (rd_item w0 W rb sv B s H0.out.rd)
  obtain ⟨r1, hr1⟩ : ∃ r, r = itR B s := ⟨_, rfl⟩
  rw [← hr1] at HC
  have HR1 := Lib.hid hr1
  obtain ⟨v1, s1⟩ := r1
  clear hr1
  obtain ⟨k1, n1, d1, l1, h1⟩ := v1
  have E := Lib.hid (show partR y 5 B s = ({ y with iw := ⟨k1, n1, d1, l1, h1⟩ }, s1) from by show (_, _) = _; rw [← HR1.out])
  go_enter Try.func88, Try.ntmps88
  go_wp2_with fail
  refine HC.out.mono ?_
  clear HC
  rintro e w1 ⟨rfl, hs⟩
  have H1 := Lib.hid (H0.out.next tyRd hs)
  clear hs
  simp only [itV] at H1 ⊢
  have c4 : w1.cell? ⟨xb, 4, none⟩ = some (.int .i8 y.iw.k) := H1.out.cell rfl
  have f4 := H1.out.free 4
  have c5 : w1.cell? ⟨xb, 5, none⟩ = some (.int .i64 y.iw.n) := H1.out.cell rfl
  have f5 := H1.out.free 5
  have c6 : w1.cell? ⟨xb, 6, none⟩ = some (.int .i64 y.iw.d) := H1.out.cell rfl
  have f6 := H1.out.free 6
  have c7 : w1.cell? ⟨xb, 7, none⟩ = some (.int .i64 y.iw.lo) := H1.out.cell rfl
  have f7 := H1.out.free 7
  have c8 : w1.cell? ⟨xb, 8, none⟩ = some (.int .i64 y.iw.hi) := H1.out.cell rfl
  have f8 := H1.out.free 8
  have zx := H1.out.lt
  have HF := Lib.hid ((((((H1.out.store tyRd 4 (.int .i8 k1)).store tyRd 5 (.int .i64 n1)).store tyRd 6 (.int .i64 d1)).store tyRd 7 (.int .i64 l1)).store tyRd 8 (.int .i64 h1)))
  clear H0 H1
  go_wp2
  first | exact bodyPost_end (v := .tuple #[]) (results_none rfl _ _ _) rfl (get_mk E.out HF.out) | exact bodyPost_ret (v := .tuple #[]) (results_none rfl _ _ _) rfl (get_mk E.out HF.out)
set_option maxRecDepth 100000 in
set_option maxHeartbeats 8000000 in
theorem get6 (w0 W : World) (rb : Nat) (sv : Value) (B : List Int) (s : Rs) (xb : Nat) (y : Nd) (kv cv : Value) (hr : RdAt 100 w0 W rb sv B s) (hn : NdO w0.heap.size W xb (ndV y kv cv).toArray y.kids y.cols kv cv) : Calls Try.prog 91 #[.pointer (some ⟨rb, 0, none⟩), .pointer (some ⟨xb, 0, none⟩)] W (GetPost 100 w0 W rb sv B xb kv cv (partR y 6 B s)) := by
  have hby := hr.byte
  have H0 := Lib.hid (GetS.refl hr hn)
  clear hr hn
  have HC := Lib.hid (rd_item w0 W rb sv B s H0.out.rd)
  obtain ⟨r1, hr1⟩ : ∃ r, r = itR B s := ⟨_, rfl⟩
  rw [← hr1] at HC
  have HR1 := Lib.hid hr1
  obtain ⟨v1, s1⟩ := r1
  clear hr1
  obtain ⟨k1, n1, d1, l1, h1⟩ := v1
  have E := Lib.hid (show partR y 6 B s = ({ y with ih := ⟨k1, n1, d1, l1, h1⟩ }, s1) from by show (_, _) = _; rw [← HR1.out])
  go_enter Try.func91, Try.ntmps91
  go_wp2_with fail
  refine HC.out.mono ?_
  clear HC
  rintro e w1 ⟨rfl, hs⟩
  have H1 := Lib.hid (H0.out.next tyRd hs)
  clear hs
  simp only [itV] at H1 ⊢
  have c9 : w1.cell? ⟨xb, 9, none⟩ = some (.int .i8 y.ih.k) := H1.out.cell rfl
  have f9 := H1.out.free 9
  have c10 : w1.cell? ⟨xb, 10, none⟩ = some (.int .i64 y.ih.n) := H1.out.cell rfl
  have f10 := H1.out.free 10
  have c11 : w1.cell? ⟨xb, 11, none⟩ = some (.int .i64 y.ih.d) := H1.out.cell rfl
  have f11 := H1.out.free 11
  have c12 : w1.cell? ⟨xb, 12, none⟩ = some (.int .i64 y.ih.lo) := H1.out.cell rfl
  have f12 := H1.out.free 12
  have c13 : w1.cell? ⟨xb, 13, none⟩ = some (.int .i64 y.ih.hi) := H1.out.cell rfl
  have f13 := H1.out.free 13
  have zx := H1.out.lt
  have HF := Lib.hid ((((((H1.out.store tyRd 9 (.int .i8 k1)).store tyRd 10 (.int .i64 n1)).store tyRd 11 (.int .i64 d1)).store tyRd 12 (.int .i64 l1)).store tyRd 13 (.int .i64 h1)))
  clear H0 H1
  go_wp2
  first | exact bodyPost_end (v := .tuple #[]) (results_none rfl _ _ _) rfl (get_mk E.out HF.out) | exact bodyPost_ret (v := .tuple #[]) (results_none rfl _ _ _) rfl (get_mk E.out HF.out)
set_option maxRecDepth 100000 in
set_option maxHeartbeats 8000000 in
theorem get7 (w0 W : World) (rb : Nat) (sv : Value) (B : List Int) (s : Rs) (xb : Nat) (y : Nd) (kv cv : Value) (hr : RdAt 100 w0 W rb sv B s) (hn : NdO w0.heap.size W xb (ndV y kv cv).toArray y.kids y.cols kv cv) : Calls Try.prog 93 #[.pointer (some ⟨rb, 0, none⟩), .pointer (some ⟨xb, 0, none⟩)] W (GetPost 100 w0 W rb sv B xb kv cv (partR y 7 B s)) := by
  have hby := hr.byte
  have H0 := Lib.hid (GetS.refl hr hn)
  clear hr hn
  have HC := Lib.hid (rd_number w0 W rb sv B s H0.out.rd)
  obtain ⟨r1, hr1⟩ : ∃ r, r = numR B s := ⟨_, rfl⟩
  rw [← hr1] at HC
  have hb1 := numR_range hby s
  rw [← hr1] at hb1
  have HR1 := Lib.hid hr1
  obtain ⟨v1, s1⟩ := r1
  simp only at hb1
  obtain ⟨hb1a, hb1b⟩ := hb1
  clear hr1
  have E := Lib.hid (show partR y 7 B s = ({ y with gap := v1 }, s1) from by show (_, _) = _; rw [← HR1.out])
  go_enter Try.func93, Try.ntmps93
  go_wp2_with fail
  refine HC.out.mono ?_
  clear HC
  rintro e w1 ⟨rfl, hs⟩
  have H1 := Lib.hid (H0.out.next tyRd hs)
  clear hs
  simp only [itV] at H1 ⊢
  have c14 : w1.cell? ⟨xb, 14, none⟩ = some (.int .i64 y.gap) := H1.out.cell rfl
  have f14 := H1.out.free 14
  have zx := H1.out.lt
  have HF := Lib.hid ((H1.out.store tyRd 14 (.int .i64 v1)))
  clear H0 H1
  go_wp2
  first | exact bodyPost_end (v := .tuple #[]) (results_none rfl _ _ _) rfl (get_mk E.out HF.out) | exact bodyPost_ret (v := .tuple #[]) (results_none rfl _ _ _) rfl (get_mk E.out HF.out)
set_option maxRecDepth 100000 in
set_option maxHeartbeats 8000000 in
theorem get9 (w0 W : World) (rb : Nat) (sv : Value) (B : List Int) (s : Rs) (xb : Nat) (y : Nd) (kv cv : Value) (hr : RdAt 100 w0 W rb sv B s) (hn : NdO w0.heap.size W xb (ndV y kv cv).toArray y.kids y.cols kv cv) : Calls Try.prog 97 #[.pointer (some ⟨rb, 0, none⟩), .pointer (some ⟨xb, 0, none⟩)] W (GetPost 100 w0 W rb sv B xb kv cv (partR y 9 B s)) := by
  have hby := hr.byte
  have H0 := Lib.hid (GetS.refl hr hn)
  clear hr hn
  go_enter Try.func97, Try.ntmps97
  have HC := Lib.hid (rd_octet w0 W rb sv B s 127 H0.out.rd)
  obtain ⟨r1, hr1⟩ : ∃ r, r = octR 127 B s := ⟨_, rfl⟩
  rw [← hr1] at HC
  have hb1 := octR_u 127 hby s (by decide)
  rw [← hr1] at hb1
  have HR1 := Lib.hid hr1
  obtain ⟨v1, s1⟩ := r1
  simp only at hb1
  obtain ⟨hb1a, hb1b, hb1c⟩ := hb1
  clear hr1
  go_wp2_with fail
  refine HC.out.mono ?_
  clear HC
  rintro e w1 ⟨rfl, hs⟩
  have G1 := Lib.hid (H0.out.next tyRd hs)
  clear hs
  simp only [itV] at G1 ⊢
  have c19 := G1.out.cell (j := 19) rfl
  have f19 := G1.out.free 19
  have zx1 := G1.out.lt
  obtain ⟨x1, hx1⟩ : ∃ x, x = w1.setCell ⟨xb, 19, none⟩ (.int .i8 v1) := ⟨_, rfl⟩
  have H1 := Lib.hid (G1.out.store tyRd 19 (.int .i8 v1))
  rw [← hx1] at H1
  have hxs1 := Lib.hid hx1.symm
  clear hx1
  have HC := Lib.hid (rd_octet w0 x1 rb sv B s1 127 H1.out.rd)
  obtain ⟨r2, hr2⟩ : ∃ r, r = octR 127 B s1 := ⟨_, rfl⟩
  rw [← hr2] at HC
  have hb2 := octR_u 127 hby s1 (by decide)
  rw [← hr2] at hb2
  have HR2 := Lib.hid hr2
  obtain ⟨v2, s2⟩ := r2
  simp only at hb2
  obtain ⟨hb2a, hb2b, hb2c⟩ := hb2
  clear hr2
  go_wp2_with fail
  simp only [hxs1.out]
  clear c19 f19 zx1
  refine HC.out.mono ?_
  clear HC
  rintro e w2 ⟨rfl, hs⟩
  have G2 := Lib.hid (H1.out.next tyRd hs)
  clear hs
  simp only [itV] at G2 ⊢
  have c20 := G2.out.cell (j := 20) rfl
  have f20 := G2.out.free 20
  have zx2 := G2.out.lt
  obtain ⟨x2, hx2⟩ : ∃ x, x = w2.setCell ⟨xb, 20, none⟩ (.int .i8 v2) := ⟨_, rfl⟩
  have H2 := Lib.hid (G2.out.store tyRd 20 (.int .i8 v2))
  rw [← hx2] at H2
  have hxs2 := Lib.hid hx2.symm
  clear hx2
  have HC := Lib.hid (rd_octet w0 x2 rb sv B s2 127 H2.out.rd)
  obtain ⟨r3, hr3⟩ : ∃ r, r = octR 127 B s2 := ⟨_, rfl⟩
  rw [← hr3] at HC
  have hb3 := octR_u 127 hby s2 (by decide)
  rw [← hr3] at hb3
  have HR3 := Lib.hid hr3
  obtain ⟨v3, s3⟩ := r3
  simp only at hb3
  obtain ⟨hb3a, hb3b, hb3c⟩ := hb3
  clear hr3
  go_wp2_with fail
  simp only [hxs2.out]
  clear c20 f20 zx2
  refine HC.out.mono ?_
  clear HC
  rintro e w3 ⟨rfl, hs⟩
  have G3 := Lib.hid (H2.out.next tyRd hs)
  clear hs
  simp only [itV] at G3 ⊢
  have c21 := G3.out.cell (j := 21) rfl
  have f21 := G3.out.free 21
  have zx3 := G3.out.lt
  obtain ⟨x3, hx3⟩ : ∃ x, x = w3.setCell ⟨xb, 21, none⟩ (.int .i8 v3) := ⟨_, rfl⟩
  have H3 := Lib.hid (G3.out.store tyRd 21 (.int .i8 v3))
  rw [← hx3] at H3
  have hxs3 := Lib.hid hx3.symm
  clear hx3
  have HC := Lib.hid (rd_octet w0 x3 rb sv B s3 127 H3.out.rd)
  obtain ⟨r4, hr4⟩ : ∃ r, r = octR 127 B s3 := ⟨_, rfl⟩
  rw [← hr4] at HC
  have hb4 := octR_u 127 hby s3 (by decide)
  rw [← hr4] at hb4
  have HR4 := Lib.hid hr4
  obtain ⟨v4, s4⟩ := r4
  simp only at hb4
  obtain ⟨hb4a, hb4b, hb4c⟩ := hb4
  clear hr4
  go_wp2_with fail
  simp only [hxs3.out]
  clear c21 f21 zx3
  refine HC.out.mono ?_
  clear HC
  rintro e w4 ⟨rfl, hs⟩
  have G4 := Lib.hid (H3.out.next tyRd hs)
  clear hs
  simp only [itV] at G4 ⊢
  have c23 := G4.out.cell (j := 23) rfl
  have f23 := G4.out.free 23
  have zx4 := G4.out.lt
  obtain ⟨x4, hx4⟩ : ∃ x, x = w4.setCell ⟨xb, 23, none⟩ (.int .i8 v4) := ⟨_, rfl⟩
  have H4 := Lib.hid (G4.out.store tyRd 23 (.int .i8 v4))
  rw [← hx4] at H4
  have hxs4 := Lib.hid hx4.symm
  clear hx4
  have HC := Lib.hid (rd_octet w0 x4 rb sv B s4 255 H4.out.rd)
  obtain ⟨r5, hr5⟩ : ∃ r, r = octR 255 B s4 := ⟨_, rfl⟩
  rw [← hr5] at HC
  have hb5 := octR_u 255 hby s4 (by decide)
  rw [← hr5] at hb5
  have HR5 := Lib.hid hr5
  obtain ⟨v5, s5⟩ := r5
  simp only at hb5
  obtain ⟨hb5a, hb5b, hb5c⟩ := hb5
  clear hr5
  go_wp2_with fail
  simp only [hxs4.out]
  clear c23 f23 zx4
  refine HC.out.mono ?_
  clear HC
  rintro e w5 ⟨rfl, hs⟩
  have G5 := Lib.hid (H4.out.next tyRd hs)
  clear hs
  simp only [itV] at G5 ⊢
  have c33 := G5.out.cell (j := 33) rfl
  have f33 := G5.out.free 33
  have zx5 := G5.out.lt
  obtain ⟨x5, hx5⟩ : ∃ x, x = w5.setCell ⟨xb, 33, none⟩ (.int .u8 v5) := ⟨_, rfl⟩
  have H5 := Lib.hid (G5.out.store tyRd 33 (.int .u8 v5))
  rw [← hx5] at H5
  have hxs5 := Lib.hid hx5.symm
  have E := Lib.hid (show partR y 9 B s = ({ y with border := v1, align := v2, cross := v3, wrap := v4, flags := v5 }, s5) from by show (_, _) = _; rw [← HR1.out]; simp only; rw [← HR2.out]; simp only; rw [← HR3.out]; simp only; rw [← HR4.out]; simp only; rw [← HR5.out])
  have HF := Lib.hid (H5.out)
  subst hx5
  go_wp2
  first | exact bodyPost_end (v := .tuple #[]) (results_none rfl _ _ _) rfl (get_mk E.out HF.out) | exact bodyPost_ret (v := .tuple #[]) (results_none rfl _ _ _) rfl (get_mk E.out HF.out)
set_option maxRecDepth 100000 in
set_option maxHeartbeats 8000000 in
theorem get10 (w0 W : World) (rb : Nat) (sv : Value) (B : List Int) (s : Rs) (xb : Nat) (y : Nd) (kv cv : Value) (hr : RdAt 100 w0 W rb sv B s) (hn : NdO w0.heap.size W xb (ndV y kv cv).toArray y.kids y.cols kv cv) : Calls Try.prog 99 #[.pointer (some ⟨rb, 0, none⟩), .pointer (some ⟨xb, 0, none⟩)] W (GetPost 100 w0 W rb sv B xb kv cv (partR y 10 B s)) := by
  have hby := hr.byte
  have H0 := Lib.hid (GetS.refl hr hn)
  clear hr hn
  go_enter Try.func99, Try.ntmps99
  have HC := Lib.hid (rd_number w0 W rb sv B s H0.out.rd)
  obtain ⟨r1, hr1⟩ : ∃ r, r = numR B s := ⟨_, rfl⟩
  rw [← hr1] at HC
  have hb1 := numR_range hby s
  rw [← hr1] at hb1
  have HR1 := Lib.hid hr1
  obtain ⟨v1, s1⟩ := r1
  simp only at hb1
  obtain ⟨hb1a, hb1b⟩ := hb1
  clear hr1
  go_wp2_with fail
  refine HC.out.mono ?_
  clear HC
  rintro e w1 ⟨rfl, hs⟩
  have G1 := Lib.hid (H0.out.next tyRd hs)
  clear hs
  simp only [itV] at G1 ⊢
  have c24 := G1.out.cell (j := 24) rfl
  have f24 := G1.out.free 24
  have zx1 := G1.out.lt
  obtain ⟨x1, hx1⟩ : ∃ x, x = w1.setCell ⟨xb, 24, none⟩ (.int .i32 v1) := ⟨_, rfl⟩
  have H1 := Lib.hid (G1.out.store tyRd 24 (.int .i32 v1))
  rw [← hx1] at H1
  have hxs1 := Lib.hid hx1.symm
  clear hx1
  have HC := Lib.hid (rd_number w0 x1 rb sv B s1 H1.out.rd)
  obtain ⟨r2, hr2⟩ : ∃ r, r = numR B s1 := ⟨_, rfl⟩
  rw [← hr2] at HC
  have hb2 := numR_range hby s1
  rw [← hr2] at hb2
  have HR2 := Lib.hid hr2
  obtain ⟨v2, s2⟩ := r2
  simp only at hb2
  obtain ⟨hb2a, hb2b⟩ := hb2
  clear hr2
  go_wp2_with fail
  simp only [hxs1.out]
  clear c24 f24 zx1
  refine HC.out.mono ?_
  clear HC
  rintro e w2 ⟨rfl, hs⟩
  have G2 := Lib.hid (H1.out.next tyRd hs)
  clear hs
  simp only [itV] at G2 ⊢
  have c25 := G2.out.cell (j := 25) rfl
  have f25 := G2.out.free 25
  have zx2 := G2.out.lt
  obtain ⟨x2, hx2⟩ : ∃ x, x = w2.setCell ⟨xb, 25, none⟩ (.int .i32 v2) := ⟨_, rfl⟩
  have H2 := Lib.hid (G2.out.store tyRd 25 (.int .i32 v2))
  rw [← hx2] at H2
  have hxs2 := Lib.hid hx2.symm
  clear hx2
  have HC := Lib.hid (rd_octet w0 x2 rb sv B s2 255 H2.out.rd)
  obtain ⟨r3, hr3⟩ : ∃ r, r = octR 255 B s2 := ⟨_, rfl⟩
  rw [← hr3] at HC
  have hb3 := octR_u 255 hby s2 (by decide)
  rw [← hr3] at hb3
  have HR3 := Lib.hid hr3
  obtain ⟨v3, s3⟩ := r3
  simp only at hb3
  obtain ⟨hb3a, hb3b, hb3c⟩ := hb3
  clear hr3
  go_wp2_with fail
  simp only [hxs2.out]
  clear c25 f25 zx2
  refine HC.out.mono ?_
  clear HC
  rintro e w3 ⟨rfl, hs⟩
  have G3 := Lib.hid (H2.out.next tyRd hs)
  clear hs
  simp only [itV] at G3 ⊢
  have c26 := G3.out.cell (j := 26) rfl
  have f26 := G3.out.free 26
  have zx3 := G3.out.lt
  obtain ⟨x3, hx3⟩ : ∃ x, x = w3.setCell ⟨xb, 26, none⟩ (.int .u8 v3) := ⟨_, rfl⟩
  have H3 := Lib.hid (G3.out.store tyRd 26 (.int .u8 v3))
  rw [← hx3] at H3
  have hxs3 := Lib.hid hx3.symm
  clear hx3
  have HC := Lib.hid (rd_octet w0 x3 rb sv B s3 255 H3.out.rd)
  obtain ⟨r4, hr4⟩ : ∃ r, r = octR 255 B s3 := ⟨_, rfl⟩
  rw [← hr4] at HC
  have hb4 := octR_u 255 hby s3 (by decide)
  rw [← hr4] at hb4
  have HR4 := Lib.hid hr4
  obtain ⟨v4, s4⟩ := r4
  simp only at hb4
  obtain ⟨hb4a, hb4b, hb4c⟩ := hb4
  clear hr4
  go_wp2_with fail
  simp only [hxs3.out]
  clear c26 f26 zx3
  refine HC.out.mono ?_
  clear HC
  rintro e w4 ⟨rfl, hs⟩
  have G4 := Lib.hid (H3.out.next tyRd hs)
  clear hs
  simp only [itV] at G4 ⊢
  have c27 := G4.out.cell (j := 27) rfl
  have f27 := G4.out.free 27
  have zx4 := G4.out.lt
  obtain ⟨x4, hx4⟩ : ∃ x, x = w4.setCell ⟨xb, 27, none⟩ (.int .u8 v4) := ⟨_, rfl⟩
  have H4 := Lib.hid (G4.out.store tyRd 27 (.int .u8 v4))
  rw [← hx4] at H4
  have hxs4 := Lib.hid hx4.symm
  have E := Lib.hid (show partR y 10 B s = ({ y with fg := v1, bg := v2, add := v3, drop := v4 }, s4) from by show (_, _) = _; rw [← HR1.out]; simp only; rw [← HR2.out]; simp only; rw [← HR3.out]; simp only; rw [← HR4.out])
  have HF := Lib.hid (H4.out)
  subst hx4
  go_wp2
  first | exact bodyPost_end (v := .tuple #[]) (results_none rfl _ _ _) rfl (get_mk E.out HF.out) | exact bodyPost_ret (v := .tuple #[]) (results_none rfl _ _ _) rfl (get_mk E.out HF.out)
end Go.Proofs.Ytcihihncgpddfaa
namespace Go.Proofs.Ytcihihncgpddfaa
open Go.RowKit Go.Deep
set_option linter.unusedVariables false
set_option linter.unusedSimpArgs false

theorem infoInt_ : (Try.prog.info? 3).map (fun i => (i.zero, i.size, i.bytes)) = some (some (.int .i64 0), 1, 8) := by kernel_rfl
theorem infoItm_ : (Try.prog.info? 57).map (fun i => (i.zero, i.size, i.bytes)) = some (some (.agg #[.int .i8 0, .int .i64 0, .int .i64 0, .int .i64 0, .int .i64 0]), 5, 40) := by kernel_rfl
set_option maxRecDepth 100000 in
set_option maxHeartbeats 8000000 in
theorem get8 (w0 W : World) (rb : Nat) (sv : Value) (B : List Int) (s : Rs) (xb : Nat) (y : Nd) (kv cv : Value) (hr : RdAt 100 w0 W rb sv B s) (hn : NdO w0.heap.size W xb (ndV y kv cv).toArray y.kids y.cols kv cv) : Calls Try.prog 95 #[.pointer (some ⟨rb, 0, none⟩), .pointer (some ⟨xb, 0, none⟩)] W (GetPost 100 w0 W rb sv B xb kv cv (partR y 8 B s)) := by
  have hby := hr.byte
  have H0 := Lib.hid (GetS.refl hr hn)
  clear hr hn
  go_enter Try.func95, Try.ntmps95
  go_wp2
  refine wp_loop_rounds 5 ?_
  rw [rounds_succ]
  have D1 := Lib.hid (H0.out.quiet (Below.drew (Below.refl _ _)))
  have HC := Lib.hid (rd_number w0 W.drew rb sv B s D1.out.rd)
  obtain ⟨r1, hr1⟩ : ∃ r, r = numR B s := ⟨_, rfl⟩
  rw [← hr1] at HC
  have hb1 := numR_range hby s
  rw [← hr1] at hb1
  have HR1 := Lib.hid hr1
  obtain ⟨v1, s1⟩ := r1
  simp only at hb1
  obtain ⟨hb1a, hb1b⟩ := hb1
  clear hr1
  go_upto_region 3 with (fail)
  refine wp_region_noPanic ?_
  refine wp_region_Z (fun _ => True) 7 (by kernel_rfl) ?_
  change wpAnyZ _ _ _ _ _ _ 8 (Array.replicate 8 false) _ _
  refine wpAnyZ_take [6] (i := 0) (v := ?va10) (by simp only [List.getElem?_toArray, List.getElem?_cons_succ, List.getElem?_cons_zero]; rfl) (by decide +kernel) (fun _ _ _ h => h) (by rfl) ?ta10 ?sa10 ?_
  case ta10 => (intro w' h; clear h; go_simp; try rfl)
  case sa10 => exact trivial
  (try simp only [Act.put, List.setIfInBounds_toArray, List.set_cons_zero, List.set_cons_succ])
  refine wpAnyZ_take [6] (i := 1) (v := ?va11) (by simp only [List.getElem?_toArray, List.getElem?_cons_succ, List.getElem?_cons_zero]; rfl) (by decide +kernel) (fun _ _ _ h => h) (by rfl) ?ta11 ?sa11 ?_
  case ta11 => (intro w' h; clear h; go_simp; try rfl)
  case sa11 => exact trivial
  (try simp only [Act.put, List.setIfInBounds_toArray, List.set_cons_zero, List.set_cons_succ])
  refine wpAnyZ_take [6] (i := 2) (v := ?va12) (by simp only [List.getElem?_toArray, List.getElem?_cons_succ, List.getElem?_cons_zero]; rfl) (by decide +kernel) (fun _ _ _ h => h) (by rfl) ?ta12 ?sa12 ?_
  case ta12 => (intro w' h; clear h; go_simp; try rfl)
  case sa12 => exact trivial
  (try simp only [Act.put, List.setIfInBounds_toArray, List.set_cons_zero, List.set_cons_succ])
  refine wpAnyZ_take [6, 5] (i := 4) (v := ?va14) (by simp only [List.getElem?_toArray, List.getElem?_cons_succ, List.getElem?_cons_zero]; rfl) (by decide +kernel) (fun _ _ _ h => h) (by rfl) ?ta14 ?sa14 ?_
  case ta14 => (intro w' h; clear h; go_simp; try rfl)
  case sa14 => exact trivial
  (try simp only [Act.put, List.setIfInBounds_toArray, List.set_cons_zero, List.set_cons_succ])
  refine wpAnyZ_take [6] (i := 5) (v := ?va15) (by simp only [List.getElem?_toArray, List.getElem?_cons_succ, List.getElem?_cons_zero]; rfl) (by decide +kernel) (fun _ _ _ h => h) (by rfl) ?ta15 ?sa15 ?_
  case ta15 => (intro w' h; clear h; go_simp; try rfl)
  case sa15 => exact trivial
  (try simp only [Act.put, List.setIfInBounds_toArray, List.set_cons_zero, List.set_cons_succ])
  refine wpAnyZ_one (i := 3) (by decide +kernel) ?_
  refine wpOpK_call (by simp only [List.getElem?_toArray, List.getElem?_cons_succ, List.getElem?_cons_zero]; rfl) (by rfl) (by go_simp; first | exact ⟨rfl, rfl⟩ | rfl) ?_
  refine (HC.out).mono ?_
  rintro e w1 ⟨rfl, hs⟩
  have G1 := Lib.hid (D1.out.next tyRd hs)
  clear hs HC
  simp only at G1
  refine ⟨_, rfl, .inr trivial, ?_⟩
  (try simp only [Act.put, List.setIfInBounds_toArray, List.set_cons_zero, List.set_cons_succ])
  refine wpAnyZ_take [] (i := 6) (v := ?va16) (by simp only [List.getElem?_toArray, List.getElem?_cons_succ, List.getElem?_cons_zero]; rfl) (by decide +kernel) (fun _ _ _ h => h) (by rfl) ?ta16 ?sa16 ?_
  case ta16 => (intro w' h; clear h; go_simp; try rfl)
  case sa16 => exact trivial
  (try simp only [Act.put, List.setIfInBounds_toArray, List.set_cons_zero, List.set_cons_succ])
  have c15 := G1.out.cell (j := 15) rfl
  have f15 := G1.out.free 15
  have zx1 := G1.out.lt
  refine wpAnyZ_one (i := 7) (by decide +kernel) ?_
  refine wpOpK_skip (w' := w1.setCell ⟨xb, 15, none⟩ (.int .i64 v1)) (by simp only [List.getElem?_toArray, List.getElem?_cons_succ, List.getElem?_cons_zero]; rfl) (by rfl) ?ma17 ⟨.inl rfl, ?_⟩
  case ma17 => (go_simp; try rfl)
  (try simp only [Act.put, List.setIfInBounds_toArray, List.set_cons_zero, List.set_cons_succ])
  refine wpAnyZ_done (by kernel_rfl) (NoPanic.normal ?_) _
  obtain ⟨x1, hx1⟩ : ∃ x, x = w1.setCell ⟨xb, 15, none⟩ (.int .i64 v1) := ⟨_, rfl⟩
  have H1 := Lib.hid (G1.out.store tyRd 15 (.int .i64 v1))
  rw [← hx1] at H1 ⊢
  have hxs1 := Lib.hid hx1.symm
  clear hx1 c15 f15 zx1 G1 D1 H0
  go_wp2
  rw [rounds_succ]
  have D2 := Lib.hid (H1.out.quiet (Below.drew (Below.refl _ _)))
  have HC := Lib.hid (rd_number w0 x1.drew rb sv B s1 D2.out.rd)
  obtain ⟨r2, hr2⟩ : ∃ r, r = numR B s1 := ⟨_, rfl⟩
  rw [← hr2] at HC
  have hb2 := numR_range hby s1
  rw [← hr2] at hb2
  have HR2 := Lib.hid hr2
  obtain ⟨v2, s2⟩ := r2
  simp only at hb2
  obtain ⟨hb2a, hb2b⟩ := hb2
  clear hr2
  go_upto_region 3 with (fail)
  refine wp_region_noPanic ?_
  refine wp_region_Z (fun _ => True) 7 (by kernel_rfl) ?_
  change wpAnyZ _ _ _ _ _ _ 8 (Array.replicate 8 false) _ _
  refine wpAnyZ_take [6] (i := 0) (v := ?va20) (by simp only [List.getElem?_toArray, List.getElem?_cons_succ, List.getElem?_cons_zero]; rfl) (by decide +kernel) (fun _ _ _ h => h) (by rfl) ?ta20 ?sa20 ?_
  case ta20 => (intro w' h; clear h; go_simp; try rfl)
  case sa20 => exact trivial
  (try simp only [Act.put, List.setIfInBounds_toArray, List.set_cons_zero, List.set_cons_succ])
  refine wpAnyZ_take [6] (i := 1) (v := ?va21) (by simp only [List.getElem?_toArray, List.getElem?_cons_succ, List.getElem?_cons_zero]; rfl) (by decide +kernel) (fun _ _ _ h => h) (by rfl) ?ta21 ?sa21 ?_
  case ta21 => (intro w' h; clear h; go_simp; try rfl)
  case sa21 => exact trivial
  (try simp only [Act.put, List.setIfInBounds_toArray, List.set_cons_zero, List.set_cons_succ])
  refine wpAnyZ_take [6] (i := 2) (v := ?va22) (by simp only [List.getElem?_toArray, List.getElem?_cons_succ, List.getElem?_cons_zero]; rfl) (by decide +kernel) (fun _ _ _ h => h) (by rfl) ?ta22 ?sa22 ?_
  case ta22 => (intro w' h; clear h; go_simp; try rfl)
  case sa22 => exact trivial
  (try simp only [Act.put, List.setIfInBounds_toArray, List.set_cons_zero, List.set_cons_succ])
  refine wpAnyZ_take [6, 5] (i := 4) (v := ?va24) (by simp only [List.getElem?_toArray, List.getElem?_cons_succ, List.getElem?_cons_zero]; rfl) (by decide +kernel) (fun _ _ _ h => h) (by rfl) ?ta24 ?sa24 ?_
  case ta24 => (intro w' h; clear h; go_simp; try rfl)
  case sa24 => exact trivial
  (try simp only [Act.put, List.setIfInBounds_toArray, List.set_cons_zero, List.set_cons_succ])
  refine wpAnyZ_take [6] (i := 5) (v := ?va25) (by simp only [List.getElem?_toArray, List.getElem?_cons_succ, List.getElem?_cons_zero]; rfl) (by decide +kernel) (fun _ _ _ h => h) (by rfl) ?ta25 ?sa25 ?_
  case ta25 => (intro w' h; clear h; go_simp; try rfl)
  case sa25 => exact trivial
  (try simp only [Act.put, List.setIfInBounds_toArray, List.set_cons_zero, List.set_cons_succ])
  refine wpAnyZ_one (i := 3) (by decide +kernel) ?_
  refine wpOpK_call (by simp only [List.getElem?_toArray, List.getElem?_cons_succ, List.getElem?_cons_zero]; rfl) (by rfl) (by go_simp; first | exact ⟨rfl, rfl⟩ | rfl) ?_
  refine (HC.out).mono ?_
  rintro e w2 ⟨rfl, hs⟩
  have G2 := Lib.hid (D2.out.next tyRd hs)
  clear hs HC
  simp only at G2
  refine ⟨_, rfl, .inr trivial, ?_⟩
  (try simp only [Act.put, List.setIfInBounds_toArray, List.set_cons_zero, List.set_cons_succ])
  refine wpAnyZ_take [] (i := 6) (v := ?va26) (by simp only [List.getElem?_toArray, List.getElem?_cons_succ, List.getElem?_cons_zero]; rfl) (by decide +kernel) (fun _ _ _ h => h) (by rfl) ?ta26 ?sa26 ?_
  case ta26 => (intro w' h; clear h; go_simp; try rfl)
  case sa26 => exact trivial
  (try simp only [Act.put, List.setIfInBounds_toArray, List.set_cons_zero, List.set_cons_succ])
  have c16 := G2.out.cell (j := 16) rfl
  have f16 := G2.out.free 16
  have zx2 := G2.out.lt
  refine wpAnyZ_one (i := 7) (by decide +kernel) ?_
  refine wpOpK_skip (w' := w2.setCell ⟨xb, 16, none⟩ (.int .i64 v2)) (by simp only [List.getElem?_toArray, List.getElem?_cons_succ, List.getElem?_cons_zero]; rfl) (by rfl) ?ma27 ⟨.inl rfl, ?_⟩
  case ma27 => (go_simp; try rfl)
  (try simp only [Act.put, List.setIfInBounds_toArray, List.set_cons_zero, List.set_cons_succ])
  refine wpAnyZ_done (by kernel_rfl) (NoPanic.normal ?_) _
  obtain ⟨x2, hx2⟩ : ∃ x, x = w2.setCell ⟨xb, 16, none⟩ (.int .i64 v2) := ⟨_, rfl⟩
  have H2 := Lib.hid (G2.out.store tyRd 16 (.int .i64 v2))
  rw [← hx2] at H2 ⊢
  have hxs2 := Lib.hid hx2.symm
  clear hx2 c16 f16 zx2 G2 D2 H1
  go_wp2
  rw [rounds_succ]
  have D3 := Lib.hid (H2.out.quiet (Below.drew (Below.refl _ _)))
  have HC := Lib.hid (rd_number w0 x2.drew rb sv B s2 D3.out.rd)
  obtain ⟨r3, hr3⟩ : ∃ r, r = numR B s2 := ⟨_, rfl⟩
  rw [← hr3] at HC
  have hb3 := numR_range hby s2
  rw [← hr3] at hb3
  have HR3 := Lib.hid hr3
  obtain ⟨v3, s3⟩ := r3
  simp only at hb3
  obtain ⟨hb3a, hb3b⟩ := hb3
  clear hr3
  go_upto_region 3 with (fail)
  refine wp_region_noPanic ?_
  refine wp_region_Z (fun _ => True) 7 (by kernel_rfl) ?_
  change wpAnyZ _ _ _ _ _ _ 8 (Array.replicate 8 false) _ _
  refine wpAnyZ_take [6] (i := 0) (v := ?va30) (by simp only [List.getElem?_toArray, List.getElem?_cons_succ, List.getElem?_cons_zero]; rfl) (by decide +kernel) (fun _ _ _ h => h) (by rfl) ?ta30 ?sa30 ?_
  case ta30 => (intro w' h; clear h; go_simp; try rfl)
  case sa30 => exact trivial
  (try simp only [Act.put, List.setIfInBounds_toArray, List.set_cons_zero, List.set_cons_succ])
  refine wpAnyZ_take [6] (i := 1) (v := ?va31) (by simp only [List.getElem?_toArray, List.getElem?_cons_succ, List.getElem?_cons_zero]; rfl) (by decide +kernel) (fun _ _ _ h => h) (by rfl) ?ta31 ?sa31 ?_
  case ta31 => (intro w' h; clear h; go_simp; try rfl)
  case sa31 => exact trivial
  (try simp only [Act.put, List.setIfInBounds_toArray, List.set_cons_zero, List.set_cons_succ])
  refine wpAnyZ_take [6] (i := 2) (v := ?va32) (by simp only [List.getElem?_toArray, List.getElem?_cons_succ, List.getElem?_cons_zero]; rfl) (by decide +kernel) (fun _ _ _ h => h) (by rfl) ?ta32 ?sa32 ?_
  case ta32 => (intro w' h; clear h; go_simp; try rfl)
  case sa32 => exact trivial
  (try simp only [Act.put, List.setIfInBounds_toArray, List.set_cons_zero, List.set_cons_succ])
  refine wpAnyZ_take [6, 5] (i := 4) (v := ?va34) (by simp only [List.getElem?_toArray, List.getElem?_cons_succ, List.getElem?_cons_zero]; rfl) (by decide +kernel) (fun _ _ _ h => h) (by rfl) ?ta34 ?sa34 ?_
  case ta34 => (intro w' h; clear h; go_simp; try rfl)
  case sa34 => exact trivial
  (try simp only [Act.put, List.setIfInBounds_toArray, List.set_cons_zero, List.set_cons_succ])
  refine wpAnyZ_take [6] (i := 5) (v := ?va35) (by simp only [List.getElem?_toArray, List.getElem?_cons_succ, List.getElem?_cons_zero]; rfl) (by decide +kernel) (fun _ _ _ h => h) (by rfl) ?ta35 ?sa35 ?_
  case ta35 => (intro w' h; clear h; go_simp; try rfl)
  case sa35 => exact trivial
  (try simp only [Act.put, List.setIfInBounds_toArray, List.set_cons_zero, List.set_cons_succ])
  refine wpAnyZ_one (i := 3) (by decide +kernel) ?_
  refine wpOpK_call (by simp only [List.getElem?_toArray, List.getElem?_cons_succ, List.getElem?_cons_zero]; rfl) (by rfl) (by go_simp; first | exact ⟨rfl, rfl⟩ | rfl) ?_
  refine (HC.out).mono ?_
  rintro e w3 ⟨rfl, hs⟩
  have G3 := Lib.hid (D3.out.next tyRd hs)
  clear hs HC
  simp only at G3
  refine ⟨_, rfl, .inr trivial, ?_⟩
  (try simp only [Act.put, List.setIfInBounds_toArray, List.set_cons_zero, List.set_cons_succ])
  refine wpAnyZ_take [] (i := 6) (v := ?va36) (by simp only [List.getElem?_toArray, List.getElem?_cons_succ, List.getElem?_cons_zero]; rfl) (by decide +kernel) (fun _ _ _ h => h) (by rfl) ?ta36 ?sa36 ?_
  case ta36 => (intro w' h; clear h; go_simp; try rfl)
  case sa36 => exact trivial
  (try simp only [Act.put, List.setIfInBounds_toArray, List.set_cons_zero, List.set_cons_succ])
  have c17 := G3.out.cell (j := 17) rfl
  have f17 := G3.out.free 17
  have zx3 := G3.out.lt
  refine wpAnyZ_one (i := 7) (by decide +kernel) ?_
  refine wpOpK_skip (w' := w3.setCell ⟨xb, 17, none⟩ (.int .i64 v3)) (by simp only [List.getElem?_toArray, List.getElem?_cons_succ, List.getElem?_cons_zero]; rfl) (by rfl) ?ma37 ⟨.inl rfl, ?_⟩
  case ma37 => (go_simp; try rfl)
  (try simp only [Act.put, List.setIfInBounds_toArray, List.set_cons_zero, List.set_cons_succ])
  refine wpAnyZ_done (by kernel_rfl) (NoPanic.normal ?_) _
  obtain ⟨x3, hx3⟩ : ∃ x, x = w3.setCell ⟨xb, 17, none⟩ (.int .i64 v3) := ⟨_, rfl⟩
  have H3 := Lib.hid (G3.out.store tyRd 17 (.int .i64 v3))
  rw [← hx3] at H3 ⊢
  have hxs3 := Lib.hid hx3.symm
  clear hx3 c17 f17 zx3 G3 D3 H2
  go_wp2
  rw [rounds_succ]
  have D4 := Lib.hid (H3.out.quiet (Below.drew (Below.refl _ _)))
  have HC := Lib.hid (rd_number w0 x3.drew rb sv B s3 D4.out.rd)
  obtain ⟨r4, hr4⟩ : ∃ r, r = numR B s3 := ⟨_, rfl⟩
  rw [← hr4] at HC
  have hb4 := numR_range hby s3
  rw [← hr4] at hb4
  have HR4 := Lib.hid hr4
  obtain ⟨v4, s4⟩ := r4
  simp only at hb4
  obtain ⟨hb4a, hb4b⟩ := hb4
  clear hr4
  go_upto_region 3 with (fail)
  refine wp_region_noPanic ?_
  refine wp_region_Z (fun _ => True) 7 (by kernel_rfl) ?_
  change wpAnyZ _ _ _ _ _ _ 8 (Array.replicate 8 false) _ _
  refine wpAnyZ_take [6] (i := 0) (v := ?va40) (by simp only [List.getElem?_toArray, List.getElem?_cons_succ, List.getElem?_cons_zero]; rfl) (by decide +kernel) (fun _ _ _ h => h) (by rfl) ?ta40 ?sa40 ?_
  case ta40 => (intro w' h; clear h; go_simp; try rfl)
  case sa40 => exact trivial
  (try simp only [Act.put, List.setIfInBounds_toArray, List.set_cons_zero, List.set_cons_succ])
  refine wpAnyZ_take [6] (i := 1) (v := ?va41) (by simp only [List.getElem?_toArray, List.getElem?_cons_succ, List.getElem?_cons_zero]; rfl) (by decide +kernel) (fun _ _ _ h => h) (by rfl) ?ta41 ?sa41 ?_
  case ta41 => (intro w' h; clear h; go_simp; try rfl)
  case sa41 => exact trivial
  (try simp only [Act.put, List.setIfInBounds_toArray, List.set_cons_zero, List.set_cons_succ])
  refine wpAnyZ_take [6] (i := 2) (v := ?va42) (by simp only [List.getElem?_toArray, List.getElem?_cons_succ, List.getElem?_cons_zero]; rfl) (by decide +kernel) (fun _ _ _ h => h) (by rfl) ?ta42 ?sa42 ?_
  case ta42 => (intro w' h; clear h; go_simp; try rfl)
  case sa42 => exact trivial
  (try simp only [Act.put, List.setIfInBounds_toArray, List.set_cons_zero, List.set_cons_succ])
  refine wpAnyZ_take [6, 5] (i := 4) (v := ?va44) (by simp only [List.getElem?_toArray, List.getElem?_cons_succ, List.getElem?_cons_zero]; rfl) (by decide +kernel) (fun _ _ _ h => h) (by rfl) ?ta44 ?sa44 ?_
  case ta44 => (intro w' h; clear h; go_simp; try rfl)
  case sa44 => exact trivial
  (try simp only [Act.put, List.setIfInBounds_toArray, List.set_cons_zero, List.set_cons_succ])
  refine wpAnyZ_take [6] (i := 5) (v := ?va45) (by simp only [List.getElem?_toArray, List.getElem?_cons_succ, List.getElem?_cons_zero]; rfl) (by decide +kernel) (fun _ _ _ h => h) (by rfl) ?ta45 ?sa45 ?_
  case ta45 => (intro w' h; clear h; go_simp; try rfl)
  case sa45 => exact trivial
  (try simp only [Act.put, List.setIfInBounds_toArray, List.set_cons_zero, List.set_cons_succ])
  refine wpAnyZ_one (i := 3) (by decide +kernel) ?_
  refine wpOpK_call (by simp only [List.getElem?_toArray, List.getElem?_cons_succ, List.getElem?_cons_zero]; rfl) (by rfl) (by go_simp; first | exact ⟨rfl, rfl⟩ | rfl) ?_
  refine (HC.out).mono ?_
  rintro e w4 ⟨rfl, hs⟩
  have G4 := Lib.hid (D4.out.next tyRd hs)
  clear hs HC
  simp only at G4
  refine ⟨_, rfl, .inr trivial, ?_⟩
  (try simp only [Act.put, List.setIfInBounds_toArray, List.set_cons_zero, List.set_cons_succ])
  refine wpAnyZ_take [] (i := 6) (v := ?va46) (by simp only [List.getElem?_toArray, List.getElem?_cons_succ, List.getElem?_cons_zero]; rfl) (by decide +kernel) (fun _ _ _ h => h) (by rfl) ?ta46 ?sa46 ?_
  case ta46 => (intro w' h; clear h; go_simp; try rfl)
  case sa46 => exact trivial
  (try simp only [Act.put, List.setIfInBounds_toArray, List.set_cons_zero, List.set_cons_succ])
  have c18 := G4.out.cell (j := 18) rfl
  have f18 := G4.out.free 18
  have zx4 := G4.out.lt
  refine wpAnyZ_one (i := 7) (by decide +kernel) ?_
  refine wpOpK_skip (w' := w4.setCell ⟨xb, 18, none⟩ (.int .i64 v4)) (by simp only [List.getElem?_toArray, List.getElem?_cons_succ, List.getElem?_cons_zero]; rfl) (by rfl) ?ma47 ⟨.inl rfl, ?_⟩
  case ma47 => (go_simp; try rfl)
  (try simp only [Act.put, List.setIfInBounds_toArray, List.set_cons_zero, List.set_cons_succ])
  refine wpAnyZ_done (by kernel_rfl) (NoPanic.normal ?_) _
  obtain ⟨x4, hx4⟩ : ∃ x, x = w4.setCell ⟨xb, 18, none⟩ (.int .i64 v4) := ⟨_, rfl⟩
  have H4 := Lib.hid (G4.out.store tyRd 18 (.int .i64 v4))
  rw [← hx4] at H4 ⊢
  have hxs4 := Lib.hid hx4.symm
  clear hx4 c18 f18 zx4 G4 D4 H3
  go_wp2
  rw [rounds_succ]
  go_wp2
  have E := Lib.hid (show partR y 8 B s = ({ y with p0 := v1, p1 := v2, p2 := v3, p3 := v4 }, s4) from by show (_, _) = _; rw [← HR1.out]; simp only; rw [← HR2.out]; simp only; rw [← HR3.out]; simp only; rw [← HR4.out])
  first | exact bodyPost_end (v := .tuple #[]) (results_none rfl _ _ _) rfl (get_mk E.out H4.out) | exact bodyPost_ret (v := .tuple #[]) (results_none rfl _ _ _) rfl (get_mk E.out H4.out)
set_option maxRecDepth 100000 in
set_option maxHeartbeats 8000000 in
theorem get12 (w0 W : World) (rb : Nat) (sv : Value) (B : List Int) (s : Rs) (xb : Nat) (y : Nd) (kv cv : Value) (hr : RdAt 100 w0 W rb sv B s) (hn : NdO w0.heap.size W xb (ndV y kv cv).toArray y.kids y.cols kv cv) : Calls Try.prog 104 #[.pointer (some ⟨rb, 0, none⟩), .pointer (some ⟨xb, 0, none⟩)] W (GetPost 100 w0 W rb sv B xb kv cv (partR y 12 B s)) := by
  have hby := hr.byte
  have H0 := Lib.hid (GetS.refl hr hn)
  clear hr hn
  go_enter Try.func104, Try.ntmps104
  go_wp2
  refine wp_loop_rounds 5 ?_
  rw [rounds_succ]
  have D1 := Lib.hid (H0.out.quiet (Below.drew (Below.refl _ _)))
  have HC := Lib.hid (rd_signed w0 W.drew rb sv B s D1.out.rd)
  obtain ⟨r1, hr1⟩ : ∃ r, r = sgnR B s := ⟨_, rfl⟩
  rw [← hr1] at HC
  have hb1 := unS_range (numR_range hby s).1 (numR_range hby s).2
  have hb1 : -2147483648 ≤ (sgnR B s).1 ∧ (sgnR B s).1 < 2147483648 := hb1
  rw [← hr1] at hb1
  have HR1 := Lib.hid hr1
  obtain ⟨v1, s1⟩ := r1
  simp only at hb1
  obtain ⟨hb1a, hb1b⟩ := hb1
  clear hr1
  go_upto_region 3 with (fail)
  refine wp_region_noPanic ?_
  refine wp_region_Z (fun _ => True) 7 (by kernel_rfl) ?_
  change wpAnyZ _ _ _ _ _ _ 8 (Array.replicate 8 false) _ _
  refine wpAnyZ_take [6] (i := 0) (v := ?va10) (by simp only [List.getElem?_toArray, List.getElem?_cons_succ, List.getElem?_cons_zero]; rfl) (by decide +kernel) (fun _ _ _ h => h) (by rfl) ?ta10 ?sa10 ?_
  case ta10 => (intro w' h; clear h; go_simp; try rfl)
  case sa10 => exact trivial
  (try simp only [Act.put, List.setIfInBounds_toArray, List.set_cons_zero, List.set_cons_succ])
  refine wpAnyZ_take [6] (i := 1) (v := ?va11) (by simp only [List.getElem?_toArray, List.getElem?_cons_succ, List.getElem?_cons_zero]; rfl) (by decide +kernel) (fun _ _ _ h => h) (by rfl) ?ta11 ?sa11 ?_
  case ta11 => (intro w' h; clear h; go_simp; try rfl)
  case sa11 => exact trivial
  (try simp only [Act.put, List.setIfInBounds_toArray, List.set_cons_zero, List.set_cons_succ])
  refine wpAnyZ_take [6] (i := 2) (v := ?va12) (by simp only [List.getElem?_toArray, List.getElem?_cons_succ, List.getElem?_cons_zero]; rfl) (by decide +kernel) (fun _ _ _ h => h) (by rfl) ?ta12 ?sa12 ?_
  case ta12 => (intro w' h; clear h; go_simp; try rfl)
  case sa12 => exact trivial
  (try simp only [Act.put, List.setIfInBounds_toArray, List.set_cons_zero, List.set_cons_succ])
  refine wpAnyZ_take [6, 5] (i := 4) (v := ?va14) (by simp only [List.getElem?_toArray, List.getElem?_cons_succ, List.getElem?_cons_zero]; rfl) (by decide +kernel) (fun _ _ _ h => h) (by rfl) ?ta14 ?sa14 ?_
  case ta14 => (intro w' h; clear h; go_simp; try rfl)
  case sa14 => exact trivial
  (try simp only [Act.put, List.setIfInBounds_toArray, List.set_cons_zero, List.set_cons_succ])
  refine wpAnyZ_take [6] (i := 5) (v := ?va15) (by simp only [List.getElem?_toArray, List.getElem?_cons_succ, List.getElem?_cons_zero]; rfl) (by decide +kernel) (fun _ _ _ h => h) (by rfl) ?ta15 ?sa15 ?_
  case ta15 => (intro w' h; clear h; go_simp; try rfl)
  case sa15 => exact trivial
  (try simp only [Act.put, List.setIfInBounds_toArray, List.set_cons_zero, List.set_cons_succ])
  refine wpAnyZ_one (i := 3) (by decide +kernel) ?_
  refine wpOpK_call (by simp only [List.getElem?_toArray, List.getElem?_cons_succ, List.getElem?_cons_zero]; rfl) (by rfl) (by go_simp; first | exact ⟨rfl, rfl⟩ | rfl) ?_
  refine (HC.out).mono ?_
  rintro e w1 ⟨rfl, hs⟩
  have G1 := Lib.hid (D1.out.next tyRd hs)
  clear hs HC
  simp only at G1
  refine ⟨_, rfl, .inr trivial, ?_⟩
  (try simp only [Act.put, List.setIfInBounds_toArray, List.set_cons_zero, List.set_cons_succ])
  refine wpAnyZ_take [] (i := 6) (v := ?va16) (by simp only [List.getElem?_toArray, List.getElem?_cons_succ, List.getElem?_cons_zero]; rfl) (by decide +kernel) (fun _ _ _ h => h) (by rfl) ?ta16 ?sa16 ?_
  case ta16 => (intro w' h; clear h; go_simp; try rfl)
  case sa16 => exact trivial
  (try simp only [Act.put, List.setIfInBounds_toArray, List.set_cons_zero, List.set_cons_succ])
  have c29 := G1.out.cell (j := 29) rfl
  have f29 := G1.out.free 29
  have zx1 := G1.out.lt
  refine wpAnyZ_one (i := 7) (by decide +kernel) ?_
  refine wpOpK_skip (w' := w1.setCell ⟨xb, 29, none⟩ (.int .i64 v1)) (by simp only [List.getElem?_toArray, List.getElem?_cons_succ, List.getElem?_cons_zero]; rfl) (by rfl) ?ma17 ⟨.inl rfl, ?_⟩
  case ma17 => (go_simp; try rfl)
  (try simp only [Act.put, List.setIfInBounds_toArray, List.set_cons_zero, List.set_cons_succ])
  refine wpAnyZ_done (by kernel_rfl) (NoPanic.normal ?_) _
  obtain ⟨x1, hx1⟩ : ∃ x, x = w1.setCell ⟨xb, 29, none⟩ (.int .i64 v1) := ⟨_, rfl⟩
  have H1 := Lib.hid (G1.out.store tyRd 29 (.int .i64 v1))
  rw [← hx1] at H1 ⊢
  have hxs1 := Lib.hid hx1.symm
  clear hx1 c29 f29 zx1 G1 D1 H0
  go_wp2
  rw [rounds_succ]
  have D2 := Lib.hid (H1.out.quiet (Below.drew (Below.refl _ _)))
  have HC := Lib.hid (rd_signed w0 x1.drew rb sv B s1 D2.out.rd)
  obtain ⟨r2, hr2⟩ : ∃ r, r = sgnR B s1 := ⟨_, rfl⟩
  rw [← hr2] at HC
  have hb2 := unS_range (numR_range hby s1).1 (numR_range hby s1).2
  have hb2 : -2147483648 ≤ (sgnR B s1).1 ∧ (sgnR B s1).1 < 2147483648 := hb2
  rw [← hr2] at hb2
  have HR2 := Lib.hid hr2
  obtain ⟨v2, s2⟩ := r2
  simp only at hb2
  obtain ⟨hb2a, hb2b⟩ := hb2
  clear hr2
  go_upto_region 3 with (fail)
  refine wp_region_noPanic ?_
  refine wp_region_Z (fun _ => True) 7 (by kernel_rfl) ?_
  change wpAnyZ _ _ _ _ _ _ 8 (Array.replicate 8 false) _ _
  refine wpAnyZ_take [6] (i := 0) (v := ?va20) (by simp only [List.getElem?_toArray, List.getElem?_cons_succ, List.getElem?_cons_zero]; rfl) (by decide +kernel) (fun _ _ _ h => h) (by rfl) ?ta20 ?sa20 ?_
  case ta20 => (intro w' h; clear h; go_simp; try rfl)
  case sa20 => exact trivial
  (try simp only [Act.put, List.setIfInBounds_toArray, List.set_cons_zero, List.set_cons_succ])
  refine wpAnyZ_take [6] (i := 1) (v := ?va21) (by simp only [List.getElem?_toArray, List.getElem?_cons_succ, List.getElem?_cons_zero]; rfl) (by decide +kernel) (fun _ _ _ h => h) (by rfl) ?ta21 ?sa21 ?_
  case ta21 => (intro w' h; clear h; go_simp; try rfl)
  case sa21 => exact trivial
  (try simp only [Act.put, List.setIfInBounds_toArray, List.set_cons_zero, List.set_cons_succ])
  refine wpAnyZ_take [6] (i := 2) (v := ?va22) (by simp only [List.getElem?_toArray, List.getElem?_cons_succ, List.getElem?_cons_zero]; rfl) (by decide +kernel) (fun _ _ _ h => h) (by rfl) ?ta22 ?sa22 ?_
  case ta22 => (intro w' h; clear h; go_simp; try rfl)
  case sa22 => exact trivial
  (try simp only [Act.put, List.setIfInBounds_toArray, List.set_cons_zero, List.set_cons_succ])
  refine wpAnyZ_take [6, 5] (i := 4) (v := ?va24) (by simp only [List.getElem?_toArray, List.getElem?_cons_succ, List.getElem?_cons_zero]; rfl) (by decide +kernel) (fun _ _ _ h => h) (by rfl) ?ta24 ?sa24 ?_
  case ta24 => (intro w' h; clear h; go_simp; try rfl)
  case sa24 => exact trivial
  (try simp only [Act.put, List.setIfInBounds_toArray, List.set_cons_zero, List.set_cons_succ])
  refine wpAnyZ_take [6] (i := 5) (v := ?va25) (by simp only [List.getElem?_toArray, List.getElem?_cons_succ, List.getElem?_cons_zero]; rfl) (by decide +kernel) (fun _ _ _ h => h) (by rfl) ?ta25 ?sa25 ?_
  case ta25 => (intro w' h; clear h; go_simp; try rfl)
  case sa25 => exact trivial
  (try simp only [Act.put, List.setIfInBounds_toArray, List.set_cons_zero, List.set_cons_succ])
  refine wpAnyZ_one (i := 3) (by decide +kernel) ?_
  refine wpOpK_call (by simp only [List.getElem?_toArray, List.getElem?_cons_succ, List.getElem?_cons_zero]; rfl) (by rfl) (by go_simp; first | exact ⟨rfl, rfl⟩ | rfl) ?_
  refine (HC.out).mono ?_
  rintro e w2 ⟨rfl, hs⟩
  have G2 := Lib.hid (D2.out.next tyRd hs)
  clear hs HC
  simp only at G2
  refine ⟨_, rfl, .inr trivial, ?_⟩
  (try simp only [Act.put, List.setIfInBounds_toArray, List.set_cons_zero, List.set_cons_succ])
  refine wpAnyZ_take [] (i := 6) (v := ?va26) (by simp only [List.getElem?_toArray, List.getElem?_cons_succ, List.getElem?_cons_zero]; rfl) (by decide +kernel) (fun _ _ _ h => h) (by rfl) ?ta26 ?sa26 ?_
  case ta26 => (intro w' h; clear h; go_simp; try rfl)
  case sa26 => exact trivial
  (try simp only [Act.put, List.setIfInBounds_toArray, List.set_cons_zero, List.set_cons_succ])
  have c30 := G2.out.cell (j := 30) rfl
  have f30 := G2.out.free 30
  have zx2 := G2.out.lt
  refine wpAnyZ_one (i := 7) (by decide +kernel) ?_
  refine wpOpK_skip (w' := w2.setCell ⟨xb, 30, none⟩ (.int .i64 v2)) (by simp only [List.getElem?_toArray, List.getElem?_cons_succ, List.getElem?_cons_zero]; rfl) (by rfl) ?ma27 ⟨.inl rfl, ?_⟩
  case ma27 => (go_simp; try rfl)
  (try simp only [Act.put, List.setIfInBounds_toArray, List.set_cons_zero, List.set_cons_succ])
  refine wpAnyZ_done (by kernel_rfl) (NoPanic.normal ?_) _
  obtain ⟨x2, hx2⟩ : ∃ x, x = w2.setCell ⟨xb, 30, none⟩ (.int .i64 v2) := ⟨_, rfl⟩
  have H2 := Lib.hid (G2.out.store tyRd 30 (.int .i64 v2))
  rw [← hx2] at H2 ⊢
  have hxs2 := Lib.hid hx2.symm
  clear hx2 c30 f30 zx2 G2 D2 H1
  go_wp2
  rw [rounds_succ]
  have D3 := Lib.hid (H2.out.quiet (Below.drew (Below.refl _ _)))
  have HC := Lib.hid (rd_signed w0 x2.drew rb sv B s2 D3.out.rd)
  obtain ⟨r3, hr3⟩ : ∃ r, r = sgnR B s2 := ⟨_, rfl⟩
  rw [← hr3] at HC
  have hb3 := unS_range (numR_range hby s2).1 (numR_range hby s2).2
  have hb3 : -2147483648 ≤ (sgnR B s2).1 ∧ (sgnR B s2).1 < 2147483648 := hb3
  rw [← hr3] at hb3
  have HR3 := Lib.hid hr3
  obtain ⟨v3, s3⟩ := r3
  simp only at hb3
  obtain ⟨hb3a, hb3b⟩ := hb3
  clear hr3
  go_upto_region 3 with (fail)
  refine wp_region_noPanic ?_
  refine wp_region_Z (fun _ => True) 7 (by kernel_rfl) ?_
  change wpAnyZ _ _ _ _ _ _ 8 (Array.replicate 8 false) _ _
  refine wpAnyZ_take [6] (i := 0) (v := ?va30) (by simp only [List.getElem?_toArray, List.getElem?_cons_succ, List.getElem?_cons_zero]; rfl) (by decide +kernel) (fun _ _ _ h => h) (by rfl) ?ta30 ?sa30 ?_
  case ta30 => (intro w' h; clear h; go_simp; try rfl)
  case sa30 => exact trivial
  (try simp only [Act.put, List.setIfInBounds_toArray, List.set_cons_zero, List.set_cons_succ])
  refine wpAnyZ_take [6] (i := 1) (v := ?va31) (by simp only [List.getElem?_toArray, List.getElem?_cons_succ, List.getElem?_cons_zero]; rfl) (by decide +kernel) (fun _ _ _ h => h) (by rfl) ?ta31 ?sa31 ?_
  case ta31 => (intro w' h; clear h; go_simp; try rfl)
  case sa31 => exact trivial
  (try simp only [Act.put, List.setIfInBounds_toArray, List.set_cons_zero, List.set_cons_succ])
  refine wpAnyZ_take [6] (i := 2) (v := ?va32) (by simp only [List.getElem?_toArray, List.getElem?_cons_succ, List.getElem?_cons_zero]; rfl) (by decide +kernel) (fun _ _ _ h => h) (by rfl) ?ta32 ?sa32 ?_
  case ta32 => (intro w' h; clear h; go_simp; try rfl)
  case sa32 => exact trivial
  (try simp only [Act.put, List.setIfInBounds_toArray, List.set_cons_zero, List.set_cons_succ])
  refine wpAnyZ_take [6, 5] (i := 4) (v := ?va34) (by simp only [List.getElem?_toArray, List.getElem?_cons_succ, List.getElem?_cons_zero]; rfl) (by decide +kernel) (fun _ _ _ h => h) (by rfl) ?ta34 ?sa34 ?_
  case ta34 => (intro w' h; clear h; go_simp; try rfl)
  case sa34 => exact trivial
  (try simp only [Act.put, List.setIfInBounds_toArray, List.set_cons_zero, List.set_cons_succ])
  refine wpAnyZ_take [6] (i := 5) (v := ?va35) (by simp only [List.getElem?_toArray, List.getElem?_cons_succ, List.getElem?_cons_zero]; rfl) (by decide +kernel) (fun _ _ _ h => h) (by rfl) ?ta35 ?sa35 ?_
  case ta35 => (intro w' h; clear h; go_simp; try rfl)
  case sa35 => exact trivial
  (try simp only [Act.put, List.setIfInBounds_toArray, List.set_cons_zero, List.set_cons_succ])
  refine wpAnyZ_one (i := 3) (by decide +kernel) ?_
  refine wpOpK_call (by simp only [List.getElem?_toArray, List.getElem?_cons_succ, List.getElem?_cons_zero]; rfl) (by rfl) (by go_simp; first | exact ⟨rfl, rfl⟩ | rfl) ?_
  refine (HC.out).mono ?_
  rintro e w3 ⟨rfl, hs⟩
  have G3 := Lib.hid (D3.out.next tyRd hs)
  clear hs HC
  simp only at G3
  refine ⟨_, rfl, .inr trivial, ?_⟩
  (try simp only [Act.put, List.setIfInBounds_toArray, List.set_cons_zero, List.set_cons_succ])
  refine wpAnyZ_take [] (i := 6) (v := ?va36) (by simp only [List.getElem?_toArray, List.getElem?_cons_succ, List.getElem?_cons_zero]; rfl) (by decide +kernel) (fun _ _ _ h => h) (by rfl) ?ta36 ?sa36 ?_
  case ta36 => (intro w' h; clear h; go_simp; try rfl)
  case sa36 => exact trivial
  (try simp only [Act.put, List.setIfInBounds_toArray, List.set_cons_zero, List.set_cons_succ])
  have c31 := G3.out.cell (j := 31) rfl
  have f31 := G3.out.free 31
  have zx3 := G3.out.lt
  refine wpAnyZ_one (i := 7) (by decide +kernel) ?_
  refine wpOpK_skip (w' := w3.setCell ⟨xb, 31, none⟩ (.int .i64 v3)) (by simp only [List.getElem?_toArray, List.getElem?_cons_succ, List.getElem?_cons_zero]; rfl) (by rfl) ?ma37 ⟨.inl rfl, ?_⟩
  case ma37 => (go_simp; try rfl)
  (try simp only [Act.put, List.setIfInBounds_toArray, List.set_cons_zero, List.set_cons_succ])
  refine wpAnyZ_done (by kernel_rfl) (NoPanic.normal ?_) _
  obtain ⟨x3, hx3⟩ : ∃ x, x = w3.setCell ⟨xb, 31, none⟩ (.int .i64 v3) := ⟨_, rfl⟩
  have H3 := Lib.hid (G3.out.store tyRd 31 (.int .i64 v3))
  rw [← hx3] at H3 ⊢
  have hxs3 := Lib.hid hx3.symm
  clear hx3 c31 f31 zx3 G3 D3 H2
  go_wp2
  rw [rounds_succ]
  have D4 := Lib.hid (H3.out.quiet (Below.drew (Below.refl _ _)))
  have HC := Lib.hid (rd_signed w0 x3.drew rb sv B s3 D4.out.rd)
  obtain ⟨r4, hr4⟩ : ∃ r, r = sgnR B s3 := ⟨_, rfl⟩
  rw [← hr4] at HC
  have hb4 := unS_range (numR_range hby s3).1 (numR_range hby s3).2
  have hb4 : -2147483648 ≤ (sgnR B s3).1 ∧ (sgnR B s3).1 < 2147483648 := hb4
  rw [← hr4] at hb4
  have HR4 := Lib.hid hr4
  obtain ⟨v4, s4⟩ := r4
  simp only at hb4
  obtain ⟨hb4a, hb4b⟩ := hb4
  clear hr4
  go_upto_region 3 with (fail)
  refine wp_region_noPanic ?_
  refine wp_region_Z (fun _ => True) 7 (by kernel_rfl) ?_
  change wpAnyZ _ _ _ _ _ _ 8 (Array.replicate 8 false) _ _
  refine wpAnyZ_take [6] (i := 0) (v := ?va40) (by simp only [List.getElem?_toArray, List.getElem?_cons_succ, List.getElem?_cons_zero]; rfl) (by decide +kernel) (fun _ _ _ h => h) (by rfl) ?ta40 ?sa40 ?_
  case ta40 => (intro w' h; clear h; go_simp; try rfl)
  case sa40 => exact trivial
  (try simp only [Act.put, List.setIfInBounds_toArray, List.set_cons_zero, List.set_cons_succ])
  refine wpAnyZ_take [6] (i := 1) (v := ?va41) (by simp only [List.getElem?_toArray, List.getElem?_cons_succ, List.getElem?_cons_zero]; rfl) (by decide +kernel) (fun _ _ _ h => h) (by rfl) ?ta41 ?sa41 ?_
  case ta41 => (intro w' h; clear h; go_simp; try rfl)
  case sa41 => exact trivial
  (try simp only [Act.put, List.setIfInBounds_toArray, List.set_cons_zero, List.set_cons_succ])
  refine wpAnyZ_take [6] (i := 2) (v := ?va42) (by simp only [List.getElem?_toArray, List.getElem?_cons_succ, List.getElem?_cons_zero]; rfl) (by decide +kernel) (fun _ _ _ h => h) (by rfl) ?ta42 ?sa42 ?_
  case ta42 => (intro w' h; clear h; go_simp; try rfl)
  case sa42 => exact trivial
  (try simp only [Act.put, List.setIfInBounds_toArray, List.set_cons_zero, List.set_cons_succ])
  refine wpAnyZ_take [6, 5] (i := 4) (v := ?va44) (by simp only [List.getElem?_toArray, List.getElem?_cons_succ, List.getElem?_cons_zero]; rfl) (by decide +kernel) (fun _ _ _ h => h) (by rfl) ?ta44 ?sa44 ?_
  case ta44 => (intro w' h; clear h; go_simp; try rfl)
  case sa44 => exact trivial
  (try simp only [Act.put, List.setIfInBounds_toArray, List.set_cons_zero, List.set_cons_succ])
  refine wpAnyZ_take [6] (i := 5) (v := ?va45) (by simp only [List.getElem?_toArray, List.getElem?_cons_succ, List.getElem?_cons_zero]; rfl) (by decide +kernel) (fun _ _ _ h => h) (by rfl) ?ta45 ?sa45 ?_
  case ta45 => (intro w' h; clear h; go_simp; try rfl)
  case sa45 => exact trivial
  (try simp only [Act.put, List.setIfInBounds_toArray, List.set_cons_zero, List.set_cons_succ])
  refine wpAnyZ_one (i := 3) (by decide +kernel) ?_
  refine wpOpK_call (by simp only [List.getElem?_toArray, List.getElem?_cons_succ, List.getElem?_cons_zero]; rfl) (by rfl) (by go_simp; first | exact ⟨rfl, rfl⟩ | rfl) ?_
  refine (HC.out).mono ?_
  rintro e w4 ⟨rfl, hs⟩
  have G4 := Lib.hid (D4.out.next tyRd hs)
  clear hs HC
  simp only at G4
  refine ⟨_, rfl, .inr trivial, ?_⟩
  (try simp only [Act.put, List.setIfInBounds_toArray, List.set_cons_zero, List.set_cons_succ])
  refine wpAnyZ_take [] (i := 6) (v := ?va46) (by simp only [List.getElem?_toArray, List.getElem?_cons_succ, List.getElem?_cons_zero]; rfl) (by decide +kernel) (fun _ _ _ h => h) (by rfl) ?ta46 ?sa46 ?_
  case ta46 => (intro w' h; clear h; go_simp; try rfl)
  case sa46 => exact trivial
  (try simp only [Act.put, List.setIfInBounds_toArray, List.set_cons_zero, List.set_cons_succ])
  have c32 := G4.out.cell (j := 32) rfl
  have f32 := G4.out.free 32
  have zx4 := G4.out.lt
  refine wpAnyZ_one (i := 7) (by decide +kernel) ?_
  refine wpOpK_skip (w' := w4.setCell ⟨xb, 32, none⟩ (.int .i64 v4)) (by simp only [List.getElem?_toArray, List.getElem?_cons_succ, List.getElem?_cons_zero]; rfl) (by rfl) ?ma47 ⟨.inl rfl, ?_⟩
  case ma47 => (go_simp; try rfl)
  (try simp only [Act.put, List.setIfInBounds_toArray, List.set_cons_zero, List.set_cons_succ])
  refine wpAnyZ_done (by kernel_rfl) (NoPanic.normal ?_) _
  obtain ⟨x4, hx4⟩ : ∃ x, x = w4.setCell ⟨xb, 32, none⟩ (.int .i64 v4) := ⟨_, rfl⟩
  have H4 := Lib.hid (G4.out.store tyRd 32 (.int .i64 v4))
  rw [← hx4] at H4 ⊢
  have hxs4 := Lib.hid hx4.symm
  clear hx4 c32 f32 zx4 G4 D4 H3
  go_wp2
  rw [rounds_succ]
  go_wp2
  have E := Lib.hid (show partR y 12 B s = ({ y with x0 := v1, x1 := v2, x2 := v3, x3 := v4 }, s4) from by show (_, _) = _; rw [← HR1.out]; simp only; rw [← HR2.out]; simp only; rw [← HR3.out]; simp only; rw [← HR4.out])
  first | exact bodyPost_end (v := .tuple #[]) (results_none rfl _ _ _) rfl (get_mk E.out H4.out) | exact bodyPost_ret (v := .tuple #[]) (results_none rfl _ _ _) rfl (get_mk E.out H4.out)
set_option maxRecDepth 100000 in
set_option maxHeartbeats 8000000 in
theorem get4 (w0 W : World) (rb : Nat) (sv : Value) (B : List Int) (s : Rs) (xb : Nat) (y : Nd) (kv cv : Value) (hr : RdAt 100 w0 W rb sv B s) (hn : NdO w0.heap.size W xb (ndV y kv cv).toArray y.kids y.cols kv cv) (hnil : y.kids = []) : Calls Try.prog 85 #[.pointer (some ⟨rb, 0, none⟩), .pointer (some ⟨xb, 0, none⟩)] W (GetPost 100 w0 W rb sv B xb kv cv (partR y 4 B s)) := by
  obtain ⟨i0, hi, hz0, hz1, hz2⟩ := info_parts infoInt_
  have HI := Lib.hid (And.intro hi (And.intro hz0 (And.intro hz1 hz2)))
  have hby := hr.byte
  have hle := hr.len
  have H0 := Lib.hid (GetS.refl hr hn)
  rw [hnil] at H0
  clear hr hn hi hz0 hz1 hz2
  have HC := Lib.hid (rd_number w0 W rb sv B s H0.out.rd)
  obtain ⟨r1, hr1⟩ : ∃ r, r = numR B s := ⟨_, rfl⟩
  rw [← hr1] at HC
  have hb1 := numR_range hby s
  rw [← hr1] at hb1
  have HR1 := Lib.hid hr1
  obtain ⟨v1, s1⟩ := r1
  simp only at hb1
  obtain ⟨hb1a, hb1b⟩ := hb1
  clear hr1
  obtain ⟨n, rfl⟩ := Int.eq_ofNat_of_zero_le hb1a
  obtain ⟨res, hres⟩ : ∃ r, r = manyR numR n B s1 := ⟨_, rfl⟩
  have E := Lib.hid (show partR y 4 B s = ({ y with kids := res.1 }, res.2) from by show (_, _) = _; rw [← HR1.out]; simp only [Int.toNat_natCast]; rw [← hres])
  have HRES := Lib.hid (show (([] : List Int) ++ (manyR numR n B s1).1, (manyR numR n B s1).2) = res by rw [List.nil_append, hres])
  clear hres HR1
  go_enter Try.func85, Try.ntmps85
  go_wp2_with fail
  refine HC.out.mono ?_
  clear HC
  rintro e w1 ⟨rfl, hs⟩
  have H1 := Lib.hid (H0.out.next tyRd hs)
  clear hs H0
  simp only at H1 ⊢
  have hat : s1.at_ ≤ B.length := H1.out.rd.at_
  go_wp2
  go_loopw [4] (fun nv wr => ∃ (r : Nat) (l : List Int) (s2 : Rs) (kv1 : Value), nv = .int .i64 r ∧ r < 2147483648 ∧ RowKit.Hid (GetS 100 w0 W rb sv B xb kv cv s2 (ndV y kv1 cv).toArray l y.cols kv1 cv wr) ∧ RowKit.Hid ((l ++ (manyR numR r B s2).1, (manyR numR r B s2).2) = res) ∧ l.length ≤ B.length + 1 ∧ RowKit.Hid (s2.code = 0 → l.length ≤ s2.at_)) (fun nv _ => (intOf nv).toNat)
  case atStart => exact ⟨n, [], s1, kv, rfl, by omega, H1, HRES, by simp, Lib.hid (fun _ => by simp)⟩
  case round =>
    clear H1 HRES hb1a hb1b hat
    obtain ⟨r, l, s2, kv1, rfl, hr31, HS, HE, hll, HLC⟩ := hrel
    have k2 : wr.cell? ⟨rb, 2, none⟩ = some (.int .i64 s2.code) := HS.out.rd.cells.2.2.1
    have k3 := HS.out.rd.lt
    have hat : s2.at_ ≤ B.length := HS.out.rd.at_
    rcases Nat.eq_zero_or_pos r with rfl | hr0
    · have ER := Lib.hid (manyR_zero HE.out)
      have E2 := Lib.hid E.out
      rw [ER.out] at E2
      clear HE
      go_wp2
      first | exact bodyPost_end (v := .tuple #[]) (results_none rfl _ _ _) rfl (get_mk E2.out HS.out) | exact bodyPost_ret (v := .tuple #[]) (results_none rfl _ _ _) rfl (get_mk E2.out HS.out)
    · have hri : (0 : Int) < (r : Int) := by omega
      by_cases hcode : s2.code = 0
      · have hcb : (s2.code == 0) = true := by rw [beq_iff_eq]; exact hcode
        have hl2 := HLC.out hcode
        obtain ⟨r2, rfl⟩ : ∃ q, r = q + 1 := ⟨r - 1, by omega⟩
        have HE2 := Lib.hid (manyR_step HE.out hcode)
        clear HE HLC
        have D := Lib.hid (HS.out.quiet (Below.drew (Below.refl _ _)))
        have HC := Lib.hid (rd_number w0 wr.drew rb sv B s2 D.out.rd)
        obtain ⟨rr, hrr⟩ : ∃ q, q = numR B s2 := ⟨_, rfl⟩
        rw [← hrr] at HC HE2
        have hadv : rr.2.code = 0 → s2.at_ + 1 ≤ rr.2.at_ := fun h => by rw [hrr] at h ⊢; exact (numR_adv h).2
        have hat3 : s2.at_ ≤ rr.2.at_ + 0 ∨ True := .inr trivial
        clear hrr
        obtain ⟨v, s3⟩ := rr
        simp only at HE2 hadv
        go_upto_region 3 with (fail)
        have xc := HS.out.cell (j := 3) rfl
        have HS0 := Lib.hid (show wr.drew.cell? ⟨xb, 3, none⟩ = some kv1 from xc)
        clear xc k2 k3
        refine wp_region_noPanic ?_
        refine wp_region_Z (fun w' => w'.cell? ⟨xb, 3, none⟩ = some kv1) 11 (by kernel_rfl) ?_
        change wpAnyZ _ _ _ _ _ _ 12 (Array.replicate 12 false) _ _
        refine wpAnyZ_take [10, 9] (i := 0) (v := ?v0) (by simp only [List.getElem?_toArray, List.getElem?_cons_succ, List.getElem?_cons_zero]; rfl) (by decide +kernel) (fun _ _ _ h => h) (by rfl) ?t0 ?s0 ?_
        case t0 => (intro w' h; clear h; go_simp; try rfl)
        case s0 => exact HS0.out
        (try simp only [Act.put, List.setIfInBounds_toArray, List.set_cons_zero, List.set_cons_succ])
        refine wpAnyZ_take [10, 9] (i := 1) (v := ?v1) (by simp only [List.getElem?_toArray, List.getElem?_cons_succ, List.getElem?_cons_zero]; rfl) (by decide +kernel) (fun _ _ _ h => h) (by rfl) ?t1 ?s1 ?_
        case t1 => (intro w' h; clear h; go_simp; try rfl)
        case s1 => exact HS0.out
        (try simp only [Act.put, List.setIfInBounds_toArray, List.set_cons_zero, List.set_cons_succ])
        refine wpAnyZ_take [10, 9] (i := 2) (v := ?v2) (by simp only [List.getElem?_toArray, List.getElem?_cons_succ, List.getElem?_cons_zero]; rfl) (by decide +kernel) (fun _ _ _ h => h) (by rfl) ?t2 ?s2 ?_
        case t2 => (intro w' h; clear h; go_simp; try rfl)
        case s2 => exact HS0.out
        (try simp only [Act.put, List.setIfInBounds_toArray, List.set_cons_zero, List.set_cons_succ])
        refine wpAnyZ_take [10, 9] (i := 3) (v := ?v3) (by simp only [List.getElem?_toArray, List.getElem?_cons_succ, List.getElem?_cons_zero]; rfl) (by decide +kernel) (fun _ _ _ h => h) (by rfl) ?t3 ?s3 ?_
        case t3 => (intro w' h; clear h; go_simp; try rfl)
        case s3 => exact HS0.out
        (try simp only [Act.put, List.setIfInBounds_toArray, List.set_cons_zero, List.set_cons_succ])
        refine wpAnyZ_take [10, 9] (i := 4) (v := ?v4) (by simp only [List.getElem?_toArray, List.getElem?_cons_succ, List.getElem?_cons_zero]; rfl) (by decide +kernel) (fun _ _ _ h => h) (by rfl) ?t4 ?s4 ?_
        case t4 => (intro w' h; have FK := (fun w' (h : w'.cell? ⟨xb, 3, none⟩ = some kv1) => h) w' h; clear h; go_split_ands; go_simp; try rfl)
        case s4 => exact HS0.out
        (try simp only [Act.put, List.setIfInBounds_toArray, List.set_cons_zero, List.set_cons_succ])
        refine wpAnyZ_take [10, 9] (i := 5) (v := ?v5) (by simp only [List.getElem?_toArray, List.getElem?_cons_succ, List.getElem?_cons_zero]; rfl) (by decide +kernel) (fun _ _ _ h => h) (by rfl) ?t5 ?s5 ?_
        case t5 => (intro w' h; clear h; go_simp; try rfl)
        case s5 => exact HS0.out
        (try simp only [Act.put, List.setIfInBounds_toArray, List.set_cons_zero, List.set_cons_succ])
        refine wpAnyZ_one (i := 6) (by decide +kernel) ?_
        refine wpOpK_call (by simp only [List.getElem?_toArray, List.getElem?_cons_succ, List.getElem?_cons_zero]; rfl) (by rfl) (by go_simp; first | exact ⟨rfl, rfl⟩ | rfl) ?_
        refine (HC.out).mono ?_
        rintro e wa ⟨rfl, hs⟩
        have G := Lib.hid (D.out.next tyRd hs)
        clear hs HC
        simp only at G ⊢
        have HSa := Lib.hid (show wa.cell? ⟨xb, 3, none⟩ = some kv1 from G.out.cell rfl)
        refine ⟨_, rfl, .inr HSa.out, ?_⟩
        (try simp only [Act.put, List.setIfInBounds_toArray, List.set_cons_zero, List.set_cons_succ])
        have zx := G.out.lt
        have HSb := Lib.hid (show (wa.alloc (.cells #[.int .i64 v] 3)).cell? ⟨xb, 3, none⟩ = some kv1 from (World.cell?_alloc_past _ _ _ zx).trans HSa.out)
        refine wpAnyZ_one (i := 7) (by decide +kernel) ?_
        refine wpOpK_value (v := .slice (some ⟨wa.heap.size, 0, none⟩) 1 1) (w' := wa.alloc (.cells #[.int .i64 v] 3)) (by simp only [List.getElem?_toArray, List.getElem?_cons_succ, List.getElem?_cons_zero]; rfl) (by rfl) ?m7 ⟨.inr HSb.out, ?_⟩
        case m7 => (go_simp; try rfl)
        (try simp only [Act.put, List.setIfInBounds_toArray, List.set_cons_zero, List.set_cons_succ])
        have OWN := Lib.hid (G.out.nd.kown.alloc (.cells #[.int .i64 v] 3))
        have HON := Lib.hid (show ∀ u ∈ [Value.int .i64 v], u.oneCell' = true from fun u hu => by simp at hu; rcases hu with rfl <;> rfl)
        have hz0 : w0.heap.size ≤ wa.heap.size := by have := G.out.nd.zx; omega
        have HPU := Lib.hid (fun v' W2 own gr pl => G.out.pushK tyRd (below_al (Below.refl _ _) (.cells #[.int .i64 v] 3)) (W2 := W2) (v' := v') (m := l.length + 1) (xs := l.map (Value.int .i64) ++ [.int .i64 v]) (k := v) own (by simp) (by simp [itsV, itV]) gr pl)
        refine wpAnyZ_one (i := 8) (by decide +kernel) ?_
        refine wpOpK_append (by simp only [List.getElem?_toArray, List.getElem?_cons_succ, List.getElem?_cons_zero]; rfl) rfl (.tmp 22) (.tmp 25) 45 rfl w0.heap.size 3 i0 _ 1 8 Try.underlying45 HI.out.1 HI.out.2.1 HI.out.2.2.1 HI.out.2.2.2 rfl (by decide) _ l.length _ (by rfl) OWN.out ⟨wa.heap.size, 0, none⟩ 1 1 [.int .i64 v] (by rfl) rfl (World.news_of_block (cs := #[.int .i64 v]) (t := 3) (fr := (0, 0)) (heap_alloc_new _ _)) HON.out (by omega) ?h63 ?hby ?hbs ?_
        case h63 => (unfold maxLen; omega)
        case hby => omega
        case hbs => first | omega | (simp; omega)
        intro g cap W2 own gr hg hlt
        have HS3 := Lib.hid (HPU.out _ W2 own gr (hg.imp (fun h => h.symm) (fun h => by rw [h]; rfl)))
        clear own gr hg hlt HPU OWN HON
        have xc2 := HS3.out.cell (j := 3) rfl
        have xf2 := HS3.out.free 3
        have xz2 := HS3.out.lt
        refine ⟨.inr xc2, ?_⟩
        (try simp only [Act.put, List.setIfInBounds_toArray, List.set_cons_zero, List.set_cons_succ])
        refine wpAnyZ_take [10] (i := 9) (v := ?v9) (by simp only [List.getElem?_toArray, List.getElem?_cons_succ, List.getElem?_cons_zero]; rfl) (by decide +kernel) (fun _ _ _ h => h) (by rfl) ?t9 ?s9 ?_
        case t9 => (intro w' h; clear h; go_simp; try rfl)
        case s9 => exact xc2
        (try simp only [Act.put, List.setIfInBounds_toArray, List.set_cons_zero, List.set_cons_succ])
        refine wpAnyZ_take [] (i := 10) (v := ?v10) (by simp only [List.getElem?_toArray, List.getElem?_cons_succ, List.getElem?_cons_zero]; rfl) (by decide +kernel) (fun _ _ _ h => h) (by rfl) ?t10 ?s10 ?_
        case t10 => (intro w' h; clear h; go_simp; try rfl)
        case s10 => exact xc2
        (try simp only [Act.put, List.setIfInBounds_toArray, List.set_cons_zero, List.set_cons_succ])
        refine wpAnyZ_one (i := 11) (by decide +kernel) ?_
        refine wpOpK_skip (w' := W2.setCell ⟨xb, 3, none⟩ (.slice (some ⟨g, 0, none⟩) (l.length + 1) cap)) (by simp only [List.getElem?_toArray, List.getElem?_cons_succ, List.getElem?_cons_zero]; rfl) (by rfl) ?m11 ⟨.inl rfl, ?_⟩
        case m11 => (go_simp; try rfl)
        (try simp only [Act.put, List.setIfInBounds_toArray, List.set_cons_zero, List.set_cons_succ])
        refine wpAnyZ_done (by kernel_rfl) (NoPanic.normal ?_) _
        have HS4 := Lib.hid (HS3.out.store tyRd 3 (.slice (some ⟨g, 0, none⟩) (l.length + 1) cap))
        clear xc2 xf2 xz2 zx HS3 G D HS
        go_wp2
        go_roundw
        case rel => exact ⟨r2, l ++ [_], s3, _, by first | rfl | (congr 1; omega) | go_num, by omega, HS4, HE2, by rw [List.length_append]; simp; omega, Lib.hid (fun h => by rw [List.length_append]; simp; have := hadv h; omega)⟩
        case measure => simp [intOf]
      · have hcb : (s2.code == 0) = false := beq_eq_false_iff_ne.2 hcode
        have ER := Lib.hid (manyR_stop HE.out hcode)
        have E2 := Lib.hid E.out
        rw [ER.out] at E2
        clear HE
        go_wp2
        first | exact bodyPost_end (v := .tuple #[]) (results_none rfl _ _ _) rfl (get_mk E2.out HS.out) | exact bodyPost_ret (v := .tuple #[]) (results_none rfl _ _ _) rfl (get_mk E2.out HS.out)
set_option maxRecDepth 100000 in
set_option maxHeartbeats 8000000 in
theorem get11 (w0 W : World) (rb : Nat) (sv : Value) (B : List Int) (s : Rs) (xb : Nat) (y : Nd) (kv cv : Value) (hr : RdAt 100 w0 W rb sv B s) (hn : NdO w0.heap.size W xb (ndV y kv cv).toArray y.kids y.cols kv cv) (hnil : y.cols = []) : Calls Try.prog 101 #[.pointer (some ⟨rb, 0, none⟩), .pointer (some ⟨xb, 0, none⟩)] W (GetPost 100 w0 W rb sv B xb kv cv (partR y 11 B s)) := by
  obtain ⟨i0, hi, hz0, hz1, hz2⟩ := info_parts infoItm_
  have HI := Lib.hid (And.intro hi (And.intro hz0 (And.intro hz1 hz2)))
  have hby := hr.byte
  have hle := hr.len
  have H0 := Lib.hid (GetS.refl hr hn)
  rw [hnil] at H0
  clear hr hn hi hz0 hz1 hz2
  have HC := Lib.hid (rd_number w0 W rb sv B s H0.out.rd)
  obtain ⟨r1, hr1⟩ : ∃ r, r = numR B s := ⟨_, rfl⟩
  rw [← hr1] at HC
  have hb1 := numR_range hby s
  rw [← hr1] at hb1
  have HR1 := Lib.hid hr1
  obtain ⟨v1, s1⟩ := r1
  simp only at hb1
  obtain ⟨hb1a, hb1b⟩ := hb1
  clear hr1
  obtain ⟨n, rfl⟩ := Int.eq_ofNat_of_zero_le hb1a
  obtain ⟨res, hres⟩ : ∃ r, r = manyR itR n B s1 := ⟨_, rfl⟩
  have E := Lib.hid (show partR y 11 B s = ({ y with cols := res.1 }, res.2) from by show (_, _) = _; rw [← HR1.out]; simp only [Int.toNat_natCast]; rw [← hres])
  have HRES := Lib.hid (show (([] : List It) ++ (manyR itR n B s1).1, (manyR itR n B s1).2) = res by rw [List.nil_append, hres])
  clear hres HR1
  go_enter Try.func101, Try.ntmps101
  go_wp2_with fail
  refine HC.out.mono ?_
  clear HC
  rintro e w1 ⟨rfl, hs⟩
  have H1 := Lib.hid (H0.out.next tyRd hs)
  clear hs H0
  simp only at H1 ⊢
  have hat : s1.at_ ≤ B.length := H1.out.rd.at_
  go_wp2
  go_loopw [4] (fun nv wr => ∃ (r : Nat) (l : List It) (s2 : Rs) (kv1 : Value), nv = .int .i64 r ∧ r < 2147483648 ∧ RowKit.Hid (GetS 100 w0 W rb sv B xb kv cv s2 (ndV y kv kv1).toArray y.kids l kv kv1 wr) ∧ RowKit.Hid ((l ++ (manyR itR r B s2).1, (manyR itR r B s2).2) = res) ∧ l.length ≤ B.length + 1 ∧ RowKit.Hid (s2.code = 0 → l.length ≤ s2.at_)) (fun nv _ => (intOf nv).toNat)
  case atStart => exact ⟨n, [], s1, cv, rfl, by omega, H1, HRES, by simp, Lib.hid (fun _ => by simp)⟩
  case round =>
    clear H1 HRES hb1a hb1b hat
    obtain ⟨r, l, s2, kv1, rfl, hr31, HS, HE, hll, HLC⟩ := hrel
    have k2 : wr.cell? ⟨rb, 2, none⟩ = some (.int .i64 s2.code) := HS.out.rd.cells.2.2.1
    have k3 := HS.out.rd.lt
    have hat : s2.at_ ≤ B.length := HS.out.rd.at_
    rcases Nat.eq_zero_or_pos r with rfl | hr0
    · have ER := Lib.hid (manyR_zero HE.out)
      have E2 := Lib.hid E.out
      rw [ER.out] at E2
      clear HE
      go_wp2
      first | exact bodyPost_end (v := .tuple #[]) (results_none rfl _ _ _) rfl (get_mk E2.out HS.out) | exact bodyPost_ret (v := .tuple #[]) (results_none rfl _ _ _) rfl (get_mk E2.out HS.out)
    · have hri : (0 : Int) < (r : Int) := by omega
      by_cases hcode : s2.code = 0
      · have hcb : (s2.code == 0) = true := by rw [beq_iff_eq]; exact hcode
        have hl2 := HLC.out hcode
        obtain ⟨r2, rfl⟩ : ∃ q, r = q + 1 := ⟨r - 1, by omega⟩
        have HE2 := Lib.hid (manyR_step HE.out hcode)
        clear HE HLC
        have D := Lib.hid (HS.out.quiet (Below.drew (Below.refl _ _)))
        have HC := Lib.hid (rd_item w0 wr.drew rb sv B s2 D.out.rd)
        obtain ⟨rr, hrr⟩ : ∃ q, q = itR B s2 := ⟨_, rfl⟩
        rw [← hrr] at HC HE2
        have hadv : rr.2.code = 0 → s2.at_ + 1 ≤ rr.2.at_ := fun h => by rw [hrr] at h ⊢; exact (itR_adv h).2
        have hat3 : s2.at_ ≤ rr.2.at_ + 0 ∨ True := .inr trivial
        clear hrr
        obtain ⟨v, s3⟩ := rr
        simp only at HE2 hadv
        obtain ⟨vk, vn, vd, vl, vh⟩ := v
        go_upto_region 3 with (fail)
        have xc := HS.out.cell (j := 28) rfl
        have HS0 := Lib.hid (show wr.drew.cell? ⟨xb, 28, none⟩ = some kv1 from xc)
        clear xc k2 k3
        refine wp_region_noPanic ?_
        refine wp_region_Z (fun w' => w'.cell? ⟨xb, 28, none⟩ = some kv1) 11 (by kernel_rfl) ?_
        change wpAnyZ _ _ _ _ _ _ 12 (Array.replicate 12 false) _ _
        refine wpAnyZ_take [10, 9] (i := 0) (v := ?v0) (by simp only [List.getElem?_toArray, List.getElem?_cons_succ, List.getElem?_cons_zero]; rfl) (by decide +kernel) (fun _ _ _ h => h) (by rfl) ?t0 ?s0 ?_
        case t0 => (intro w' h; clear h; go_simp; try rfl)
        case s0 => exact HS0.out
        (try simp only [Act.put, List.setIfInBounds_toArray, List.set_cons_zero, List.set_cons_succ])
        refine wpAnyZ_take [10, 9] (i := 1) (v := ?v1) (by simp only [List.getElem?_toArray, List.getElem?_cons_succ, List.getElem?_cons_zero]; rfl) (by decide +kernel) (fun _ _ _ h => h) (by rfl) ?t1 ?s1 ?_
        case t1 => (intro w' h; clear h; go_simp; try rfl)
        case s1 => exact HS0.out
        (try simp only [Act.put, List.setIfInBounds_toArray, List.set_cons_zero, List.set_cons_succ])
        refine wpAnyZ_take [10, 9] (i := 2) (v := ?v2) (by simp only [List.getElem?_toArray, List.getElem?_cons_succ, List.getElem?_cons_zero]; rfl) (by decide +kernel) (fun _ _ _ h => h) (by rfl) ?t2 ?s2 ?_
        case t2 => (intro w' h; clear h; go_simp; try rfl)
        case s2 => exact HS0.out
        (try simp only [Act.put, List.setIfInBounds_toArray, List.set_cons_zero, List.set_cons_succ])
        refine wpAnyZ_take [10, 9] (i := 3) (v := ?v3) (by simp only [List.getElem?_toArray, List.getElem?_cons_succ, List.getElem?_cons_zero]; rfl) (by decide +kernel) (fun _ _ _ h => h) (by rfl) ?t3 ?s3 ?_
        case t3 => (intro w' h; clear h; go_simp; try rfl)
        case s3 => exact HS0.out
        (try simp only [Act.put, List.setIfInBounds_toArray, List.set_cons_zero, List.set_cons_succ])
        refine wpAnyZ_take [10, 9] (i := 4) (v := ?v4) (by simp only [List.getElem?_toArray, List.getElem?_cons_succ, List.getElem?_cons_zero]; rfl) (by decide +kernel) (fun _ _ _ h => h) (by rfl) ?t4 ?s4 ?_
        case t4 => (intro w' h; have FK := (fun w' (h : w'.cell? ⟨xb, 28, none⟩ = some kv1) => h) w' h; clear h; go_split_ands; go_simp; try rfl)
        case s4 => exact HS0.out
        (try simp only [Act.put, List.setIfInBounds_toArray, List.set_cons_zero, List.set_cons_succ])
        refine wpAnyZ_take [10, 9] (i := 5) (v := ?v5) (by simp only [List.getElem?_toArray, List.getElem?_cons_succ, List.getElem?_cons_zero]; rfl) (by decide +kernel) (fun _ _ _ h => h) (by rfl) ?t5 ?s5 ?_
        case t5 => (intro w' h; clear h; go_simp; try rfl)
        case s5 => exact HS0.out
        (try simp only [Act.put, List.setIfInBounds_toArray, List.set_cons_zero, List.set_cons_succ])
        refine wpAnyZ_one (i := 6) (by decide +kernel) ?_
        refine wpOpK_call (by simp only [List.getElem?_toArray, List.getElem?_cons_succ, List.getElem?_cons_zero]; rfl) (by rfl) (by go_simp; first | exact ⟨rfl, rfl⟩ | rfl) ?_
        refine (HC.out).mono ?_
        rintro e wa ⟨rfl, hs⟩
        have G := Lib.hid (D.out.next tyRd hs)
        clear hs HC
        simp only [itV] at G ⊢
        have HSa := Lib.hid (show wa.cell? ⟨xb, 28, none⟩ = some kv1 from G.out.cell rfl)
        refine ⟨_, rfl, .inr HSa.out, ?_⟩
        (try simp only [Act.put, List.setIfInBounds_toArray, List.set_cons_zero, List.set_cons_succ])
        have zx := G.out.lt
        have HSb := Lib.hid (show (wa.alloc (.cells #[.int .i8 vk, .int .i64 vn, .int .i64 vd, .int .i64 vl, .int .i64 vh] 57)).cell? ⟨xb, 28, none⟩ = some kv1 from (World.cell?_alloc_past _ _ _ zx).trans HSa.out)
        refine wpAnyZ_one (i := 7) (by decide +kernel) ?_
        refine wpOpK_value (v := .slice (some ⟨wa.heap.size, 0, none⟩) 1 1) (w' := wa.alloc (.cells #[.int .i8 vk, .int .i64 vn, .int .i64 vd, .int .i64 vl, .int .i64 vh] 57)) (by simp only [List.getElem?_toArray, List.getElem?_cons_succ, List.getElem?_cons_zero]; rfl) (by rfl) ?m7 ⟨.inr HSb.out, ?_⟩
        case m7 => (go_simp; try rfl)
        (try simp only [Act.put, List.setIfInBounds_toArray, List.set_cons_zero, List.set_cons_succ])
        have OWN := Lib.hid (G.out.nd.cown.alloc (.cells #[.int .i8 vk, .int .i64 vn, .int .i64 vd, .int .i64 vl, .int .i64 vh] 57))
        have HON := Lib.hid (show ∀ u ∈ [Value.int .i8 vk, Value.int .i64 vn, Value.int .i64 vd, Value.int .i64 vl, Value.int .i64 vh], u.oneCell' = true from fun u hu => by simp at hu; rcases hu with rfl | rfl | rfl | rfl | rfl <;> rfl)
        have hz0 : w0.heap.size ≤ wa.heap.size := by have := G.out.nd.zx; omega
        have HPU := Lib.hid (fun v' W2 own gr pl => G.out.pushC tyRd (below_al (Below.refl _ _) (.cells #[.int .i8 vk, .int .i64 vn, .int .i64 vd, .int .i64 vl, .int .i64 vh] 57)) (W2 := W2) (v' := v') (m := l.length + 1) (xs := itsV l ++ [.int .i8 vk, .int .i64 vn, .int .i64 vd, .int .i64 vl, .int .i64 vh]) (k := ⟨vk, vn, vd, vl, vh⟩) own (by simp) (by simp [itsV, itV]) gr pl)
        refine wpAnyZ_one (i := 8) (by decide +kernel) ?_
        refine wpOpK_append (by simp only [List.getElem?_toArray, List.getElem?_cons_succ, List.getElem?_cons_zero]; rfl) rfl (.tmp 22) (.tmp 25) 62 rfl w0.heap.size 57 i0 _ 5 40 Try.underlying62 HI.out.1 HI.out.2.1 HI.out.2.2.1 HI.out.2.2.2 rfl (by decide) _ l.length _ (by rfl) OWN.out ⟨wa.heap.size, 0, none⟩ 1 1 [.int .i8 vk, .int .i64 vn, .int .i64 vd, .int .i64 vl, .int .i64 vh] (by rfl) rfl (World.news_of_block (cs := #[.int .i8 vk, .int .i64 vn, .int .i64 vd, .int .i64 vl, .int .i64 vh]) (t := 57) (fr := (0, 0)) (heap_alloc_new _ _)) HON.out (by omega) ?h63 ?hby ?hbs ?_
        case h63 => (unfold maxLen; omega)
        case hby => omega
        case hbs => first | omega | (simp; omega)
        intro g cap W2 own gr hg hlt
        have HS3 := Lib.hid (HPU.out _ W2 own gr (hg.imp (fun h => h.symm) (fun h => by rw [h]; rfl)))
        clear own gr hg hlt HPU OWN HON
        have xc2 := HS3.out.cell (j := 28) rfl
        have xf2 := HS3.out.free 28
        have xz2 := HS3.out.lt
        refine ⟨.inr xc2, ?_⟩
        (try simp only [Act.put, List.setIfInBounds_toArray, List.set_cons_zero, List.set_cons_succ])
        refine wpAnyZ_take [10] (i := 9) (v := ?v9) (by simp only [List.getElem?_toArray, List.getElem?_cons_succ, List.getElem?_cons_zero]; rfl) (by decide +kernel) (fun _ _ _ h => h) (by rfl) ?t9 ?s9 ?_
        case t9 => (intro w' h; clear h; go_simp; try rfl)
        case s9 => exact xc2
        (try simp only [Act.put, List.setIfInBounds_toArray, List.set_cons_zero, List.set_cons_succ])
        refine wpAnyZ_take [] (i := 10) (v := ?v10) (by simp only [List.getElem?_toArray, List.getElem?_cons_succ, List.getElem?_cons_zero]; rfl) (by decide +kernel) (fun _ _ _ h => h) (by rfl) ?t10 ?s10 ?_
        case t10 => (intro w' h; clear h; go_simp; try rfl)
        case s10 => exact xc2
        (try simp only [Act.put, List.setIfInBounds_toArray, List.set_cons_zero, List.set_cons_succ])
        refine wpAnyZ_one (i := 11) (by decide +kernel) ?_
        refine wpOpK_skip (w' := W2.setCell ⟨xb, 28, none⟩ (.slice (some ⟨g, 0, none⟩) (l.length + 1) cap)) (by simp only [List.getElem?_toArray, List.getElem?_cons_succ, List.getElem?_cons_zero]; rfl) (by rfl) ?m11 ⟨.inl rfl, ?_⟩
        case m11 => (go_simp; try rfl)
        (try simp only [Act.put, List.setIfInBounds_toArray, List.set_cons_zero, List.set_cons_succ])
        refine wpAnyZ_done (by kernel_rfl) (NoPanic.normal ?_) _
        have HS4 := Lib.hid (HS3.out.store tyRd 28 (.slice (some ⟨g, 0, none⟩) (l.length + 1) cap))
        clear xc2 xf2 xz2 zx HS3 G D HS
        go_wp2
        go_roundw
        case rel => exact ⟨r2, l ++ [_], s3, _, by first | rfl | (congr 1; omega) | go_num, by omega, HS4, HE2, by rw [List.length_append]; simp; omega, Lib.hid (fun h => by rw [List.length_append]; simp; have := hadv h; omega)⟩
        case measure => simp [intOf]
      · have hcb : (s2.code == 0) = false := beq_eq_false_iff_ne.2 hcode
        have ER := Lib.hid (manyR_stop HE.out hcode)
        have E2 := Lib.hid E.out
        rw [ER.out] at E2
        clear HE
        go_wp2
        first | exact bodyPost_end (v := .tuple #[]) (results_none rfl _ _ _) rfl (get_mk E2.out HS.out) | exact bodyPost_ret (v := .tuple #[]) (results_none rfl _ _ _) rfl (get_mk E2.out HS.out)
end Go.Proofs.Ytcihihncgpddfaa
