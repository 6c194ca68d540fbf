/- Reading trees' bytes: a tree of the call's own; what the reading of its nodes leaves. -/
import Derived.Test.YtcihihncgpddfaaGetZ
import Derived.Test.YtcihihncgpddfaaLntA
import Derived.Test.YtcihihncgpddfaaWrD
import Derived.Test.YtcihihncgpddfaaTreD
namespace Go.Proofs.Ytcihihncgpddfaa
open Go.RowKit Go.Deep
set_option linter.unusedVariables false
set_option linter.unusedSimpArgs false

def ndsV (T : List Nd) (kvs cvs : Nat → Value) : List Value := (List.range T.length).flatMap fun i => ndV (T.getD i zNd) (kvs i) (cvs i)
theorem flt34 (f : Nat → List Value) (hf : ∀ i, (f i).length = 34) : ∀ n, ((List.range n).flatMap f).length = n * 34
  | 0 => rfl
  | n + 1 => by rw [List.range_succ, List.flatMap_append, List.length_append, flt34 f hf n]; simp [hf]; omega
theorem flt34_get (f : Nat → List Value) (hf : ∀ i, (f i).length = 34) : ∀ n i j, i < n → j < 34 → ((List.range n).flatMap f)[i * 34 + j]? = (f i)[j]?
  | 0, i, j, hi, _ => by omega
  | n + 1, i, j, hi, hj => by
    rw [List.range_succ, List.flatMap_append]
    have hl := flt34 f hf n
    by_cases h : i < n
    · rw [List.getElem?_append_left (by rw [hl]; omega)]
      exact flt34_get f hf n i j h hj
    · obtain rfl : i = n := by omega
      rw [List.getElem?_append_right (by rw [hl]; omega), hl]
      simp only [List.flatMap_cons, List.flatMap_nil, List.append_nil]
      congr 1
      omega
theorem ndsV_len (T : List Nd) (kvs cvs : Nat → Value) : (ndsV T kvs cvs).length = T.length * 34 := flt34 _ (fun _ => rfl) _
theorem ndsV_get (T : List Nd) (kvs cvs : Nat → Value) {i j : Nat} (hi : i < T.length) (hj : j < 34) : (ndsV T kvs cvs)[i * 34 + j]? = (ndV (T.getD i zNd) (kvs i) (cvs i))[j]? := flt34_get _ (fun _ => rfl) _ i j hi hj
theorem getD_snoc {T : List Nd} {x : Nd} {i : Nat} (h : i < T.length) : (T ++ [x]).getD i zNd = T.getD i zNd := by
  rw [List.getD_eq_getElem?_getD, List.getD_eq_getElem?_getD, List.getElem?_append_left h]
theorem getD_last {T : List Nd} {x : Nd} : (T ++ [x]).getD T.length zNd = x := by
  rw [List.getD_eq_getElem?_getD, List.getElem?_append_right (Nat.le_refl _)]; simp
theorem ndsV_snoc (T : List Nd) (x : Nd) (kvs cvs : Nat → Value) (kv cv : Value) : ndsV (T ++ [x]) (upd kvs T.length kv) (upd cvs T.length cv) = ndsV T kvs cvs ++ ndV x kv cv := by
  unfold ndsV
  rw [List.length_append, List.length_singleton, List.range_succ, List.flatMap_append]
  congr 1
  · rw [List.flatMap_def, List.flatMap_def]
    congr 1
    refine List.map_congr_left fun i hi => ?_
    have hi : i < T.length := List.mem_range.1 hi
    rw [getD_snoc hi, upd_other (by omega), upd_other (by omega)]
  · simp only [List.flatMap_cons, List.flatMap_nil, List.append_nil]
    rw [getD_last, upd_same, upd_same]
/-- a tree of the call's own: each list a row of its own -/
structure OwnT (base : Nat) (W : World) (tv : Value) (T : List Nd) (kvs cvs : Nat → Value) : Prop where
  row : W.ownsRow base 64 34 tv T.length (ndsV T kvs cvs)
  kr : ∀ i, i < T.length → W.ownsRow base 3 1 (kvs i) (T.getD i zNd).kids.length ((T.getD i zNd).kids.map (Value.int .i64))
  cr : ∀ i, i < T.length → W.ownsRow base 57 5 (cvs i) (T.getD i zNd).cols.length (itsV (T.getD i zNd).cols)
  kd : ∀ i j, i < T.length → j < T.length → i ≠ j → ∀ b, (kvs i).ownBlock = some b → (kvs j).ownBlock ≠ some b
  cd : ∀ i j, i < T.length → j < T.length → i ≠ j → ∀ b, (cvs i).ownBlock = some b → (cvs j).ownBlock ≠ some b
/-- b is one of the tree's blocks -/
def OwnT.Has (tv : Value) (T : List Nd) (kvs cvs : Nat → Value) (b : Nat) : Prop := tv.ownBlock = some b ∨ ∃ i, i < T.length ∧ ((kvs i).ownBlock = some b ∨ (cvs i).ownBlock = some b)
theorem OwnT.nil (base : Nat) (W : World) (kvs cvs : Nat → Value) : OwnT base W (.slice none 0 0) [] kvs cvs :=
  ⟨⟨rfl, .inl ⟨rfl, rfl⟩⟩, fun i h => absurd h (Nat.not_lt_zero _), fun i h => absurd h (Nat.not_lt_zero _), fun i j h => absurd h (Nat.not_lt_zero _), fun i j h => absurd h (Nat.not_lt_zero _)⟩
section
variable {base : Nat} {W W' : World} {tv : Value} {T : List Nd} {kvs cvs : Nat → Value}
theorem OwnT.has_lt (h : OwnT base W tv T kvs cvs) {b : Nat} (hb : OwnT.Has tv T kvs cvs b) : b < W.heap.size ∧ base ≤ b := by
  rcases hb with e | ⟨i, hi, e | e⟩
  · exact row_lt h.row b e
  · exact row_lt (h.kr i hi) b e
  · exact row_lt (h.cr i hi) b e
theorem OwnT.kept (h : OwnT base W tv T kvs cvs) (hk : ∀ b, OwnT.Has tv T kvs cvs b → W'.heap[b]? = W.heap[b]?) : OwnT base W' tv T kvs cvs :=
  ⟨row_kept h.row fun g e => hk g (.inl e), fun i hi => row_kept (h.kr i hi) fun g e => hk g (.inr ⟨i, hi, .inl e⟩), fun i hi => row_kept (h.cr i hi) fun g e => hk g (.inr ⟨i, hi, .inr e⟩), h.kd, h.cd⟩
theorem OwnT.later (h : OwnT base W tv T kvs cvs) (hb : Below W.heap.size W W') : OwnT base W' tv T kvs cvs := h.kept fun b e => hb.block b (h.has_lt e).1
/-- none of its blocks is one of another type -/
theorem OwnT.not_has (h : OwnT base W tv T kvs cvs) {b : Nat} {cur : Array Value} {t : TypeId} {fr : Nat × Nat} (hb : W.heap[b]? = some (.cells cur t fr)) (h1 : 64 ≠ t) (h2 : 3 ≠ t) (h3 : 57 ≠ t) : ¬ OwnT.Has tv T kvs cvs b := by
  rintro (e | ⟨i, hi, e | e⟩)
  · exact row_blk_ne h.row hb h1 e
  · exact row_blk_ne (h.kr i hi) hb h2 e
  · exact row_blk_ne (h.cr i hi) hb h3 e
theorem OwnT.tree (h : OwnT base W tv T kvs cvs) (ok : ∀ x ∈ T, NdOk x) : ∃ p c, tv = .slice p T.length c ∧ TreeAt W tv T := by
  rcases row_form h.row with ⟨rfl, h0, _⟩ | ⟨g, c, rfl, hn, hm, hz, _⟩
  · have : T = [] := List.eq_nil_of_length_eq_zero h0
    subst this
    exact ⟨none, 0, rfl, ok, by simp, none, 0, rfl, Nat.le_refl _, by omega, fun h => absurd h (Nat.lt_irrefl _)⟩
  · unfold maxLen at hm
    refine ⟨_, c, rfl, ok, by omega, _, c, rfl, hn, by omega, fun h0 => ⟨g, 0, rfl, hz, fun i hi => ?_⟩⟩
    refine ⟨kvs i, cvs i, row_ints (h.kr i hi), row_items (h.cr i hi), fun j hj => ?_⟩
    have e := ndsV_get T kvs cvs hi hj
    have hl : j < (ndV (T.getD i zNd) (kvs i) (cvs i)).length := by rw [ndV_len]; exact hj
    rw [List.getElem?_eq_getElem hl] at e ⊢
    have := row_cells h.row _ _ e
    rw [Nat.add_assoc]
    exact this
end
/-- what the loop over the nodes leaves -/
structure DecS (ty : TypeId) (w0 : World) (rb : Nat) (sv : Value) (B : List Int) (r0 tb gp : Nat) (s : Rs) (l : List Nd) (tv : Value) (kvs cvs : Nat → Value) (W : World) : Prop where
  rd : RdAt ty w0 W rb sv B s
  own : OwnT w0.heap.size W tv l kvs cvs
  box : W.heap[tb]? = some (.cells #[tv] 24 (0, 0))
  res : W.heap[r0]? = some (.cells #[.slice none 0 0] 24 (0, 0))
  prt : W.heap[gp]? = some (.cells partsA 90 (0, 0))
  zt : w0.heap.size ≤ tb
  ne : r0 ≠ tb
def nodeZ : Array Value := (ndV zNd (.slice none 0 0) (.slice none 0 0)).toArray
theorem nodeZ_own (base : Nat) (W : World) (hz : base ≤ W.heap.size) : NdO base (W.alloc (.cells nodeZ 64)) W.heap.size nodeZ [] [] (.slice none 0 0) (.slice none 0 0) :=
  ⟨heap_alloc_new _ _, ⟨rfl, .inl ⟨rfl, rfl⟩⟩, ⟨rfl, .inl ⟨rfl, rfl⟩⟩, hz⟩
section
variable {ty : TypeId} {w0 W W1 WA W2 : World} {rb r0 tb gp : Nat} {sv tv kv cv : Value} {B : List Int} {s s1 : Rs} {l : List Nd} {kvs cvs : Nat → Value} {y : Nd} {cs : Array Value} {ks : List Int} {its : List It}
theorem DecS.start (h : DecS ty w0 rb sv B r0 tb gp s l tv kvs cvs W) : GetS ty w0 (W.alloc (.cells nodeZ 64)) rb sv B W.heap.size (.slice none 0 0) (.slice none 0 0) s nodeZ [] [] (.slice none 0 0) (.slice none 0 0) (W.alloc (.cells nodeZ 64)) :=
  GetS.refl (h.rd.later (below_al (Below.refl _ _) _)) (nodeZ_own _ _ (by have := h.rd.zb; have := h.rd.lt; omega))
/-- a node has been read: what stood is as it was -/
theorem DecS.got (hty : ty ≠ 24 ∧ ty ≠ 90) (hyo : TyOk ty) (h : DecS ty w0 rb sv B r0 tb gp s l tv kvs cvs W) (g : GetS ty w0 (W.alloc (.cells nodeZ 64)) rb sv B W.heap.size (.slice none 0 0) (.slice none 0 0) s1 cs ks its kv cv W1) : DecS ty w0 rb sv B r0 tb gp s1 l tv kvs cvs W1 := by
  have hz : (W.alloc (.cells nodeZ 64)).heap.size = W.heap.size + 1 := by simp
  have hfr : ∀ b, b < W.heap.size → b ≠ rb → W1.heap[b]? = W.heap[b]? := fun b h1 h2 => (g.fr b (by omega) h2 (by omega) (by simp [Value.ownBlock]) (by simp [Value.ownBlock])).trans (heap_alloc_old _ _ h1)
  have hrb : ∀ {b : Nat} {cur : Array Value} {t : TypeId} {fr : Nat × Nat}, W.heap[b]? = some (.cells cur t fr) → ty ≠ t → b ≠ rb := fun hb hne e => by
    rw [e, h.rd.blk] at hb
    injection hb with hb
    injection hb with _ h2 _
    exact hne h2
  refine ⟨g.rd, h.own.kept fun b e => hfr b (h.own.has_lt e).1 (fun e' => h.own.not_has h.rd.blk (Ne.symm hyo.n) (Ne.symm hyo.i) (Ne.symm hyo.t) (e' ▸ e)), ?_, ?_, ?_, h.zt, h.ne⟩
  · exact (hfr tb (lt_of_block h.box) (hrb h.box hty.1)).trans h.box
  · exact (hfr r0 (lt_of_block h.res) (hrb h.res hty.1)).trans h.res
  · exact (hfr gp (lt_of_block h.prt) (hrb h.prt hty.2)).trans h.prt
/-- it has been appended, the tree's field has been set -/
theorem DecS.push (hty : ty ≠ 24 ∧ ty ≠ 90) (hyo : TyOk ty) (h : DecS ty w0 rb sv B r0 tb gp s l tv kvs cvs W) (g : GetS ty w0 (W.alloc (.cells nodeZ 64)) rb sv B W.heap.size (.slice none 0 0) (.slice none 0 0) s1 (ndV y kv cv).toArray y.kids y.cols kv cv W1)
    (hb : Below W1.heap.size W1 WA) {v' : Value} {m : Nat} {xs : List Value} (own : W2.ownsRow w0.heap.size 64 34 v' m xs) (hm : m = l.length + 1) (hxs : xs = ndsV l kvs cvs ++ ndV y kv cv) (gr : WA.grownBy W2 tv.ownBlock) :
    W2.heap[tb]? = some (.cells #[tv] 24 (0, 0)) ∧ DecS ty w0 rb sv B r0 tb gp s1 (l ++ [y]) v' (upd kvs l.length kv) (upd cvs l.length cv) (W2.setCell ⟨tb, 0, none⟩ v') := by
  have h1 := h.got hty hyo g
  have z1 := g.sz
  have zA := hb.size
  have zg := gr.size
  have hz : (W.alloc (.cells nodeZ 64)).heap.size = W.heap.size + 1 := by simp
  have hz0 : w0.heap.size ≤ WA.heap.size := by have := g.rd.zb; have := g.rd.lt; omega
  have f1 : ∀ b, b < W1.heap.size → tv.ownBlock ≠ some b → W2.heap[b]? = W1.heap[b]? := fun b h2 h3 => (gr.block b (by omega) (fun e => h3 e.symm)).trans (hb.block b h2)
  have hbox : W2.heap[tb]? = some (.cells #[tv] 24 (0, 0)) := (f1 tb (lt_of_block h1.box) (row_blk_ne h1.own.row h1.box (by decide))).trans h1.box
  refine ⟨hbox, ?_⟩
  have hne : v'.ownBlock ≠ some tb := row_blk_ne own hbox (by decide)
  have f2 : ∀ b, b < W1.heap.size → tv.ownBlock ≠ some b → b ≠ tb → (W2.setCell ⟨tb, 0, none⟩ v').heap[b]? = W1.heap[b]? := fun b h2 h3 h4 => (blk_setCell_other _ _ _ _ (by simpa using h4)).trans (f1 b h2 h3)
  have ntb : ∀ {b : Nat} {cur : Array Value} {t : TypeId} {fr : Nat × Nat}, W1.heap[b]? = some (.cells cur t fr) → t ≠ 24 → b ≠ tb := fun hb' hne' e => by
    rw [e, h1.box] at hb'
    injection hb' with hb'
    injection hb' with _ h2 _
    exact hne' h2.symm
  have lrow : ∀ {t : TypeId} {k n : Nat} {v : Value} {xs : List Value}, W1.ownsRow w0.heap.size t k v n xs → t ≠ 64 → t ≠ 24 → (W2.setCell ⟨tb, 0, none⟩ v').ownsRow w0.heap.size t k v n xs := fun hr hn ht => row_kept hr fun b e => f2 b (row_lt hr b e).1 (fun e' => by
      rcases row_ne hr h1.own.row hn with e0 | e0
      · rw [e0] at e; cases e
      · exact e0 (e.trans e'.symm)) (fun e' => row_blk_ne hr h1.box ht (e' ▸ e))
  have hlen : (l ++ [y]).length = l.length + 1 := by simp
  have kup : ∀ b, kv.ownBlock = some b → W.heap.size ≤ b := fun b e => by
    rcases g.kg b e with e' | e'
    · cases e'
    · omega
  have cup : ∀ b, cv.ownBlock = some b → W.heap.size ≤ b := fun b e => by
    rcases g.cg b e with e' | e'
    · cases e'
    · omega
  refine ⟨⟨(f2 rb g.rd.lt (row_blk_ne h1.own.row h1.rd.blk (Ne.symm hyo.n)) (ntb h1.rd.blk hty.1)).trans g.rd.blk, g.rd.zb, ?_, g.rd.src, g.rd.at_, g.rd.len, g.rd.byte⟩, ⟨?_, fun i hi => ?_, fun i hi => ?_, fun i j hi hj hij b e => ?_, fun i j hi hj hij b e => ?_⟩, one_set hbox, ?_, ?_, h.zt, h.ne⟩
  · exact (Below.grown (below_via hb g.rd.be) gr hz0 (fun k hk => (row_lt h1.own.row k hk).2)).setCell (p := ⟨tb, 0, none⟩) h.zt v'
  · rw [hlen, ndsV_snoc]
    subst hm hxs
    exact ownsRow_setCell_other own hne _
  · rw [hlen] at hi
    by_cases hlt : i < l.length
    · rw [getD_snoc hlt, upd_other (by omega)]
      exact lrow (h1.own.kr i hlt) (by decide) (by decide)
    · obtain rfl : i = l.length := by omega
      rw [getD_last, upd_same]
      exact lrow g.nd.kown (by decide) (by decide)
  · rw [hlen] at hi
    by_cases hlt : i < l.length
    · rw [getD_snoc hlt, upd_other (by omega)]
      exact lrow (h1.own.cr i hlt) (by decide) (by decide)
    · obtain rfl : i = l.length := by omega
      rw [getD_last, upd_same]
      exact lrow g.nd.cown (by decide) (by decide)
  · rw [hlen] at hi hj
    by_cases h2 : i < l.length
    · rw [upd_other (by omega)] at e
      by_cases h3 : j < l.length
      · rw [upd_other (by omega)]
        exact h.own.kd i j h2 h3 hij b e
      · obtain rfl : j = l.length := by omega
        rw [upd_same]
        intro e'
        have := (row_lt (h.own.kr i h2) b e).1
        have := kup b e'
        omega
    · obtain rfl : i = l.length := by omega
      rw [upd_same] at e
      rw [upd_other (by omega)]
      intro e'
      have := (row_lt (h.own.kr j (by omega)) b e').1
      have := kup b e
      omega
  · rw [hlen] at hi hj
    by_cases h2 : i < l.length
    · rw [upd_other (by omega)] at e
      by_cases h3 : j < l.length
      · rw [upd_other (by omega)]
        exact h.own.cd i j h2 h3 hij b e
      · obtain rfl : j = l.length := by omega
        rw [upd_same]
        intro e'
        have := (row_lt (h.own.cr i h2) b e).1
        have := cup b e'
        omega
    · obtain rfl : i = l.length := by omega
      rw [upd_same] at e
      rw [upd_other (by omega)]
      intro e'
      have := (row_lt (h.own.cr j (by omega)) b e').1
      have := cup b e
      omega
  · exact (f2 r0 (lt_of_block h1.res) (row_blk_ne h1.own.row h1.res (by decide)) h.ne).trans h1.res
  · exact (f2 gp (lt_of_block h1.prt) (row_blk_ne h1.own.row h1.prt (by decide)) (ntb h1.prt (by decide))).trans h1.prt
end
/-- every closure by its number -/
theorem get_any (k : Nat) (hk : k < 13) (w0 W : World) (rb : Nat) (sv : Value) (B : List Int) (s : Rs) (xb : Nat) (y : Nd) (kv cv : Value) (hr : RdAt 100 w0 W rb sv B s) (hn : NdO w0.heap.size W xb (ndV y kv cv).toArray y.kids y.cols kv cv) (h4 : k = 4 → y.kids = []) (h11 : k = 11 → y.cols = []) : Calls Try.prog (getF k) #[.pointer (some ⟨rb, 0, none⟩), .pointer (some ⟨xb, 0, none⟩)] W (GetPost 100 w0 W rb sv B xb kv cv (partR y k B s)) := by
  match k, hk with
  | 0, _ => exact get0 w0 W rb sv B s xb y kv cv hr hn
  | 1, _ => exact get1 w0 W rb sv B s xb y kv cv hr hn
  | 2, _ => exact get2 w0 W rb sv B s xb y kv cv hr hn
  | 3, _ => exact get3 w0 W rb sv B s xb y kv cv hr hn
  | 4, _ => exact get4 w0 W rb sv B s xb y kv cv hr hn (h4 rfl)
  | 5, _ => exact get5 w0 W rb sv B s xb y kv cv hr hn
  | 6, _ => exact get6 w0 W rb sv B s xb y kv cv hr hn
  | 7, _ => exact get7 w0 W rb sv B s xb y kv cv hr hn
  | 8, _ => exact get8 w0 W rb sv B s xb y kv cv hr hn
  | 9, _ => exact get9 w0 W rb sv B s xb y kv cv hr hn
  | 10, _ => exact get10 w0 W rb sv B s xb y kv cv hr hn
  | 11, _ => exact get11 w0 W rb sv B s xb y kv cv hr hn (h11 rfl)
  | 12, _ => exact get12 w0 W rb sv B s xb y kv cv hr hn
  | n + 13, h => exact absurd h (by omega)
theorem partsR_nil (B : List Int) (s : Rs) : (partsR 4 B s).1.kids = [] ∧ (partsR 11 B s).1.cols = [] := ⟨rfl, rfl⟩
end Go.Proofs.Ytcihihncgpddfaa
