/- Trees: a node copied whole into a new block; rows of offsets. -/
import Derived.Test.YtihjefncjkdnpaaTreD
import Derived.Deep.MidRow
import Derived.Laws.MakeOwn
import Derived.Laws.Entries
namespace Go.Proofs.Ytihjefncjkdnpaa
open Go.RowKit Go.Deep
set_option linter.unusedVariables false
set_option linter.unusedSimpArgs false

theorem below_setCells {B : Nat} {a : World} {b : Nat} (hb : B ≤ b) : ∀ (vs : List Value) (o : Nat) (w : World), Below B a w → Below B a (w.setCells b o vs)
  | [], _, _, h => h
  | v :: r, o, w, h => below_setCells hb r (o + 1) _ (h.setCell hb v)
theorem size_setCells (b : Nat) : ∀ (vs : List Value) (o : Nat) (w : World), (w.setCells b o vs).heap.size = w.heap.size
  | [], _, _ => rfl
  | v :: r, o, w => by rw [World.setCells, size_setCells b r (o + 1)]; simp
theorem new_there (w : World) (zs : Array Value) (T : TypeId) : (w.alloc (.cells zs T)).there w.heap.size 0 zs.size := fun j hj => by
  have hb : (w.alloc (.cells zs T)).heap[w.heap.size]? = some (.cells zs T (0, 0)) := blk_alloc_new _ _
  constructor
  · rw [cell_of_row _ w.heap.size (0 + j) zs T (0, 0) hb]
    simp [hj]
  · unfold World.frozen?
    rw [hb]
    simp
/-- a struct is laid into a new block, whole -/
theorem wpList_store_new {P : Program} {ops : Array Oper} {rest : List Oper} {op : Oper} {a : Act} {w : World} {Q : Exit → Act → World → Prop} (hgd : op.guard = none) (ty : TypeId) (x y : Operand) (ho : op.op = .store ty x y)
    (zs : Array Value) (ty' : TypeId) (cs : List Value) (hx : a.eval x = .pointer (some ⟨w.heap.size, 0, none⟩)) (hy : a.eval y = .agg cs.toArray) (hz : zs.size = cs.length) (hi : (P.info? ty).map (·.size) = some cs.length) (h1 : ∀ v ∈ cs, v.oneCell' = true)
    (h : ∀ w3 : World, Below w.heap.size w w3 → w.heap.size < w3.heap.size → w3.rangeAt w.heap.size 0 cs → wpList P ops Q rest (a.put op.dst undef) w3) : wpList P ops Q (op :: rest) a (w.alloc (.cells zs ty')) := by
  have ht := new_there w zs ty'
  rw [hz] at ht
  refine wpList_store_mid hgd ty x y ho w.heap.size 0 cs.toArray hx hy (by simpa using ht) (by simpa using hi) (all_oneCell_toArray h1) (h _ ?_ ?_ ?_)
  · exact below_setCells (Nat.le_refl _) _ _ _ (below_al (Below.refl _ _) _)
  · rw [size_setCells]; simp
  · simpa using World.rangeAt_setCells_same _ _ _ _ ht
theorem ndV_len (x : Nd) (kv cv : Value) : (ndV x kv cv).length = 34 := rfl
theorem ndV_one {x : Nd} {w : World} {kv cv : Value} (hk : IntsAt w kv x.kids) (hc : ItsAt w cv x.cols) : ∀ v ∈ ndV x kv cv, v.oneCell' = true := by
  obtain ⟨p, c, rfl, _⟩ := hk
  obtain ⟨p', c', rfl, _⟩ := hc
  intro v hv
  simp only [ndV, List.mem_cons, List.not_mem_nil, or_false] at hv
  rcases hv with rfl | rfl | rfl | rfl | rfl | rfl | rfl | rfl | rfl | rfl | rfl | rfl | rfl | rfl | rfl | rfl | rfl | rfl | rfl | rfl | rfl | rfl | rfl | rfl | rfl | rfl | rfl | rfl | rfl | rfl | rfl | rfl | rfl | rfl <;> rfl
theorem nd_range {w : World} {b o : Nat} {x : Nd} {kv cv : Value} (hc : ∀ j, j < 34 → w.cell? ⟨b, o + j, none⟩ = (ndV x kv cv)[j]?) : w.rangeAt b o (ndV x kv cv) := fun j v hv => by
  have : j < 34 := by
    by_cases h : j < 34
    · exact h
    · rw [List.getElem?_eq_none (by rw [ndV_len]; omega)] at hv; cases hv
  rw [hc j this]; exact hv

/-- cells of a row of pairs -/
def cellQ (q : Nat → Int × Int) (j : Nat) : Value := .int .i64 (if j % 2 = 0 then (q (j / 2)).1 else (q (j / 2)).2)
def cellsO (O : List (Int × Int)) : List Value := O.flatMap fun v => [.int .i64 v.1, .int .i64 v.2]
theorem cellsO_len (O : List (Int × Int)) : (cellsO O).length = O.length * 2 := by
  induction O with
  | nil => rfl
  | cons a O ih => simp [cellsO] at ih ⊢; omega
theorem cellsO_get (O : List (Int × Int)) (i : Nat) (h : i < O.length * 2) : (cellsO O)[i]? = some (cellQ (fun j => O.getD j (0, 0)) i) := by
  induction O generalizing i with
  | nil => simp at h
  | cons a O ih =>
    have e : cellsO (a :: O) = .int .i64 a.1 :: .int .i64 a.2 :: cellsO O := by simp [cellsO]
    rw [e]
    rcases i with _ | _ | i
    · rfl
    · rfl
    · have h1 : i < O.length * 2 := by simp at h; omega
      have h2 := ih i h1
      have e1 : (i + 1 + 1) % 2 = i % 2 := by omega
      have e2 : (i + 1 + 1) / 2 = i / 2 + 1 := by omega
      simp only [List.getElem?_cons_succ, h2]
      unfold cellQ
      rw [e1, e2]
      rfl
theorem made_zero (n i : Nat) (h : i < n) : (madeCells #[.int .i64 0, .int .i64 0] n)[i]? = some (.int .i64 0) := by
  have : i % 2 = 0 ∨ i % 2 = 1 := by omega
  rcases this with e | e <;> simp [madeCells, h, e]
theorem rowQ_made (w : World) (n : Nat) (T : TypeId) : (w.alloc (.cells (madeCells #[.int .i64 0, .int .i64 0] n) T)).rowIs w.heap.size T n (cellQ fun _ => (0, 0)) := by
  have h := World.rowIs_alloc w (madeCells #[.int .i64 0, .int .i64 0] n) T (fun _ => .int .i64 0) (fun i hi => made_zero n i (by rwa [size_madeCells] at hi))
  rw [size_madeCells] at h
  exact h.congr fun i _ => by unfold cellQ; split <;> rfl
theorem rowQ_set {w : World} {b n k : Nat} {T : TypeId} {q : Nat → Int × Int} (h : w.rowIs b T n (cellQ q)) (x y : Int) : ((w.setCell ⟨b, k * 2, none⟩ (.int .i64 x)).setCell ⟨b, k * 2 + 1, none⟩ (.int .i64 y)).rowIs b T n (cellQ (upd q k (x, y))) := by
  refine ((h.set (k * 2) (.int .i64 x)).set (k * 2 + 1) (.int .i64 y)).congr fun i hi => ?_
  unfold cellQ upd
  by_cases e1 : i = k * 2 + 1
  · rw [if_pos e1, if_neg (by omega), if_pos (by omega)]
  · rw [if_neg e1]
    by_cases e2 : i = k * 2
    · rw [if_pos e2, if_pos (by omega), if_pos (by omega)]
    · rw [if_neg e2, if_neg (show ¬ i / 2 = k by omega)]
theorem own_of_row {w : World} {base b N : Nat} {T : TypeId} {q : Nat → Int × Int} {R : List (Int × Int)} (h : w.rowIs b T (N * 2) (cellQ q)) (hb : base ≤ b) (hN : N ≤ maxLen) (hR : R.length = N) (hq : ∀ j, j < N → q j = R.getD j (0, 0)) : w.ownsRow base T 2 (.slice (some ⟨b, 0, none⟩) N N) N (cellsO R) := by
  obtain ⟨c, h1, h2, h3⟩ := h
  refine ⟨by rw [cellsO_len, hR], .inr ⟨b, N, c, rfl, hb, h1, Nat.le_refl _, hN, h2, ?_⟩⟩
  apply List.ext_getElem?
  intro i
  by_cases hi : i < N * 2
  · rw [List.getElem?_take_of_lt hi, Array.getElem?_toList, h3 i hi, cellsO_get R i (by rw [hR]; exact hi)]
    unfold cellQ
    rw [hq _ (by omega)]
  · rw [List.getElem?_eq_none (by simp; omega), List.getElem?_eq_none (by rw [cellsO_len, hR]; omega)]
theorem run_make_rowN {P : Program} (t e : TypeId) (i : TypeInfo) (z : Value) (ht : P.underlying t = some (.slice e)) (hi : P.info? e = some i) (hz : i.zero = some z)
    (kl kc : IntKind) (n c : Nat) (hnc : n ≤ c) (hbytes : i.bytes * c ≤ 281474976710656) (h63 : c ≤ 9223372036854775807) (w : World) :
    (Instr.makeSlice t (.int kl (n : Int)) (.int kc (c : Int))).run P w = .ok (.slice (some ⟨w.heap.size, 0, none⟩) n c) (w.alloc (.cells (madeCells z.cells (c * i.size)) e)) := by
  have hb : (i.bytes : Int) * (c : Int) ≤ 281474976710656 := by
    have h : ((i.bytes * c : Nat) : Int) ≤ 281474976710656 := by omega
    rwa [Int.natCast_mul] at h
  have hr := run_make (P := P) w t e i z ht hi hz kl kc n c (by omega) (by omega) hb (by omega)
  simp only [Int.toNat_natCast] at hr
  exact hr
theorem ne_nil_of_pos {s : ByteArray} (h : 0 < s.size) : ¬ s.toList = [] := by
  intro e
  rw [ByteArray.toList_eq] at e
  rw [Lib.size_eq, e] at h
  exact absurd h (Nat.lt_irrefl _)
theorem infoN : (Try.prog.info? 53).map (·.size) = some 34 := by kernel_rfl
theorem wpList_load_node {ops : Array Oper} {rest : List Oper} {op : Oper} {a : Act} {w : World} {Q : Exit → Act → World → Prop} (hgd : op.guard = none) (x : Operand) (ho : op.op = .load 53 x) (b o : Nat) (hx : a.eval x = .pointer (some ⟨b, o, none⟩)) (cs : List Value) (hl : cs.length = 34) (hc : w.rangeAt b o cs)
    (h : wpList Try.prog ops Q rest (a.put op.dst (.agg cs.toArray)) w) : wpList Try.prog ops Q (op :: rest) a w :=
  wpList_load_mid hgd _ x ho b o hx cs _ hc Try.underlying53 rfl (by rw [hl]; exact infoN) h
theorem wpList_store_node {ops : Array Oper} {rest : List Oper} {op : Oper} {a : Act} {w : World} {Q : Exit → Act → World → Prop} (hgd : op.guard = none) (x y : Operand) (ho : op.op = .store 53 x y) (zs : Array Value) (ty' : TypeId) (cs : List Value) (hx : a.eval x = .pointer (some ⟨w.heap.size, 0, none⟩)) (hy : a.eval y = .agg cs.toArray) (hz : zs.size = 34) (hl : cs.length = 34) (h1 : ∀ v ∈ cs, v.oneCell' = true)
    (h : ∀ w3 : World, Below w.heap.size w w3 → w.heap.size < w3.heap.size → w3.rangeAt w.heap.size 0 cs → wpList Try.prog ops Q rest (a.put op.dst undef) w3) : wpList Try.prog ops Q (op :: rest) a (w.alloc (.cells zs ty')) :=
  wpList_store_new hgd _ x y ho zs ty' cs hx hy (by rw [hz, hl]) (by rw [hl]; exact infoN) h1 h
end Go.Proofs.Ytihjefncjkdnpaa
