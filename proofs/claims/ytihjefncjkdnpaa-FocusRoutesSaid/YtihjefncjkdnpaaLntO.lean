/- Rows of the call's own: appends from lists that came in; slices that are built out of structs. -/
import Derived.Test.YtihjefncjkdnpaaBase
import Derived.Deep.MidRow
import Derived.Below
import Derived.RegionTactic
import Derived.Laws.OwnMore
import Derived.Maps.AppendAt
import Derived.Deep.AppendLies
namespace Go.Proofs.Ytihjefncjkdnpaa
open Go.RowKit
set_option linter.unusedVariables false
set_option linter.unusedSimpArgs false

/-- the cells of a list lie in memory: m elements of so many cells -/
def Src (w : World) (A : Option Addr) (m size : Nat) (news : List Value) : Prop := news.length = m * size ∧ (0 < m → ∃ b off, A = some ⟨b, off, none⟩ ∧ b < w.heap.size ∧ ∀ j u, news[j]? = some u → w.cell? ⟨b, off + j, none⟩ = some u)
theorem Src.later {w w' : World} {A : Option Addr} {m size B : Nat} {news : List Value} (h : Src w A m size news) (hb : Below B w w') (hB : w.heap.size ≤ B) : Src w' A m size news :=
  ⟨h.1, fun h0 => by
    obtain ⟨b, off, e, hz, hc⟩ := h.2 h0
    exact ⟨b, off, e, Nat.lt_of_lt_of_le hz hb.size, fun j u hu => by rw [(bcell hb).1 _ _ (Nat.lt_of_lt_of_le hz hB)]; exact hc j u hu⟩⟩
theorem row_later {w w' : World} {base : Nat} {t : TypeId} {k : Nat} {v : Value} {n : Nat} {xs : List Value} (h : w.ownsRow base t k v n xs) (hb : Below w.heap.size w w') : w'.ownsRow base t k v n xs := by
  obtain ⟨hl, h | ⟨g, cap, cur, e, hb', hh, hr⟩⟩ := h
  · exact ⟨hl, .inl h⟩
  · exact ⟨hl, .inr ⟨g, cap, cur, e, hb', (hb.block g (Array.getElem?_eq_some_iff.1 hh).1).trans hh, hr⟩⟩
theorem row_lt {w : World} {base : Nat} {t : TypeId} {k : Nat} {v : Value} {n : Nat} {xs : List Value} (h : w.ownsRow base t k v n xs) : ∀ g, v.ownBlock = some g → g < w.heap.size ∧ base ≤ g := fun g hg => ⟨(h.lt g hg).2, (h.lt g hg).1⟩
/-- rows of different elements lie in different blocks -/
theorem row_ne {w : World} {base base' : Nat} {t t' : TypeId} {k k' : Nat} {v v' : Value} {n n' : Nat} {xs xs' : List Value} (h : w.ownsRow base t k v n xs) (h' : w.ownsRow base' t' k' v' n' xs') (hne : t ≠ t') : v.ownBlock = none ∨ v.ownBlock ≠ v'.ownBlock := by
  rcases h.2 with ⟨rfl, _⟩ | ⟨g, cap, cur, rfl, _, hh, _⟩
  · exact .inl rfl
  · rcases h'.2 with ⟨rfl, _⟩ | ⟨g', cap', cur', rfl, _, hh', _⟩
    · right; simp [Value.ownBlock]
    · right
      simp only [Value.ownBlock]
      intro e
      injection e with e
      subst e
      rw [hh] at hh'
      injection hh' with hh'
      injection hh' with _ e
      exact hne e
/-- an own row's cells -/
theorem row_cells {w : World} {base : Nat} {t : TypeId} {k g n c : Nat} {m : Nat} {xs : List Value} (h : w.ownsRow base t k (.slice (some ⟨g, 0, none⟩) m c) n xs) : w.rangeAt g 0 xs := fun j u hu => by
  have := h.cells (g := g) rfl j u hu
  rw [Addr.add_mid] at this
  exact this
theorem row_form {w : World} {base : Nat} {t : TypeId} {k n : Nat} {v : Value} {xs : List Value} (h : w.ownsRow base t k v n xs) : (v = .slice none 0 0 ∧ n = 0 ∧ xs = []) ∨ ∃ g c, v = .slice (some ⟨g, 0, none⟩) n c ∧ n ≤ c ∧ c ≤ maxLen ∧ g < w.heap.size ∧ base ≤ g := by
  have hlt := row_lt h
  rcases h.2 with ⟨rfl, rfl⟩ | ⟨g, cap, cur, rfl, hb, hh, hn, hm, _⟩
  · exact .inl ⟨rfl, rfl, List.eq_nil_of_length_eq_zero (by simpa using h.1)⟩
  · exact .inr ⟨g, cap, rfl, hn, hm, (Array.getElem?_eq_some_iff.1 hh).1, hb⟩
theorem row_src {w : World} {base : Nat} {t : TypeId} {k n g m c : Nat} {xs : List Value} (h : w.ownsRow base t k (.slice (some ⟨g, 0, none⟩) m c) n xs) : Src w (some ⟨g, 0, none⟩) n k xs :=
  ⟨h.1, fun _ => ⟨g, 0, rfl, (row_lt h g rfl).1, fun j u hu => row_cells h j u hu⟩⟩
section
variable {P : Program} (w : World)
/-- nothing is appended, whatever the address -/
theorem run_append_zero (base : Nat) (t ty e : TypeId) (i : TypeInfo) (size : Nat) (ht : P.underlying t = some (.slice e)) (hi : P.info? e = some i) (v : Value) (n : Nat) (xs : List Value) (hown : w.ownsRow base e size v n xs) (p : Option Addr) (c : Nat) :
    (Builtin.append_ #[t, t] ty #[v, .slice p 0 c]).run P w = .ok v w := by
  have hf : ∀ (s : Nat) (w : World), (Builtin.firstCells s 0 (.slice p 0 c)).run P w = .ok #[] w := by
    intro s w
    cases p <;> simp [Builtin.firstCells, loadCells, loadCellsFrom]
  rcases hown.2 with ⟨rfl, rfl⟩ | ⟨g, cap, cur, rfl, _, _, hnc, _⟩
  · simp [Builtin.append_, run_underlying ht, sizeOf, typeInfo, hi, Builtin.lenOf, hf]
  · simp [Builtin.append_, run_underlying ht, sizeOf, typeInfo, hi, Builtin.lenOf, hf, hnc, storeCells]
theorem run_append_src (base : Nat) (t ty e : TypeId) (i : TypeInfo) (z : Value) (size bytes : Nat) (ht : P.underlying t = some (.slice e)) (hi : P.info? e = some i) (hz : i.zero = some z)
    (hsize : i.size = size) (hby : i.bytes = bytes) (hzs : z.cells.size = size) (hsz : 0 < size)
    (v : Value) (n : Nat) (xs : List Value) (hown : w.ownsRow base e size v n xs) (A : Option Addr) (m c : Nat) (news : List Value) (hs : Src w A m size news) (h1 : ∀ u ∈ news, u.oneCell' = true)
    (h63 : n + m ≤ maxLen) (hbytes : (n + m) * bytes ≤ 140737488355328) (hbase : base ≤ w.heap.size) :
    ∃ v' w', (Builtin.append_ #[t, t] ty #[v, .slice A m c]).run P w = .ok v' w' ∧ w'.ownsRow base e size v' (n + m) (xs ++ news) ∧ w.grownBy w' v.ownBlock ∧ (v'.ownBlock = v.ownBlock ∨ v'.ownBlock = some w.heap.size) := by
  rcases Nat.eq_zero_or_pos m with rfl | h0
  · have hn : news = [] := List.eq_nil_of_length_eq_zero (by simpa using hs.1)
    subst hn
    exact ⟨v, w, run_append_zero w base t ty e i size ht hi v n xs hown A c, by simpa using hown, ⟨rfl, rfl, rfl, Nat.le_refl _, fun _ _ _ => rfl⟩, .inl rfl⟩
  · obtain ⟨b, off, rfl, _, hc⟩ := hs.2 h0
    obtain ⟨v', w', hr, h2, h3, _, h5⟩ := run_append_own_at (P := P) w base t ty e i z size bytes ht hi hz hsize hby hzs hsz v n xs hown ⟨b, off, none⟩ m c news hs.1 (fun j u hu => by rw [Addr.add_mid]; exact hc j u hu) h1 h63 hbytes hbase
    exact ⟨v', w', hr, h2, h3, h5⟩
theorem wpList_append_src {ops : Array Oper} {rest : List Oper} {o : Oper} {a : Act} {Q : Exit → Act → World → Prop} (hgd : o.guard = none) (s x : Operand) (t : TypeId)
    (ho : o.op = .call { callee := .builtin .append, args := #[s, x], argTypes := #[t, t] })
    (base : Nat) (e : TypeId) (i : TypeInfo) (z : Value) (size bytes : Nat) (ht : P.underlying t = some (.slice e)) (hi : P.info? e = some i) (hz : i.zero = some z)
    (hsize : i.size = size) (hby : i.bytes = bytes) (hzs : z.cells.size = size) (hsz : 0 < size)
    (v : Value) (n : Nat) (xs : List Value) (hs : a.eval s = v) (hown : w.ownsRow base e size v n xs)
    (A : Option Addr) (m c : Nat) (news : List Value) (hx : a.eval x = .slice A m c) (hsrc : Src w A m size news) (h1 : ∀ u ∈ news, u.oneCell' = true)
    (h63 : n + m ≤ maxLen) (hbytes : (n + m) * bytes ≤ 140737488355328) (hbase : base ≤ w.heap.size)
    (h : ∀ v' w', w'.ownsRow base e size v' (n + m) (xs ++ news) → w.grownBy w' v.ownBlock → (v'.ownBlock = v.ownBlock ∨ v'.ownBlock = some w.heap.size) → wpList P ops Q rest (a.put o.dst v') w') : wpList P ops Q (o :: rest) a w := by
  refine wpList_plain hgd fun K hK => ?_
  obtain ⟨v', w', hr, h2, h3, h4⟩ := run_append_src (P := P) w base t o.type e i z size bytes ht hi hz hsize hby hzs hsz v n xs hown A m c news hsrc h1 h63 hbytes hbase
  unfold Oper.wp execOp
  simp only [ho, resolve, invoke, builtin, Sem.run_bind, Sem.run_pure, Result.andThen_ok, List.map_toArray, List.map_cons, List.map_nil, hs, hx, hr]
  exact hK _ _ (h v' w' h2 h3 h4)

/-- values laid one behind the other from a place on -/
theorem lay_get (off : Nat) : ∀ (l : List Value) (k : Nat) (ys : Array Value), off + k + l.length ≤ ys.size → ∀ i : Nat, ((l.zipIdx k).foldl (fun (a : Array Value) (p : Value × Nat) => a.setIfInBounds (off + p.2) p.1) ys)[i]? = if off + k ≤ i ∧ i < off + k + l.length then l[i - (off + k)]? else ys[i]?
  | [], k, ys, _, i => by simp; intro h1 h2; omega
  | x :: l, k, ys, h, i => by
    rw [List.zipIdx_cons, List.foldl_cons, lay_get off l (k + 1) _ (by simp at h ⊢; omega) i]
    simp only [List.length_cons] at h ⊢
    by_cases h1 : off + k = i
    · subst h1
      rw [if_neg (by omega), if_pos (by omega), Array.getElem?_setIfInBounds]
      simp
      omega
    · by_cases h2 : off + k ≤ i ∧ i < off + k + (l.length + 1)
      · rw [if_pos h2, if_pos (by omega)]
        rw [show i - (off + k) = (i - (off + (k + 1))) + 1 by omega, List.getElem?_cons_succ]
      · rw [if_neg h2, if_neg (by omega), Array.getElem?_setIfInBounds, if_neg h1]
theorem lay_size (off : Nat) : ∀ (l : List Value) (k : Nat) (ys : Array Value), ((l.zipIdx k).foldl (fun (a : Array Value) (p : Value × Nat) => a.setIfInBounds (off + p.2) p.1) ys).size = ys.size
  | [], _, _ => rfl
  | x :: l, k, ys => by rw [List.zipIdx_cons, List.foldl_cons, lay_size off l (k + 1)]; simp
theorem fill_all (size : Nat) : ∀ (L : List (List Value)) (k : Nat) (ys : Array Value), (∀ a ∈ L, a.length = size) → (k + L.length) * size = ys.size →
    Instr.fill (fun i => some (i * size, size)) ys ((L.zipIdx k).map fun p => (p.2, Value.agg p.1.toArray)) = some (ys.toList.take (k * size) ++ L.flatten).toArray
  | [], k, ys, _, h => by
    simp only [List.zipIdx_nil, List.map_nil, Instr.fill, List.flatten_nil, List.append_nil, Option.some.injEq]
    rw [List.take_of_length_le (by simp at h ⊢; omega)]
  | a :: L, k, ys, hL, h => by
    have ha : a.length = size := hL a (by simp)
    have hs : k * size + size ≤ ys.size := by
      rw [← h]; simp only [List.length_cons]
      have : (k + (L.length + 1)) * size = k * size + L.length * size + size := by rw [Nat.add_mul, Nat.add_mul]; omega
      omega
    rw [List.zipIdx_cons, List.map_cons]

    unfold Instr.fill
    simp only [Value.cells]
    refine (if_neg (by simp [ha]; omega)).trans ?_
    rw [← Array.foldl_toList, Array.toList_zipIdx]
    rw [fill_all size L (k + 1) _ (fun b hb => hL b (by simp [hb])) (by rw [lay_size, ← h]; simp; rw [Nat.add_right_comm, ← Nat.add_assoc])]
    congr 2
    rw [List.flatten_cons, ← List.append_assoc]
    congr 1
    apply List.ext_getElem?
    intro i
    have hg := lay_get (k * size) a 0 ys (by omega) i
    rw [Nat.add_zero] at hg
    by_cases h1 : i < k * size
    · rw [List.getElem?_take_of_lt (by rw [Nat.add_mul]; omega), List.getElem?_append_left (by simp; omega), List.getElem?_take_of_lt h1, Array.getElem?_toList, Array.getElem?_toList, hg, if_neg (by omega)]
    · by_cases h2 : i < k * size + size
      · rw [List.getElem?_take_of_lt (by rw [Nat.add_mul]; omega), List.getElem?_append_right (by simp; omega), Array.getElem?_toList, hg, if_pos (by omega)]
        congr 1
        simp
        omega
      · rw [List.getElem?_eq_none (by simp; rw [Nat.add_mul]; omega), List.getElem?_eq_none (by simp; omega)]
theorem run_buildSlice_all (t e : TypeId) (i : TypeInfo) (z : Value) (size : Nat) (ht : P.underlying t = some (.slice e)) (hi : P.info? e = some i) (hz : i.zero = some z) (hsize : i.size = size) (hsz : 0 < size) (L : List (List Value)) (hL : ∀ a ∈ L, a.length = size) (hn : L.length * size ≤ 16777216) :
    (Instr.buildSlice t L.length ((L.zipIdx 0).map fun p => (p.2, Value.agg p.1.toArray)).toArray).run P w = .ok (.slice (some ⟨w.heap.size, 0, none⟩) L.length L.length) (w.alloc (.cells L.flatten.toArray e)) := by
  have hzv : (zeroValue e).run P w = .ok z w := by simp [zeroValue, typeInfo, hi, hz]
  unfold Instr.buildSlice
  have hne : ¬ L.length * size > 2 ^ 24 := by simpa using hn
  have hf := fill_all size L 0 ((Array.range (L.length * size)).map (z.cells[· % z.cells.size]!)) hL (by simp)
  simp only [Nat.zero_mul, List.take_zero, List.nil_append] at hf
  by_cases h0 : L.length * size = 0
  · have hl0 : L = [] := by
      rcases Nat.mul_eq_zero.1 h0 with h | h
      · exact List.eq_nil_of_length_eq_zero h
      · omega
    subst hl0
    simp [Sem.run_bind, run_underlying ht, Result.andThen_ok, sizeOf, typeInfo, hi, hsize, Instr.fill, newRow, run_newObj_alloc]
    rw [show Array.range 0 = #[] by decide, Array.map_empty]
  · simp [Sem.run_bind, run_underlying ht, Result.andThen_ok, sizeOf, typeInfo, hi, hsize, hne, h0, hzv, hf, newRow, run_newObj_alloc]
theorem wpList_buildSlice_all {ops : Array Oper} {rest : List Oper} {o : Oper} {a : Act} {Q : Exit → Act → World → Prop} (hgd : o.guard = none) (t e : TypeId) (n : Nat) (parts : Array (Nat × Operand)) (ho : o.op = .buildSlice t n parts)
    (i : TypeInfo) (z : Value) (size : Nat) (ht : P.underlying t = some (.slice e)) (hi : P.info? e = some i) (hz : i.zero = some z) (hsize : i.size = size) (hsz : 0 < size) (L : List (List Value)) (hn : n = L.length) (hp : (parts.toList.map fun p => (p.1, a.eval p.2)) = (L.zipIdx 0).map fun p => (p.2, Value.agg p.1.toArray)) (hL : ∀ a ∈ L, a.length = size) (hm : L.length * size ≤ 16777216)
    (h : wpList P ops Q rest (a.put o.dst (.slice (some ⟨w.heap.size, 0, none⟩) n n)) (w.alloc (.cells L.flatten.toArray e))) : wpList P ops Q (o :: rest) a w := by
  refine wpList_plain hgd fun K hK => ?_
  subst hn
  have hr := run_buildSlice_all (P := P) w t e i z size ht hi hz hsize hsz L hL hm
  have hq : ((L.zipIdx 0).map fun p => (p.2, Value.agg p.1.toArray)).toArray = parts.map fun p => (p.1, a.eval p.2) := by rw [← hp, ← Array.toList_map, Array.toArray_toList]
  rw [hq] at hr
  unfold Oper.wp execOp
  simp only [ho, hr, Sem.run_bind, Sem.run_pure, Result.andThen_ok]
  exact hK _ _ h
end
end Go.Proofs.Ytihjefncjkdnpaa
