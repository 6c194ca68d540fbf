/- Trees whose nodes are built in place. -/
import Derived.Test.YtihjefncjkdnpaaTreN
import Derived.Test.YtihjefncjkdnpaaLntO
import Derived.Laws.Tables
namespace Go.Proofs.Ytihjefncjkdnpaa
open Go.RowKit Go.Deep
set_option linter.unusedVariables false
set_option linter.unusedSimpArgs false

/-- a node with a kind, a name, kids and flags -/
def ndF (kind : Int) (id : ByteArray) (kids : List Int) (flags : Int) : Nd := { zNd with kind := kind, id := id, kids := kids, flags := flags }
theorem ndF_ok {kind : Int} {id : ByteArray} {kids : List Int} {flags : Int} (h0 : -128 ≤ kind ∧ kind ≤ 127) (h1 : id.size ≤ 9223372036854775807) (h2 : ∀ k ∈ kids, -9223372036854775808 ≤ k ∧ k ≤ 9223372036854775807) (h3 : 0 ≤ flags ∧ flags ≤ 255) : NdOk (ndF kind id kids flags) := by
  have z : ItOk zIt := ⟨by decide, by decide, by decide, by decide, by decide⟩
  have e : ByteArray.empty.size ≤ 9223372036854775807 := by decide
  have a : -9223372036854775808 ≤ (0 : Int) ∧ (0 : Int) ≤ 9223372036854775807 := by decide
  have b : -128 ≤ (0 : Int) ∧ (0 : Int) ≤ 127 := by decide
  have c : -2147483648 ≤ (0 : Int) ∧ (0 : Int) ≤ 2147483647 := by decide
  have d : 0 ≤ (0 : Int) ∧ (0 : Int) ≤ 255 := by decide
  exact ⟨h0, h1, e, e, h2, z, z, a, a, a, a, a, b, b, b, b, c, c, d, d, (fun k hk => by cases hk), a, a, a, a, h3⟩
theorem zero_flags (kind : Int) (id : ByteArray) (kids : List Int) : ({ zNd with kind := kind, id := id, kids := kids } : Nd) = ndF kind id kids 0 := rfl
theorem built_013 (k : Int) (id : ByteArray) (ks : List Int) (p : Option Addr) (n c : Nat) : Try.prog.built 53 [(0, .int .i8 k), (1, .string id), (3, .slice p n c)] = some (ndV (ndF k id ks 0) (.slice p n c) (.slice none 0 0)).toArray := by kernel_rfl
theorem built_03 (k : Int) (ks : List Int) (p : Option Addr) (n c : Nat) : Try.prog.built 53 [(0, .int .i8 k), (3, .slice p n c)] = some (ndV (ndF k ByteArray.empty ks 0) (.slice p n c) (.slice none 0 0)).toArray := by kernel_rfl
theorem built_01 (k : Int) (id : ByteArray) : Try.prog.built 53 [(0, .int .i8 k), (1, .string id)] = some (ndV (ndF k id [] 0) (.slice none 0 0) (.slice none 0 0)).toArray := by kernel_rfl
theorem built_01f (k : Int) (id : ByteArray) (f : Int) : Try.prog.built 53 [(0, .int .i8 k), (1, .string id), (16, .int .u8 f)] = some (ndV (ndF k id [] f) (.slice none 0 0) (.slice none 0 0)).toArray := by kernel_rfl
theorem built_0 (k : Int) : Try.prog.built 53 [(0, .int .i8 k)] = some (ndV (ndF k ByteArray.empty [] 0) (.slice none 0 0) (.slice none 0 0)).toArray := by kernel_rfl
/-- a node built in place; its cells are told whole -/
theorem wpList_build_node {ops : Array Oper} {rest : List Oper} {o : Oper} {a : Act} {w : World} {Q : Exit → Act → World → Prop} (hg : o.guard = none) (parts : Array (Nat × Operand)) (ho : o.op = .build 53 parts) (cs : List Value) (vs : List (Nat × Value)) (hv : (parts.toList.map fun p => (p.1, a.eval p.2)) = vs)
    (hb : Try.prog.built 53 vs = some cs.toArray)
    (h : wpList Try.prog ops Q rest (a.put o.dst (.agg cs.toArray)) w) : wpList Try.prog ops Q (o :: rest) a w := by
  have hb' : Try.prog.built 53 (parts.map fun (i, x) => (i, a.eval x)).toList = some cs.toArray := by rw [← hb, ← hv, Array.toList_map]
  refine wpList_build hg _ parts ho (by rw [hb']; rfl) ?_
  rw [hb']
  exact h
theorem infoNode_ : (Try.prog.info? 53).map (fun i => (i.zero, i.size, i.bytes)) = some (some (.agg (ndV zNd (.slice none 0 0) (.slice none 0 0)).toArray), 34, 288) := by kernel_rfl
theorem ndV_ones (x : Nd) (p q : Option Addr) (n c n' c' : Nat) : ∀ v ∈ ndV x (.slice p n c) (.slice q n' c'), v.oneCell' = true := fun v hv => by
  simp only [ndV, List.mem_cons, List.not_mem_nil, or_false] at hv
  rcases hv with rfl | rfl | rfl | rfl | rfl | rfl | rfl | rfl | rfl | rfl | rfl | rfl | rfl | rfl | rfl | rfl | rfl | rfl | rfl | rfl | rfl | rfl | rfl | rfl | rfl | rfl | rfl | rfl | rfl | rfl | rfl | rfl | rfl | rfl <;> rfl
theorem flat34 : ∀ (L : List (List Value)), (∀ a ∈ L, a.length = 34) → ∀ i j, i < L.length → j < 34 → L.flatten[i * 34 + j]? = (L.getD i [])[j]?
  | [], _, i, j, hi, _ => by cases hi
  | a :: L, hL, i, j, hi, hj => by
    have ha := hL a (List.mem_cons_self ..)
    cases i with
    | zero =>
      rw [List.flatten_cons, List.getElem?_append_left (by omega)]
      simp
    | succ i =>
      rw [List.flatten_cons, List.getElem?_append_right (by omega), show (i + 1) * 34 + j - a.length = i * 34 + j by omega, flat34 L (fun b hb => hL b (List.mem_cons_of_mem _ hb)) i j (by simpa using hi) hj]
      rfl
/-- a node's cells are told by its lists' values -/
def NdIs (w : World) (cs : List Value) (x : Nd) : Prop := ∃ kv cv, cs = ndV x kv cv ∧ IntsAt w kv x.kids ∧ ItsAt w cv x.cols
theorem NdIs.later {w wr : World} {cs : List Value} {x : Nd} {B : Nat} (h : NdIs w cs x) (hb : Below B w wr) (hB : w.heap.size ≤ B) : NdIs wr cs x := by
  obtain ⟨kv, cv, e, h1, h2⟩ := h
  exact ⟨kv, cv, e, h1.later hb hB, h2.later hb hB⟩
theorem ints_none (w : World) : IntsAt w (.slice none 0 0) [] := ⟨none, 0, rfl, Nat.le_refl _, by omega, fun _ => rfl, fun h => by cases h⟩
theorem its_none (w : World) : ItsAt w (.slice none 0 0) [] := ⟨none, 0, rfl, Nat.le_refl _, by omega, fun _ => rfl, fun h => by cases h⟩
/-- a list of numbers that fills a block -/
theorem ints_block {w : World} {b : Nat} {L : List Int} {t : TypeId} {fr : Nat × Nat} (h : w.heap[b]? = some (.cells (L.map (Value.int .i64)).toArray t fr)) (hl : L.length ≤ 9223372036854775807) : IntsAt w (.slice (some ⟨b, 0, none⟩) L.length L.length) L :=
  ⟨some ⟨b, 0, none⟩, L.length, rfl, Nat.le_refl _, hl, (fun h => by cases h), fun _ => ⟨b, 0, rfl, lt_of_block h, fun i hi => by
    rw [cell_of_row _ b (0 + i) _ t fr h]
    simp [List.getD_eq_getElem?_getD, List.getElem?_eq_getElem hi]⟩⟩
theorem tree_built (W : World) (T : List Nd) (L : List (List Value)) (hl : L.length = T.length) (h34 : ∀ a ∈ L, a.length = 34) (hok : ∀ x ∈ T, NdOk x) (hlen : T.length ≤ 9223372036854775807) (h : ∀ i, i < T.length → NdIs W (L.getD i []) (T.getD i zNd)) :
    TreeAt (W.alloc (.cells L.flatten.toArray 53)) (.slice (some ⟨W.heap.size, 0, none⟩) T.length T.length) T := by
  refine ⟨hok, hlen, some ⟨W.heap.size, 0, none⟩, T.length, rfl, Nat.le_refl _, hlen, fun h0 => ⟨W.heap.size, 0, rfl, by simp, fun i hi => ?_⟩⟩
  obtain ⟨kv, cv, e, hk, hc⟩ := h i hi
  have B : Below W.heap.size W (W.alloc (.cells L.flatten.toArray 53)) := below_al (Below.refl _ _) _
  refine ⟨kv, cv, hk.later B (Nat.le_refl _), hc.later B (Nat.le_refl _), fun j hj => ?_⟩
  rw [cell_of_row _ W.heap.size _ _ _ (0, 0) (heap_alloc_new _ _)]
  rw [← e, ← flat34 L h34 i j (by omega) hj]
  simp
end Go.Proofs.Ytihjefncjkdnpaa
