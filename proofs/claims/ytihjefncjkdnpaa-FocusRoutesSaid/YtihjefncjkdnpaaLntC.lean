/- A lent tree: memory of its own, with marks behind its lists. -/
import Derived.Test.YtihjefncjkdnpaaLntB
import Derived.Deep.WholeRow
namespace Go.Proofs.Ytihjefncjkdnpaa
open Go.RowKit Go.Deep
set_option linter.unusedVariables false
set_option linter.unusedSimpArgs false

def spareN : Nd := { zNd with id := ⟨#[115, 112, 97, 114, 101]⟩ }
def spareV : List Value := ndV spareN (.slice none 0 0) (.slice none 0 0)
def marks : List Int := [-7, -7, -7]
/-- a node's cells whose lists are the call's own -/
def NdLent (w : World) (B : Nat) (cs : List Value) (x : Nd) : Prop := ∃ gk ck cv, cs = ndV x (.slice (some ⟨gk, 0, none⟩) x.kids.length ck) cv ∧ w.ownsRow B 3 1 (.slice (some ⟨gk, 0, none⟩) (x.kids.length + 3) ck) (x.kids.length + 3) ((x.kids ++ marks).map (Value.int .i64)) ∧ w.ownsRow B 46 5 cv x.cols.length (cellsI x.cols)
def LentAt (w : World) (B : Nat) (v : Value) (T : List Nd) : Prop := ∃ g c, ∃ cs : List (List Value), v = .slice (some ⟨g, 0, none⟩) T.length c ∧ cs.length = T.length ∧ w.ownsRow B 53 34 (.slice (some ⟨g, 0, none⟩) (T.length + 3) c) (T.length + 3) (cs.flatten ++ (spareV ++ (spareV ++ spareV))) ∧ ∀ i, i < T.length → NdLent w B (cs.getD i []) (T.getD i zNd)
theorem NdLent.later {w w' : World} {B : Nat} {cs : List Value} {x : Nd} (h : NdLent w B cs x) (hb : Below w.heap.size w w') : NdLent w' B cs x := by
  obtain ⟨gk, ck, cv, e, h1, h2⟩ := h
  exact ⟨gk, ck, cv, e, row_later h1 hb, row_later h2 hb⟩
theorem LentAt.later {w w' : World} {B : Nat} {v : Value} {T : List Nd} (h : LentAt w B v T) (hb : Below w.heap.size w w') : LentAt w' B v T := by
  obtain ⟨g, c, cs, e, h1, h2, h3⟩ := h
  exact ⟨g, c, cs, e, h1, row_later h2 hb, fun i hi => (h3 i hi).later hb⟩
theorem row_base {w : World} {base base' : Nat} {t : TypeId} {k : Nat} {v : Value} {n : Nat} {xs : List Value} (h : w.ownsRow base t k v n xs) (hb : base' ≤ base) : w.ownsRow base' t k v n xs := by
  obtain ⟨hl, h | ⟨g, cap, cur, e, hb', hh, hr⟩⟩ := h
  · exact ⟨hl, .inl h⟩
  · exact ⟨hl, .inr ⟨g, cap, cur, e, by omega, hh, hr⟩⟩
theorem row_blk_ne {w : World} {base : Nat} {t t' : TypeId} {k : Nat} {v : Value} {n g : Nat} {xs : List Value} {cur : Array Value} {fr : Nat × Nat} (h : w.ownsRow base t k v n xs) (hh : w.heap[g]? = some (.cells cur t' fr)) (hne : t ≠ t') : v.ownBlock ≠ some g := by
  rcases h.2 with ⟨rfl, _⟩ | ⟨g', cap, cur', rfl, _, hh', _⟩
  · simp [Value.ownBlock]
  · simp only [Value.ownBlock]
    intro e
    injection e with e
    subst e
    rw [hh] at hh'
    injection hh' with hh'
    injection hh' with _ e
    exact hne e.symm
theorem NdLent.kept {w w' : World} {B : Nat} {cs : List Value} {x : Nd} {v : Value} {k n base : Nat} {xs : List Value} (h : NdLent w B cs x) (row : w.ownsRow base 53 k v n xs) (gr : w.grownBy w' v.ownBlock) : NdLent w' B cs x := by
  obtain ⟨gk, ck, cv, e, h1, h2⟩ := h
  exact ⟨gk, ck, cv, e, h1.kept gr (row_ne h1 row (by decide)), h2.kept gr (row_ne h2 row (by decide))⟩
theorem NdLent.base {w : World} {B B' : Nat} {cs : List Value} {x : Nd} (h : NdLent w B cs x) (hb : B' ≤ B) : NdLent w B' cs x := by
  obtain ⟨gk, ck, cv, e, h1, h2⟩ := h
  exact ⟨gk, ck, cv, e, row_base h1 hb, row_base h2 hb⟩
theorem LentAt.kept {w w' : World} {B q : Nat} {v : Value} {T : List Nd} {cur : Array Value} {fr : Nat × Nat} {t : TypeId} (h : LentAt w B v T) (hq : w.heap[q]? = some (.cells cur t fr)) (gr : w.grownBy w' (some q)) (h1 : 53 ≠ t) (h2 : 3 ≠ t) (h3 : 46 ≠ t) : LentAt w' B v T := by
  obtain ⟨g, c, cs, e, hl, hr, hn⟩ := h
  refine ⟨g, c, cs, e, hl, hr.kept gr (.inr (row_blk_ne hr hq h1)), fun i hi => ?_⟩
  obtain ⟨gk, ck, cv, e, k1, k2⟩ := hn i hi
  exact ⟨gk, ck, cv, e, k1.kept gr (.inr (row_blk_ne k1 hq h2)), k2.kept gr (.inr (row_blk_ne k2 hq h3))⟩
/-- the state of lent: k nodes have been copied -/
structure LnS (w W : World) (p : Option Addr) (c : Nat) (T : List Nd) (v : Value) (k : Nat) (cs : List (List Value)) : Prop where
  be : Below w.heap.size w W
  b0 : W.heap[w.heap.size]? = some (.cells #[.slice p T.length c] 24 (0, 0))
  b1 : W.heap[w.heap.size + 1]? = some (.cells #[.slice none 0 0] 24 (0, 0))
  row : W.ownsRow w.heap.size 53 34 v k cs.flatten
  len : cs.length = k
  nds : ∀ i, i < k → NdLent W w.heap.size (cs.getD i []) (T.getD i zNd)
theorem LnS.push {w wr W W' : World} {p : Option Addr} {c : Nat} {T : List Nd} {v v' : Value} {k : Nat} {cs : List (List Value)} {ncs : List Value} (h : LnS w wr p c T v k cs) (BR : Below wr.heap.size wr W) (gr : W.grownBy W' v.ownBlock) (own' : W'.ownsRow w.heap.size 53 34 v' (k + 1) (cs.flatten ++ ncs)) (hx : NdLent W wr.heap.size ncs (T.getD k zNd)) : LnS w W' p c T v' (k + 1) (cs ++ [ncs]) := by
  have z0 : w.heap.size < wr.heap.size := lt_of_block h.b0
  have z1 : w.heap.size + 1 < wr.heap.size := lt_of_block h.b1
  have sz := BR.size
  have rowW := row_later h.row BR
  have c0 : W.heap[w.heap.size]? = _ := (BR.block _ z0).trans h.b0
  have c1 : W.heap[w.heap.size + 1]? = _ := (BR.block _ z1).trans h.b1
  refine ⟨Below.grown (below_via BR h.be) gr (by omega) (fun g hg => (row_lt rowW g hg).2), ?_, ?_, by simpa using own', by simp [h.len], fun i hi => ?_⟩
  · rw [gr.block _ (by omega) (fun e => row_blk_ne rowW c0 (by decide) e.symm)]; exact c0
  · rw [gr.block _ (by omega) (fun e => row_blk_ne rowW c1 (by decide) e.symm)]; exact c1
  · by_cases hik : i < k
    · have := ((h.nds i hik).later BR).kept rowW gr
      rwa [List.getD_eq_getElem?_getD, List.getElem?_append_left (by rw [h.len]; exact hik), ← List.getD_eq_getElem?_getD]
    · obtain rfl : i = k := by omega
      have := (hx.kept rowW gr).base (by omega : w.heap.size ≤ wr.heap.size)
      rwa [List.getD_eq_getElem?_getD, List.getElem?_append_right (by rw [h.len]; omega), h.len, Nat.sub_self]
theorem LnS.keep {w wr W W' : World} {p : Option Addr} {c : Nat} {T : List Nd} {v : Value} {k : Nat} {cs : List (List Value)} (h : LnS w wr p c T v k cs) (BR : Below wr.heap.size wr W) (gr : W.grownBy W' v.ownBlock) : Below w.heap.size w W' ∧ W'.heap[w.heap.size]? = some (.cells #[.slice p T.length c] 24 (0, 0)) ∧ W'.heap[w.heap.size + 1]? = some (.cells #[.slice none 0 0] 24 (0, 0)) := by
  have z0 : w.heap.size < wr.heap.size := lt_of_block h.b0
  have z1 : w.heap.size + 1 < wr.heap.size := lt_of_block h.b1
  have sz := BR.size
  have rowW := row_later h.row BR
  have c0 : W.heap[w.heap.size]? = _ := (BR.block _ z0).trans h.b0
  have c1 : W.heap[w.heap.size + 1]? = _ := (BR.block _ z1).trans h.b1
  refine ⟨Below.grown (below_via BR h.be) gr (by omega) (fun g hg => (row_lt rowW g hg).2), ?_, ?_⟩
  · rw [gr.block _ (by omega) (fun e => row_blk_ne rowW c0 (by decide) e.symm)]; exact c0
  · rw [gr.block _ (by omega) (fun e => row_blk_ne rowW c1 (by decide) e.symm)]; exact c1
theorem ints_one (L : List Int) : ∀ u ∈ L.map (Value.int .i64), u.oneCell' = true := fun u hu => by
  obtain ⟨a, _, rfl⟩ := List.mem_map.1 hu
  rfl
theorem items_one (L : List It) : ∀ u ∈ cellsI L, u.oneCell' = true := fun u hu => by
  obtain ⟨a, _, h⟩ := List.mem_flatMap.1 hu
  simp only [itV, List.mem_cons, List.not_mem_nil, or_false] at h
  rcases h with rfl | rfl | rfl | rfl | rfl <;> rfl
/-- the first ones of an own row of ints -/
theorem row_ints_ {w : World} {base : Nat} {t : TypeId} {g n m c : Nat} {L M : List Int} (h : w.ownsRow base t 1 (.slice (some ⟨g, 0, none⟩) m c) m ((L ++ M).map (Value.int .i64))) (hm : m = L.length + n) : IntsAt w (.slice (some ⟨g, 0, none⟩) L.length c) L := by
  rcases row_form h with ⟨e, _⟩ | ⟨g', c', e, h1, h2, h3, _⟩
  · cases e
  · injection e with e1 _ e3
    injection e1 with e1
    injection e1 with e1
    subst e1 e3
    refine ⟨_, c, rfl, by omega, by unfold maxLen at h2; omega, (fun h => by cases h), fun h0 => ⟨g, 0, rfl, h3, fun i hi => ?_⟩⟩
    refine row_cells h i _ ?_
    rw [List.getElem?_map, List.getElem?_append_left hi, List.getD_eq_getElem?_getD, List.getElem?_eq_getElem hi]
    rfl
theorem src_new (w : World) (cs : Array Value) (e : TypeId) (m size : Nat) (h : cs.size = m * size) : Src (w.alloc (.cells cs e)) (some ⟨w.heap.size, 0, none⟩) m size cs.toList :=
  ⟨by simpa using h, fun _ => ⟨w.heap.size, 0, rfl, by simp, fun j u hu => by
    rw [cell_of_row _ w.heap.size (0 + j) cs e (0, 0) (heap_alloc_new _ _), Nat.zero_add, ← Array.getElem?_toList]; exact hu⟩⟩
theorem infoNode : (Try.prog.info? 53).map (fun i => (i.zero, i.size, i.bytes)) = some (some (.agg (ndV zNd (.slice none 0 0) (.slice none 0 0)).toArray), 34, 288) := by kernel_rfl
theorem infoInt_ : (Try.prog.info? 3).map (fun i => (i.zero, i.size, i.bytes)) = some (some (.int .i64 0), 1, 8) := by kernel_rfl
theorem infoItem_ : (Try.prog.info? 46).map (fun i => (i.zero, i.size, i.bytes)) = some (some (.agg (itV zIt).toArray), 5, 40) := by kernel_rfl
/-- a new row, empty, with room for n -/
theorem make_row {t e : TypeId} {i : TypeInfo} {z : Value} {size bytes : Nat} (ht : Try.prog.underlying t = some (.slice e)) (hi : Try.prog.info? e = some i) (hz : i.zero = some z) (hs : i.size = size) (hb : i.bytes = bytes) (hzs : z.cells.size = size) (n : Nat) (h1 : bytes * (n + 3) ≤ 281474976710656) (h2 : n + 3 ≤ 9223372036854775807) :
    ∃ cur : Array Value, cur.size = (n + 3) * size ∧ ∀ w : World, (Instr.makeSlice t (.int .i64 0) (.int .i64 ((n : Int) + 3))).run Try.prog w = .ok (.slice (some ⟨w.heap.size, 0, none⟩) 0 (n + 3)) (w.alloc (.cells cur e)) := by
  refine ⟨madeCells z.cells ((n + 3) * i.size), ?_, fun w => ?_⟩
  · rw [size_madeCells, hs]
  · have := run_make_rowN (P := Try.prog) t e i z ht hi hz .i64 .i64 0 (n + 3) (by omega) (by rw [hb]; exact h1) h2 w
    simpa using this
theorem wpList_store_nodeB {ops : Array Oper} {rest : List Oper} {op : Oper} {a : Act} {w : World} {Q : Exit → Act → World → Prop} (hgd : op.guard = none) (x y : Operand) (ho : op.op = .store 53 x y) (zs : Array Value) (ty' : TypeId) (cs : List Value) (hx : a.eval x = .pointer (some ⟨w.heap.size, 0, none⟩)) (hy : a.eval y = .agg cs.toArray) (hz : zs.size = 34) (hl : cs.length = 34) (h1 : ∀ v ∈ cs, v.oneCell' = true)
    (h : ∀ w3 : World, RowKit.Hid (w3 = w.alloc (.cells cs.toArray ty')) → wpList Try.prog ops Q rest (a.put op.dst undef) w3) : wpList Try.prog ops Q (op :: rest) a (w.alloc (.cells zs ty')) := by
  refine wpList_store_row hgd _ x y ho w.heap.size cs.toArray hx hy ty' zs (heap_alloc_new _ _) (by rw [infoN]; simp [hl]) (by simp [hz, hl]) (all_oneCell_toArray h1) ?_
  rw [World.setRow_alloc_new]
  exact h _ (Lib.hid rfl)
/-- a block of the call's own behind a store into one of its cells -/
theorem blk_set {w : World} {g i : Nat} {cs : List Value} {t : TypeId} (v : Value) (h : w.heap[g]? = some (.cells cs.toArray t (0, 0))) : (w.setCell ⟨g, i, none⟩ v).heap[g]? = some (.cells (cs.set i v).toArray t (0, 0)) := by
  rw [heap_setCell_same w g i cs.toArray t v h]
  simp
theorem blk_cell {w : World} {g i : Nat} {cs : List Value} {t : TypeId} {v : Value} (h : w.heap[g]? = some (.cells cs.toArray t (0, 0))) (hc : cs[i]? = some v) : w.cell? ⟨g, i, none⟩ = some v := by
  rw [cell_of_row w g i cs.toArray t (0, 0) h]; simpa using hc
theorem setCell_grown (w : World) (a : Addr) (v : Value) : w.grownBy (w.setCell a v) (some a.block) :=
  ⟨rfl, rfl, rfl, by simp, fun k hk hne => heap_setCell_other w a k v (fun e => hne (by rw [e]))⟩
theorem below_grow {B : Nat} {a w w' : World} (h : Below B a w) (g : w.grownBy w' none) (hB : B ≤ w.heap.size) : Below B a w' := h.grown g hB (fun k hk => by cases hk)
set_option maxRecDepth 100000 in
set_option maxHeartbeats 16000000 in
theorem lent_any (p : Option Addr) (c : Nat) (T : List Nd) (w : World) (hT : TreeAt w (.slice p T.length c) T) (hN : T.length * 288 ≤ 140737488351232) (hK : ∀ x ∈ T, x.kids.length * 8 ≤ 140737488351232 ∧ x.cols.length * 40 ≤ 140737488351232) : Calls Try.prog 11 #[.agg #[.slice p T.length c]] w fun e w' => ∃ v, e = .returned (.agg #[v]) ∧ LentAt w' w.heap.size v T ∧ Below w.heap.size w w' := by
  obtain ⟨i0, hi, hz0, hz1, hz2⟩ := info_parts infoNode
  obtain ⟨j0, hj, hy0, hy1, hy2⟩ := info_parts infoInt_
  obtain ⟨k0, hk0, hx0, hx1, hx2⟩ := info_parts infoItem_
  obtain ⟨cur, hcur, mkN⟩ := make_row Try.underlying22 hi hz0 hz1 hz2 (by rfl) T.length (by omega) (by omega)
  have HI := Lib.hid (And.intro hi (And.intro hz0 (And.intro hz1 hz2)))
  have HJ := Lib.hid (And.intro hj (And.intro hy0 (And.intro hy1 hy2)))
  have HKK := Lib.hid (And.intro hk0 (And.intro hx0 (And.intro hx1 hx2)))
  have HT := Lib.hid hT
  have HK := Lib.hid hK
  have HCUR := Lib.hid hcur
  have hlen : T.length ≤ 488671834553 := by omega
  clear hi hz0 hz1 hz2 hj hy0 hy1 hy2 hk0 hx0 hx1 hx2 hT hK hcur hN
  go_enter Try.func11, Try.ntmps11
  go_upto_region 2 with (fail)
  generalize hw1 : World.alloc _ _ = w1
  have S1 : LnS w w1 p c T (.slice (some ⟨w.heap.size + 1 + 1, 0, none⟩) 0 (T.length + 3)) 0 [] := by
    rw [← hw1]
    refine ⟨by go_grown, ?_, ?_, ?_, rfl, fun i hi => absurd hi (Nat.not_lt_zero _)⟩
    · exact (heap_alloc_old _ _ (by simp <;> omega)).trans ((heap_alloc_old _ _ (by simp <;> omega)).trans (heap_alloc_new _ _))
    · exact (heap_alloc_old _ _ (by simp <;> omega)).trans (by have := heap_alloc_new (w.alloc (.cells #[.slice p T.length c] 24)) (.cells #[.slice none 0 0] 24); rwa [World.size_alloc] at this)
    · have := World.ownsRow_made (base := w.heap.size) (e := 53) (size := 34) ((w.alloc (.cells #[.slice p T.length c] 24)).alloc (.cells #[.slice none 0 0] 24)) cur (T.length + 3) (by simp; omega) (by unfold maxLen; omega) HCUR.out
      simpa using this
  have x0 : w1.cell? ⟨w.heap.size, 0, none⟩ = some (.slice p T.length c) := cell_of_one S1.b0
  have z0 : w.heap.size < w1.heap.size := lt_of_block S1.b0
  have HS1 := Lib.hid S1
  clear hw1 S1 HCUR mkN
  go_wp2
  go_loopw [3, 16] (fun v i wr => ∃ k : Nat, ∃ cs : List (List Value), k ≤ T.length ∧ i = .int .i64 k ∧ RowKit.Hid (LnS w wr p c T v k cs)) (fun _ i _ => T.length - (intOf i).toNat)
  case atStart => exact ⟨0, [], Nat.zero_le _, rfl, HS1⟩
  case round =>
    clear HS1 x0 z0
    obtain ⟨k, cs, hk, rfl, HS⟩ := hrel
    have x0 : wr.cell? ⟨w.heap.size, 0, none⟩ = some (.slice p T.length c) := cell_of_one HS.out.b0
    have z0 : w.heap.size < wr.heap.size := lt_of_block HS.out.b0
    by_cases hlt : k < T.length
    · have hki : (k : Int) < (T.length : Int) := by omega
      obtain ⟨_, _, p', c', e, _, _, hnd⟩ := HT.out
      injection e with e1 _ e2
      subst e1 e2
      obtain ⟨b, off, rfl, hb, hnd⟩ := hnd (by omega)
      obtain ⟨kv, cv, hkv, hcv, hc⟩ := (hnd k hlt).later HS.out.be (Nat.le_refl _) hb
      have hmem : T.getD k zNd ∈ T := by rw [List.getD_eq_getElem?_getD, List.getElem?_eq_getElem hlt]; exact List.getElem_mem hlt
      obtain ⟨hks, hcs⟩ := HK.out _ hmem
      generalize hxe : T.getD k zNd = x at hkv hcv hc hks hcs
      have HXE := Lib.hid hxe
      have RNG0 := nd_range hc
      have ONE0 := ndV_one hkv hcv
      obtain ⟨mkc, hmkc, mkK⟩ := make_row Try.underlying25 HJ.out.1 HJ.out.2.1 HJ.out.2.2.1 HJ.out.2.2.2 (by rfl) x.kids.length (by omega) (by omega)
      have hkl : x.kids.length ≤ 17592186043904 := by omega
      have hcl : x.cols.length ≤ 3518437208780 := by omega
      have HKV := Lib.hid hkv
      have HCV := Lib.hid hcv
      obtain ⟨pk, ck, rfl, _, _, _, _⟩ := hkv
      obtain ⟨pc, cc, rfl, _, _, _, _⟩ := hcv
      have c3e : (ndV x (.slice pk x.kids.length ck) (.slice pc x.cols.length cc))[3]? = some (.slice pk x.kids.length ck) := rfl
      have c28e : (ndV x (.slice pk x.kids.length ck) (.slice pc x.cols.length cc))[28]? = some (.slice pc x.cols.length cc) := rfl
      have sete : ∀ a b, ((ndV x (.slice pk x.kids.length ck) (.slice pc x.cols.length cc)).set 3 a).set 28 b = ndV x a b := fun _ _ => rfl
      have len0 := ndV_len x (.slice pk x.kids.length ck) (.slice pc x.cols.length cc)
      generalize ndV x (.slice pk x.kids.length ck) (.slice pc x.cols.length cc) = ns at *
      have RNG := Lib.hid RNG0
      have ONE := Lib.hid ONE0
      have LEN := Lib.hid len0
      have C3 := Lib.hid c3e
      have C28 := Lib.hid c28e
      have SET := Lib.hid sete
      have HMC := Lib.hid hmkc
      have hbw : b < wr.heap.size := by have := HS.out.be.size; omega
      have hz2 : (ndV zNd (.slice none 0 0) (.slice none 0 0)).toArray.size = 34 := rfl
      clear hc RNG0 ONE0 len0 c3e c28e hxe hmem hnd sete hmkc hks hcs
      go_wp2_with (first | ((with_reducible refine wpList_load_node ?g1 (.tmp 22) ?g2 b (off + k * 34) ?g3 ns LEN.out RNG.out ?_); (case g1 => rfl); (case g2 => rfl); (case g3 => rfl)) | ((with_reducible refine wpList_store_nodeB ?g1 (.tmp 5) (.tmp 23) ?g2 _ _ ns ?g3 ?g4 ?g5 LEN.out ONE.out ?_); (case g1 => rfl); (case g2 => rfl); (case g3 => rfl); (case g4 => rfl); (case g5 => rfl)))
      intro w3 HW3
      obtain ⟨nb, hnb⟩ : ∃ nb, nb = wr.heap.size := ⟨_, rfl⟩
      have nn : w3.heap[nb]? = some (.cells ns.toArray 53 (0, 0)) := by rw [HW3.out, hnb]; exact heap_alloc_new _ _
      have B3 : Below wr.heap.size wr w3 := by rw [HW3.out]; exact below_al (Below.refl _ _) _
      have z3 : nb < w3.heap.size := by rw [HW3.out, hnb]; simp
      rw [← hnb]
      have n3 : w3.cell? ⟨nb, 3, none⟩ = some (.slice pk x.kids.length ck) := blk_cell nn C3.out
      have NN := Lib.hid nn
      have HNB := Lib.hid hnb
      have hn1 : wr.heap.size ≤ nb := by omega
      clear HW3 nn hnb RNG ONE LEN hbw x0 z0
      have OW3 := Lib.hid (World.ownsRow_made (base := nb + 1) (e := 3) (size := 1) w3 mkc (x.kids.length + 3) (by omega) (by unfold maxLen; omega) HMC.out)
      have SR3 := Lib.hid ((HKV.out.later (below_al B3 (.cells mkc 3)) (Nat.le_refl _)).src.2)
      go_wp2_with (at_builtin; refine wpList_append_src _ rfl (.tmp 29) (.tmp 31) 25 rfl (nb + 1) 3 j0 (.int .i64 0) 1 8 Try.underlying25 HJ.out.1 HJ.out.2.1 HJ.out.2.2.1 HJ.out.2.2.2 rfl (by decide) _ 0 [] rfl OW3.out pk x.kids.length ck (x.kids.map (Value.int .i64)) rfl SR3.out (ints_one _) ?h1 ?h2 ?h3 ?_)
      case h1 => unfold maxLen; omega
      case h2 => omega
      case h3 => simp; omega
      intro v4 w4 own4 gr4 pl4
      have B4 : Below wr.heap.size wr w4 := Below.grown (below_al B3 _) gr4 (by simp; have := B3.size; omega) (fun g hg => by simp [Value.ownBlock] at hg; have := B3.size; omega)
      have nn4 : w4.heap[nb]? = some (.cells ns.toArray 53 (0, 0)) := (gr4.block nb (by simp; omega) (by simp [Value.ownBlock]; omega)).trans ((heap_alloc_old _ _ z3).trans NN.out)
      have z4 : nb < w4.heap.size := lt_of_block nn4
      (try simp only [List.nil_append, Nat.zero_add] at own4)
      clear OW3 SR3 NN B3 z3 n3 mkK gr4 pl4 HMC
      have n3 : w4.cell? ⟨nb, 3, none⟩ = some (.slice pk x.kids.length ck) := blk_cell nn4 C3.out
      have NN := Lib.hid nn4
      have OW4 := Lib.hid (row_later own4 (below_al (Below.refl _ _) (.cells #[.int .i64 (-7), .int .i64 (-7), .int .i64 (-7)] 3)))
      have SR4 := Lib.hid (src_new w4 #[.int .i64 (-7), .int .i64 (-7), .int .i64 (-7)] 3 3 1 rfl)
      clear nn4 own4
      go_wp2_with (at_builtin; refine wpList_append_src _ rfl (.tmp 33) (.tmp 34) 25 rfl (nb + 1) 3 j0 (.int .i64 0) 1 8 Try.underlying25 HJ.out.1 HJ.out.2.1 HJ.out.2.2.1 HJ.out.2.2.2 rfl (by decide) _ x.kids.length _ rfl OW4.out (some ⟨w4.heap.size, 0, none⟩) 3 3 _ rfl SR4.out ?g1 ?g2 ?g3 ?g4 ?_)
      case g1 => first | rfl | (intro u hu; simp at hu; subst hu; rfl)
      case g2 => unfold maxLen; omega
      case g3 => omega
      case g4 => first | omega | (simp; omega)
      intro v5 w5 own5 gr5 pl5
      have hb4 := fun g hg => (row_lt OW4.out g hg).2
      have B5 : Below wr.heap.size wr w5 := Below.grown (below_al B4 _) gr5 (by simp; have := B4.size; omega) (fun g hg => by have := hb4 g hg; omega)
      have nn5 : w5.heap[nb]? = some (.cells ns.toArray 53 (0, 0)) := (gr5.block nb (by simp; omega) (fun e => by have := hb4 _ e.symm; omega)).trans ((heap_alloc_old _ _ z4).trans NN.out)
      have z5 : nb < w5.heap.size := lt_of_block nn5
      clear B4 z4 OW4 SR4 hb4 gr5 pl5 NN n3
      rcases row_form own5 with ⟨_, h0, _⟩ | ⟨g5, c5, rfl, hn5, hm5, hz5, hb5⟩
      · omega
      have n3 : w5.cell? ⟨nb, 3, none⟩ = some (.slice pk x.kids.length ck) := blk_cell nn5 C3.out
      have f3 : w5.frozen? ⟨nb, 3, none⟩ = false := frozen_of_row _ _ _ _ _ nn5
      have hlk : x.kids.length ≤ c5 := by omega
      have hlk' : (x.kids.length : Int) ≤ (c5 : Int) := by omega
      have NN := Lib.hid nn5
      have OW5 := Lib.hid own5
      clear nn5 own5
      go_upto_region 10 with (fail)
      generalize hw6 : World.setCell _ _ _ = w6
      have nn6 : w6.heap[nb]? = some (.cells (ns.set 3 (.slice (some ⟨g5, 0, none⟩) x.kids.length c5)).toArray 53 (0, 0)) := by rw [← hw6]; exact blk_set _ NN.out
      have OW6 := Lib.hid (show w6.ownsRow (nb + 1) 3 1 _ _ _ by rw [← hw6]; exact ownsRow_setCell_other OW5.out (by simp [Value.ownBlock]; omega) _)
      have B6 : Below wr.heap.size wr w6 := by rw [← hw6]; exact B5.setCell (by simp; omega) _
      have z6 : nb < w6.heap.size := lt_of_block nn6
      have n28 : w6.cell? ⟨nb, 28, none⟩ = some (.slice pc x.cols.length cc) := blk_cell nn6 (by rw [List.getElem?_set_ne (by decide)]; exact C28.out)
      have NN6 := Lib.hid nn6
      have SR6 := Lib.hid (HCV.out.later B6 (Nat.le_refl _)).src.2
      have OWN := World.ownsRow_nil w6 (nb + 1) 46 5
      clear hw6 nn6 NN OW5 B5 n3 f3 z5 hz5 hb5
      go_wp2_with (at_builtin; refine wpList_append_src _ rfl (.tmp 42) (.tmp 44) 51 rfl (nb + 1) 46 k0 _ 5 40 Try.underlying51 HKK.out.1 HKK.out.2.1 HKK.out.2.2.1 HKK.out.2.2.2 rfl (by decide) _ 0 [] rfl OWN pc x.cols.length cc (cellsI x.cols) rfl SR6.out (items_one _) ?i1 ?i2 ?i3 ?_)
      case i1 => unfold maxLen; omega
      case i2 => omega
      case i3 => omega
      intro v7 w7 own7 gr7 pl7
      (try simp only [List.nil_append, Nat.zero_add] at own7)
      obtain ⟨q7, c7, rfl⟩ : ∃ q7 c7, v7 = .slice q7 x.cols.length c7 := by
        rcases row_form own7 with ⟨h1, h2, _⟩ | ⟨g, c, h1, _⟩
        · exact ⟨none, 0, by rw [h2]; exact h1⟩
        · exact ⟨_, _, h1⟩
      have B7 : Below wr.heap.size wr w7 := Below.grown B6 gr7 (by have := B6.size; omega) (fun g hg => by simp [Value.ownBlock] at hg)
      have nn7 : w7.heap[nb]? = some (.cells (ns.set 3 (.slice (some ⟨g5, 0, none⟩) x.kids.length c5)).toArray 53 (0, 0)) := (gr7.block nb z6 (by simp [Value.ownBlock])).trans NN6.out
      have OW7 := Lib.hid (OW6.out.kept gr7 (.inr (by simp [Value.ownBlock])))
      have z7 : nb < w7.heap.size := lt_of_block nn7
      clear OWN SR6 NN6 n28 OW6 B6 z6 gr7 pl7
      have n28 : w7.cell? ⟨nb, 28, none⟩ = some (.slice pc x.cols.length cc) := blk_cell nn7 (by rw [List.getElem?_set_ne (by decide)]; exact C28.out)
      have f28 : w7.frozen? ⟨nb, 28, none⟩ = false := frozen_of_row _ _ _ _ _ nn7
      have NN7 := Lib.hid nn7
      have OC7 := Lib.hid own7
      have hvb := Lib.hid (fun g hg => (row_lt own7 g hg).2)
      clear nn7 own7
      go_upto_region 12 with (fail)
      generalize hw8 : World.setCell _ _ _ = w8
      obtain ⟨ns8, hns8⟩ : ∃ ns8, ns8 = ndV x (.slice (some ⟨g5, 0, none⟩) x.kids.length c5) (.slice q7 x.cols.length c7) := ⟨_, rfl⟩
      have nn8 : w8.heap[nb]? = some (.cells ns8.toArray 53 (0, 0)) := by rw [← hw8, hns8, ← SET.out]; exact blk_set _ NN7.out
      have OW8 := Lib.hid (show w8.ownsRow (nb + 1) 3 1 _ _ _ by rw [← hw8]; exact ownsRow_setCell_other OW7.out (by simp [Value.ownBlock]; have := (row_lt OW7.out g5 rfl).2; omega) _)
      have OC8 := Lib.hid (show w8.ownsRow (nb + 1) 46 5 _ _ _ by rw [← hw8]; exact ownsRow_setCell_other OC7.out (fun e => by have := hvb.out _ e; simp at this; omega) _)
      have B8 : Below wr.heap.size wr w8 := by rw [← hw8]; exact B7.setCell (by simp; omega) _
      have RNG8 : RowKit.Hid (w8.rangeAt nb 0 ns8) := Lib.hid (fun j u hu => by rw [Nat.zero_add]; exact blk_cell nn8 hu)
      have LEN8 := Lib.hid (show ns8.length = 34 by rw [hns8]; rfl)
      have z8 : nb < w8.heap.size := lt_of_block nn8
      have HNS := Lib.hid hns8
      have ONE8 : RowKit.Hid (∀ u ∈ ns8, u.oneCell' = true) := Lib.hid (by rw [hns8]; exact ndV_one (x := x) (row_ints_ (n := 3) (M := marks) (by rw [List.map_append]; exact OW8.out) rfl) (row_items OC8.out))
      have B9 := below_al B8 (.cells [ns8].flatten.toArray 53)
      have OW9 := Lib.hid (row_later HS.out.row B9)
      have SR9 := Lib.hid (src_new w8 [ns8].flatten.toArray 53 1 34 (by simp [LEN8.out]))
      clear hw8 nn8 NN7 OW7 OC7 B7 n28 f28 z7 hvb hns8
      have hkm : k + 1 ≤ maxLen := by unfold maxLen; omega
      have hw8 : w.heap.size ≤ w8.heap.size := by have := HS.out.be.size; have := B8.size; omega
      go_wp2_with (first | ((with_reducible refine wpList_load_node ?l1 (.tmp 5) ?l2 nb 0 ?l3 ns8 LEN8.out RNG8.out ?_); (case l1 => rfl); (case l2 => rfl); (case l3 => rfl)) | ((with_reducible refine wpList_buildSlice_all _ ?b1 22 53 1 #[(0, .tmp 48)] ?b2 i0 _ 34 Try.underlying22 HI.out.1 HI.out.2.1 HI.out.2.2.1 ?b6 [ns8] ?b7 ?b3 ?b4 ?b5 ?_); (case b1 => rfl); (case b2 => rfl); (case b6 => decide); (case b7 => rfl); (case b3 => rfl); (case b4 => (intro a ha; rw [List.mem_singleton] at ha; rw [ha]; exact LEN8.out)); (case b5 => (show 1 * 34 ≤ 16777216; decide))) | (at_builtin; go_must (refine wpList_append_src _ rfl (.tmp 47) (.tmp 49) 22 rfl w.heap.size 53 i0 _ 34 288 Try.underlying22 HI.out.1 HI.out.2.1 HI.out.2.2.1 HI.out.2.2.2 rfl (by decide) _ k _ rfl OW9.out (some ⟨w8.heap.size, 0, none⟩) 1 1 _ rfl SR9.out ?o1 hkm ?o2 ?o3 ?_)))
      case o1 => first | (intro u hu; simp at hu; exact ONE8.out u hu) | (simpa using ONE8.out)
      case o2 => omega
      case o3 => first | omega | (simp; omega)
      intro v9 w9 own9 gr9 pl9
      have hx : NdLent (w8.alloc (.cells [ns8].flatten.toArray 53)) wr.heap.size ns8 (T.getD k zNd) := by
        rw [HXE.out]
        refine ⟨g5, c5, _, HNS.out, ?_, ?_⟩
        · rw [List.map_append]; exact row_base (row_later OW8.out (below_al (Below.refl _ _) _)) (by omega)
        · exact row_base (row_later OC8.out (below_al (Below.refl _ _) _)) (by omega)
      have gr9' : (w8.alloc (.cells [ns8].flatten.toArray 53)).grownBy w9 u3.ownBlock := by simpa using gr9
      have HS' := Lib.hid (LnS.push HS.out B9 gr9' (by simpa using own9) hx)
      clear HS hx own9 gr9 gr9' pl9 hw8 B8 B9 OW8 OC8 OW9 SR9
      go_wp2
      go_roundw
      case rel => exact ⟨k + 1, cs ++ [ns8], by omega, by go_num, HS'⟩
      case measure => simp [intOf]; omega
    · obtain rfl : k = T.length := by omega
      clear hlt hk
      have z1 : w.heap.size + 1 < wr.heap.size := lt_of_block HS.out.b1
      have B3 := below_al (Below.refl wr.heap.size wr) (.cells [spareV, spareV, spareV].flatten.toArray 53)
      have OW3 := Lib.hid (row_later HS.out.row B3)
      have SR3 := Lib.hid (src_new wr [spareV, spareV, spareV].flatten.toArray 53 3 34 rfl)
      have hone : RowKit.Hid (∀ u ∈ [spareV, spareV, spareV].flatten.toArray.toList, u.oneCell' = true) := Lib.hid (by decide)
      have hkm : T.length + 3 ≤ maxLen := by unfold maxLen; omega
      have hw8 : w.heap.size ≤ wr.heap.size := HS.out.be.size
      go_upto_region 14 with (fail)
      go_wp2_with (first | ((with_reducible refine wpList_buildSlice_all _ ?b1 22 53 3 #[(0, .tmp 53), (1, .tmp 54), (2, .tmp 55)] ?b2 i0 _ 34 Try.underlying22 HI.out.1 HI.out.2.1 HI.out.2.2.1 ?b6 [spareV, spareV, spareV] ?b7 ?b3 ?b4 ?b5 ?_); (case b1 => rfl); (case b2 => rfl); (case b6 => decide); (case b7 => rfl); (case b3 => rfl); (case b4 => (intro a ha; simp at ha; rw [ha]; rfl)); (case b5 => (show 3 * 34 ≤ 16777216; decide))) | (at_builtin; go_must (refine wpList_append_src _ rfl (.tmp 52) (.tmp 56) 22 rfl w.heap.size 53 i0 _ 34 288 Try.underlying22 HI.out.1 HI.out.2.1 HI.out.2.2.1 HI.out.2.2.2 rfl (by decide) _ T.length _ rfl OW3.out (some ⟨wr.heap.size, 0, none⟩) 3 3 _ rfl SR3.out ?q1 hkm ?q2 ?q3 ?_)))
      case q1 => first | exact hone.out | (intro u hu; exact hone.out u (by simp [hu]))
      case q2 => omega
      case q3 => first | omega | (simp; omega)
      intro v2 w2 own2 gr2 pl2
      have gr2' : (wr.alloc (.cells [spareV, spareV, spareV].flatten.toArray 53)).grownBy w2 u3.ownBlock := by simpa using gr2
      obtain ⟨B2, b0, b1⟩ := HS.out.keep B3 gr2'
      have own2' : w2.ownsRow w.heap.size 53 34 v2 (T.length + 3) (cs.flatten ++ (spareV ++ (spareV ++ spareV))) := by simpa using own2
      have nds2 : ∀ i, i < T.length → NdLent w2 w.heap.size (cs.getD i []) (T.getD i zNd) := fun i hi => ((HS.out.nds i hi).later B3).kept OW3.out gr2'
      rcases row_form own2' with ⟨_, h0, _⟩ | ⟨g, c2, rfl, hn2, hm2, hz2, hb2⟩
      · omega
      have LA := Lib.hid (show LentAt w2 w.heap.size (.slice (some ⟨g, 0, none⟩) T.length c2) T from ⟨g, c2, cs, rfl, HS.out.len, own2', nds2⟩)
      have LA2 := Lib.hid (fun u => LA.out.kept b1 (setCell_grown w2 ⟨w.heap.size + 1, 0, none⟩ u) (by decide) (by decide) (by decide))
      have y0 := cell_of_one b0
      have y1 := cell_of_one b1
      have yf := free_of_one b1
      have e0 := lt_of_block b0
      have e1 := lt_of_block b1
      have hlk' : (T.length : Int) ≤ (c2 : Int) := by omega
      clear own2 gr2 gr2' pl2 own2' nds2 b0 b1 HS OW3 SR3 hone B3 x0 z0 z1 hw8 hz2 hb2 hkm
      have BF := fun u => Below.setCell (p := ⟨w.heap.size + 1, 0, none⟩) B2 (by simp) u
      have HBF := Lib.hid BF
      clear BF B2 LA
      go_wp2
      exact bodyPost_ret (v := .agg #[.slice (some ⟨g, 0, none⟩) T.length c2]) (by simp [results, Try.results11, go_sem, y1, e1]) rfl ⟨_, rfl, LA2.out _, HBF.out _⟩
end Go.Proofs.Ytihjefncjkdnpaa
