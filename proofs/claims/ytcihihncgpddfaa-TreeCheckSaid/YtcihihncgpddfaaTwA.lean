/- Layer 10: the reference's Twin: a tree in memory of its own. -/
import Derived.Test.YtcihihncgpddfaaDecA
import Derived.Test.YtcihihncgpddfaaSmA
import Derived.Test.YtcihihncgpddfaaTbl
import Derived.Deep.WholeRow
namespace Go.Proofs.Ytcihihncgpddfaa
open Go.RowKit Go.Deep
set_option linter.unusedVariables false
set_option linter.unusedSimpArgs false

theorem row_base {w : World} {base base' : Nat} {t : TypeId} {k : Nat} {v : Value} {n : Nat} {xs : List Value} (h : w.ownsRow base t k v n xs) (hb : base' ≤ base) : w.ownsRow base' t k v n xs := by
  obtain ⟨hl, h | ⟨g, cap, cur, e, hb', hh, hr⟩⟩ := h
  · exact ⟨hl, .inl h⟩
  · exact ⟨hl, .inr ⟨g, cap, cur, e, by omega, hh, hr⟩⟩
theorem ints_one (L : List Int) : ∀ u ∈ L.map (Value.int .i64), u.oneCell' = true := fun u hu => by
  obtain ⟨a, _, rfl⟩ := List.mem_map.1 hu
  rfl
theorem items_one (L : List It) : ∀ u ∈ cellsI L, u.oneCell' = true := fun u hu => by
  obtain ⟨a, _, h⟩ := List.mem_flatMap.1 hu
  simp only [itV, List.mem_cons, List.not_mem_nil, or_false] at h
  rcases h with rfl | rfl | rfl | rfl | rfl <;> rfl
theorem src_new (w : World) (cs : Array Value) (e : TypeId) (m size : Nat) (h : cs.size = m * size) : Src (w.alloc (.cells cs e)) (some ⟨w.heap.size, 0, none⟩) m size cs.toList :=
  ⟨by simpa using h, fun _ => ⟨w.heap.size, 0, rfl, by simp, fun j u hu => by
    rw [cell_of_row _ w.heap.size (0 + j) cs e (0, 0) (heap_alloc_new _ _), Nat.zero_add, ← Array.getElem?_toList]; exact hu⟩⟩
/-- a block of the call's own behind a store into one of its cells -/
theorem blk_set {w : World} {g i : Nat} {cs : List Value} {t : TypeId} (v : Value) (h : w.heap[g]? = some (.cells cs.toArray t (0, 0))) : (w.setCell ⟨g, i, none⟩ v).heap[g]? = some (.cells (cs.set i v).toArray t (0, 0)) := by
  rw [heap_setCell_same w g i cs.toArray t v h]
  simp
theorem blk_cell {w : World} {g i : Nat} {cs : List Value} {t : TypeId} {v : Value} (h : w.heap[g]? = some (.cells cs.toArray t (0, 0))) (hc : cs[i]? = some v) : w.cell? ⟨g, i, none⟩ = some v := by
  rw [cell_of_row w g i cs.toArray t (0, 0) h]; simpa using hc
theorem setCell_grown (w : World) (a : Addr) (v : Value) : w.grownBy (w.setCell a v) (some a.block) :=
  ⟨rfl, rfl, rfl, by simp, fun k hk hne => heap_setCell_other w a k v (fun e => hne (by rw [e]))⟩
theorem below_grow {B : Nat} {a w w' : World} (h : Below B a w) (g : w.grownBy w' none) (hB : B ≤ w.heap.size) : Below B a w' := h.grown g hB (fun k hk => by cases hk)
/-- a tree of the call's own, one node more -/
theorem OwnT.push {base : Nat} {W W1 WA W2 : World} {tv v' kv cv : Value} {l : List Nd} {y : Nd} {kvs cvs : Nat → Value} {m : Nat} {xs : List Value} (h : OwnT base W tv l kvs cvs) (hb1 : Below W.heap.size W W1) (hbA : Below W1.heap.size W1 WA) (hz : base ≤ W.heap.size)
    (kr : W1.ownsRow W.heap.size 3 1 kv y.kids.length (y.kids.map (Value.int .i64))) (cr : W1.ownsRow W.heap.size 57 5 cv y.cols.length (itsV y.cols)) (own : W2.ownsRow base 64 34 v' m xs) (hm : m = l.length + 1) (hxs : xs = ndsV l kvs cvs ++ ndV y kv cv) (gr : WA.grownBy W2 tv.ownBlock) : OwnT base W2 v' (l ++ [y]) (upd kvs l.length kv) (upd cvs l.length cv) := by
  have h1 := h.later hb1
  have hA := h1.later hbA
  have lrow : ∀ {b : Nat} {t : TypeId} {k n : Nat} {v : Value} {xs : List Value}, W1.ownsRow b t k v n xs → t ≠ 64 → W2.ownsRow b t k v n xs := fun hr ht => (row_later hr hbA).kept gr (row_ne (row_later hr hbA) hA.row ht)
  have hlen : (l ++ [y]).length = l.length + 1 := by simp
  refine ⟨?_, fun i hi => ?_, fun i hi => ?_, fun i j hi hj hij b e => ?_, fun i j hi hj hij b e => ?_⟩
  · rw [hlen, ndsV_snoc]
    subst hm hxs
    exact own
  · rw [hlen] at hi
    by_cases hlt : i < l.length
    · rw [getD_snoc hlt, upd_other (by omega)]
      exact lrow (h1.kr i hlt) (by decide)
    · obtain rfl : i = l.length := by omega
      rw [getD_last, upd_same]
      exact row_base (lrow kr (by decide)) hz
  · rw [hlen] at hi
    by_cases hlt : i < l.length
    · rw [getD_snoc hlt, upd_other (by omega)]
      exact lrow (h1.cr i hlt) (by decide)
    · obtain rfl : i = l.length := by omega
      rw [getD_last, upd_same]
      exact row_base (lrow cr (by decide)) hz
  · rw [hlen] at hi hj
    by_cases h2 : i < l.length
    · rw [upd_other (by omega)] at e
      by_cases h3 : j < l.length
      · rw [upd_other (by omega)]
        exact h.kd i j h2 h3 hij b e
      · obtain rfl : j = l.length := by omega
        rw [upd_same]
        intro e'
        have := (row_lt (h.kr i h2) b e).1
        have := (row_lt kr b e').2
        omega
    · obtain rfl : i = l.length := by omega
      rw [upd_same] at e
      rw [upd_other (by omega)]
      intro e'
      have := (row_lt (h.kr j (by omega)) b e').1
      have := (row_lt kr b e).2
      omega
  · rw [hlen] at hi hj
    by_cases h2 : i < l.length
    · rw [upd_other (by omega)] at e
      by_cases h3 : j < l.length
      · rw [upd_other (by omega)]
        exact h.cd i j h2 h3 hij b e
      · obtain rfl : j = l.length := by omega
        rw [upd_same]
        intro e'
        have := (row_lt (h.cr i h2) b e).1
        have := (row_lt cr b e').2
        omega
    · obtain rfl : i = l.length := by omega
      rw [upd_same] at e
      rw [upd_other (by omega)]
      intro e'
      have := (row_lt (h.cr j (by omega)) b e').1
      have := (row_lt cr b e).2
      omega
/-- a store into a block of another type -/
theorem OwnT.set {base : Nat} {W : World} {tv : Value} {l : List Nd} {kvs cvs : Nat → Value} (h : OwnT base W tv l kvs cvs) {b : Nat} {cur : Array Value} {t : TypeId} {fr : Nat × Nat} (hb : W.heap[b]? = some (.cells cur t fr)) (h1 : 64 ≠ t) (h2 : 3 ≠ t) (h3 : 57 ≠ t) (i : Nat) (u : Value) : OwnT base (W.setCell ⟨b, i, none⟩ u) tv l kvs cvs :=
  h.kept fun g hg => heap_setCell_other W ⟨b, i, none⟩ g u (fun e => h.not_has hb h1 h2 h3 (by have e : g = b := e; rw [← e]; exact hg))
/-- the state of Twin: k nodes have been copied -/
structure TwS (w W : World) (p : Option Addr) (c : Nat) (T : List Nd) (k : Nat) (tv : Value) (kvs cvs : Nat → Value) : Prop where
  be : Below w.heap.size w W
  b0 : W.heap[w.heap.size]? = some (.cells #[.slice p T.length c] 24 (0, 0))
  b1 : W.heap[w.heap.size + 1]? = some (.cells #[.slice none 0 0] 24 (0, 0))
  b2 : W.heap[w.heap.size + 1 + 1]? = some (.cells #[tv] 24 (0, 0))
  own : OwnT w.heap.size W tv (T.take k) kvs cvs
theorem TwS.push {w wr W1 WA W2 : World} {p : Option Addr} {c : Nat} {T : List Nd} {k : Nat} {tv v' kv cv : Value} {kvs cvs : Nat → Value} {m : Nat} {xs : List Value} (h : TwS w wr p c T k tv kvs cvs) (hk : k < T.length) (hb1 : Below wr.heap.size wr W1) (hbA : Below W1.heap.size W1 WA)
    (kr : W1.ownsRow wr.heap.size 3 1 kv (T.getD k zNd).kids.length ((T.getD k zNd).kids.map (Value.int .i64))) (cr : W1.ownsRow wr.heap.size 57 5 cv (T.getD k zNd).cols.length (itsV (T.getD k zNd).cols)) (own : W2.ownsRow w.heap.size 64 34 v' m xs) (hm : m = k + 1) (hxs : xs = ndsV (T.take k) kvs cvs ++ ndV (T.getD k zNd) kv cv) (gr : WA.grownBy W2 tv.ownBlock) :
    W2.heap[w.heap.size + 1 + 1]? = some (.cells #[tv] 24 (0, 0)) ∧ TwS w (W2.setCell ⟨w.heap.size + 1 + 1, 0, none⟩ v') p c T (k + 1) v' (upd kvs k kv) (upd cvs k cv) := by
  have hl : (T.take k).length = k := by rw [List.length_take]; omega
  have hz := h.be.size
  have s1 := hb1.size
  have sA := hbA.size
  have hA := (h.own.later hb1).later hbA
  have P := OwnT.push h.own hb1 hbA hz kr cr own (by rw [hl]; exact hm) hxs gr
  rw [hl] at P
  have old : ∀ {b : Nat} {v : Value}, wr.heap[b]? = some (.cells #[v] 24 (0, 0)) → W2.heap[b]? = some (.cells #[v] 24 (0, 0)) := fun {b v} hb => by
    have z := lt_of_block hb
    have hb' : WA.heap[b]? = some (.cells #[v] 24 (0, 0)) := (hbA.block b (by omega)).trans ((hb1.block b z).trans hb)
    exact (gr.block b (by omega) (fun e => hA.not_has hb' (by decide) (by decide) (by decide) (.inl e.symm))).trans hb'
  have b2 := old h.b2
  have BW : Below w.heap.size w W2 := Below.grown (below_via hbA (below_via hb1 h.be)) gr (by omega) (fun g hg => (row_lt hA.row g hg).2)
  have e1 : T.take (k + 1) = T.take k ++ [T.getD k zNd] := by rw [List.take_succ_eq_append_getElem hk, List.getD_eq_getElem?_getD, List.getElem?_eq_getElem hk]; rfl
  refine ⟨b2, BW.setCell (p := ⟨w.heap.size + 1 + 1, 0, none⟩) (by simp; omega) v', ?_, ?_, one_set b2, ?_⟩
  · exact (heap_setCell_other W2 ⟨w.heap.size + 1 + 1, 0, none⟩ _ v' (by simp; omega)).trans (old h.b0)
  · exact (heap_setCell_other W2 ⟨w.heap.size + 1 + 1, 0, none⟩ _ v' (by simp)).trans (old h.b1)
  · rw [e1]
    exact P.set b2 (by decide) (by decide) (by decide) 0 v'
set_option maxRecDepth 100000 in
set_option maxHeartbeats 16000000 in
theorem ref_Twin_any (p : Option Addr) (c : Nat) (T : List Nd) (w : World) (hT : TreeAt w (.slice p T.length c) T) (hN : T.length * 288 ≤ 140737488351232) (hK : ∀ x ∈ T, x.kids.length * 8 ≤ 140737488351232 ∧ x.cols.length * 40 ≤ 140737488351232) : Calls Try.prog 37 #[.agg #[.slice p T.length c]] w fun e w' => ∃ tv kvs cvs, e = .returned (.agg #[tv]) ∧ OwnT w.heap.size w' tv T kvs cvs ∧ Below w.heap.size w w' := by
  obtain ⟨i0, hi, hz0, hz1, hz2⟩ := info_parts infoNode_
  obtain ⟨j0, hj, hy0, hy1, hy2⟩ := info_parts infoInt_
  obtain ⟨k0, hk0, hx0, hx1, hx2⟩ := info_parts infoItm_
  have HI := Lib.hid (And.intro hi (And.intro hz0 (And.intro hz1 hz2)))
  have HJ := Lib.hid (And.intro hj (And.intro hy0 (And.intro hy1 hy2)))
  have HKK := Lib.hid (And.intro hk0 (And.intro hx0 (And.intro hx1 hx2)))
  have HT := Lib.hid hT
  have HK := Lib.hid hK
  have hlen : T.length ≤ 488671834553 := by omega
  obtain ⟨w1, hw1⟩ : ∃ x, x = ((w.alloc (.cells #[.slice p T.length c] 24)).alloc (.cells #[.slice none 0 0] 24)).alloc (.cells #[.slice none 0 0] 24) := ⟨_, rfl⟩
  have S1 : TwS w w1 p c T 0 (.slice none 0 0) (fun _ => .slice none 0 0) (fun _ => .slice none 0 0) := by
    rw [hw1]
    refine ⟨by go_grown, ?_, ?_, ?_, OwnT.nil _ _ _ _⟩
    · exact (heap_alloc_old _ _ (by simp <;> omega)).trans ((heap_alloc_old _ _ (by simp <;> omega)).trans (heap_alloc_new _ _))
    · refine (heap_alloc_old _ _ (by simp <;> omega)).trans ?_
      have := heap_alloc_new (w.alloc (.cells #[.slice p T.length c] 24)) (.cells #[.slice none 0 0] 24)
      rwa [World.size_alloc] at this
    · have := heap_alloc_new ((w.alloc (.cells #[.slice p T.length c] 24)).alloc (.cells #[.slice none 0 0] 24)) (.cells #[.slice none 0 0] 24)
      rwa [World.size_alloc, World.size_alloc] at this
  have x0 : w1.cell? ⟨w.heap.size, 0, none⟩ = some (.slice p T.length c) := cell_of_one S1.b0
  have z0 : w.heap.size < w1.heap.size := lt_of_block S1.b0
  have HS1 := Lib.hid S1
  clear hi hz0 hz1 hz2 hj hy0 hy1 hy2 hk0 hx0 hx1 hx2 hT hK hN S1
  go_enter Try.func37, Try.ntmps37
  go_upto_region 2 with (fail)
  rw [← hw1]
  clear hw1
  go_wp2
  go_loopw [4] (fun i wr => ∃ k : Nat, ∃ tv : Value, ∃ kvs cvs : Nat → Value, k ≤ T.length ∧ i = .int .i64 k ∧ RowKit.Hid (TwS w wr p c T k tv kvs cvs)) (fun i _ => T.length - (intOf i).toNat)
  case atStart => exact ⟨0, _, _, _, Nat.zero_le _, rfl, HS1⟩
  case round =>
    clear HS1 x0 z0
    obtain ⟨k, tv, kvs, cvs, hk, rfl, HS⟩ := hrel
    have x0 : wr.cell? ⟨w.heap.size, 0, none⟩ = some (.slice p T.length c) := cell_of_one HS.out.b0
    have z0 : w.heap.size < wr.heap.size := lt_of_block HS.out.b0
    by_cases hlt : k < T.length
    · have hki : (k : Int) < (T.length : Int) := by omega
      obtain ⟨_, _, p', c', e, _, _, hnd⟩ := HT.out
      injection e with e1 _ e2
      subst e1 e2
      obtain ⟨b, off, rfl, hb, hnd⟩ := hnd (by omega)
      obtain ⟨kv, cv, hkv, hcv, hc⟩ := (hnd k hlt).later HS.out.be (Nat.le_refl _) hb
      have hmem : T.getD k zNd ∈ T := by rw [List.getD_eq_getElem?_getD, List.getElem?_eq_getElem hlt]; exact List.getElem_mem hlt
      obtain ⟨hks, hcs⟩ := HK.out _ hmem
      generalize hxe : T.getD k zNd = x at hkv hcv hc hks hcs
      have HXE := Lib.hid hxe
      have RNG0 := nd_range hc
      have ONE0 := ndV_one hkv hcv
      have hkl : x.kids.length ≤ 17592186043904 := by omega
      have hcl : x.cols.length ≤ 3518437208780 := by omega
      have HKV := Lib.hid hkv
      have HCV := Lib.hid hcv
      obtain ⟨pk, ck, rfl, _, _, _, _⟩ := hkv
      obtain ⟨pc, cc, rfl, _, _, _, _⟩ := hcv
      have c3e : (ndV x (.slice pk x.kids.length ck) (.slice pc x.cols.length cc))[3]? = some (.slice pk x.kids.length ck) := rfl
      have c28e : (ndV x (.slice pk x.kids.length ck) (.slice pc x.cols.length cc))[28]? = some (.slice pc x.cols.length cc) := rfl
      have sete : ∀ a b, ((ndV x (.slice pk x.kids.length ck) (.slice pc x.cols.length cc)).set 3 a).set 28 b = ndV x a b := fun _ _ => rfl
      have len0 := ndV_len x (.slice pk x.kids.length ck) (.slice pc x.cols.length cc)
      generalize ndV x (.slice pk x.kids.length ck) (.slice pc x.cols.length cc) = ns at *
      have RNG := Lib.hid RNG0
      have ONE := Lib.hid ONE0
      have LEN := Lib.hid len0
      have C3 := Lib.hid c3e
      have C28 := Lib.hid c28e
      have SET := Lib.hid sete
      have hbw : b < wr.heap.size := by have := HS.out.be.size; omega
      have hz2 : (ndV zNd (.slice none 0 0) (.slice none 0 0)).toArray.size = 34 := rfl
      clear hc RNG0 ONE0 len0 c3e c28e hxe hmem hnd sete hks hcs
      go_wp2_with (first | ((with_reducible refine wpList_load_node ?g1 (.tmp 16) ?g2 b (off + k * 34) ?g3 ns LEN.out RNG.out ?_); (case g1 => rfl); (case g2 => rfl); (case g3 => rfl)) | ((with_reducible refine wpList_store_nodeB ?g1 (.tmp 5) (.tmp 17) ?g2 _ _ ns ?g3 ?g4 ?g5 LEN.out ONE.out ?_); (case g1 => rfl); (case g2 => rfl); (case g3 => rfl); (case g4 => rfl); (case g5 => rfl)))
      intro w3 HW3
      obtain ⟨nb, hnb⟩ : ∃ nb, nb = wr.heap.size := ⟨_, rfl⟩
      have nn : w3.heap[nb]? = some (.cells ns.toArray 64 (0, 0)) := by rw [HW3.out, hnb]; exact heap_alloc_new _ _
      have B3 : Below wr.heap.size wr w3 := by rw [HW3.out]; exact below_al (Below.refl _ _) _
      have z3 : nb < w3.heap.size := by rw [HW3.out, hnb]; simp
      rw [← hnb]
      have HNB := Lib.hid hnb
      have hn1 : wr.heap.size ≤ nb := by omega
      -- the empty list
      have OW3 := Lib.hid (World.ownsRow_lit (base := nb + 1) (e := 3) (size := 1) w3 #[] 0 (by omega) (by decide) rfl)
      obtain ⟨w4, hw4⟩ : ∃ x, x = w3.alloc (.cells #[] 3) := ⟨_, rfl⟩
      have B4 : Below wr.heap.size wr w4 := by rw [hw4]; exact below_al B3 _
      have nn4 : w4.heap[nb]? = some (.cells ns.toArray 64 (0, 0)) := by rw [hw4]; exact (heap_alloc_old _ _ z3).trans nn
      have z4 : nb < w4.heap.size := lt_of_block nn4
      have n3 : w4.cell? ⟨nb, 3, none⟩ = some (.slice pk x.kids.length ck) := blk_cell nn4 C3.out
      have SR4 := Lib.hid ((HKV.out.later B4 (Nat.le_refl _)).src.2)
      have HB3 := Lib.hid B3
      have HB4 := Lib.hid B4
      have NN4 := Lib.hid nn4
      have HW4 := Lib.hid hw4
      have s4 : w4.heap.size = w3.heap.size + 1 := by rw [hw4]; simp
      have HS4 := Lib.hid s4
      rw [← hw4] at OW3
      clear HW3 nn hnb RNG ONE LEN hbw x0 z0 B3 B4 nn4 hw4 s4
      go_wp2_with (first | ((with_reducible refine wpList_buildSlice_all _ ?b1 45 3 0 #[] ?b2 j0 _ 1 Try.underlying45 HJ.out.1 HJ.out.2.1 HJ.out.2.2.1 ?b6 [] ?b7 ?b3 ?b4 ?b5 ?_); (case b1 => rfl); (case b2 => rfl); (case b6 => decide); (case b7 => rfl); (case b3 => rfl); (case b4 => (intro a ha; cases ha)); (case b5 => (show 0 * 1 ≤ 16777216; decide)); (show wpList _ _ _ _ _ (w3.alloc (.cells #[] 3))); (rw [← HW4.out])) | (at_builtin; refine wpList_append_src _ rfl (.tmp 18) (.tmp 20) 45 rfl (nb + 1) 3 j0 (.int .i64 0) 1 8 Try.underlying45 HJ.out.1 HJ.out.2.1 HJ.out.2.2.1 HJ.out.2.2.2 rfl (by decide) _ 0 [] rfl OW3.out pk x.kids.length ck (x.kids.map (Value.int .i64)) rfl SR4.out (ints_one _) ?h1 ?h2 ?h3 ?_))
      case h1 => unfold maxLen; omega
      case h2 => omega
      case h3 => omega
      intro v5 w5 own5 gr5 pl5
      (try simp only [List.nil_append, Nat.zero_add] at own5)
      obtain ⟨q5, c5, rfl⟩ : ∃ q5 c5, v5 = .slice q5 x.kids.length c5 := by
        rcases row_form own5 with ⟨h1, h2, _⟩ | ⟨g, c, h1, _⟩
        · exact ⟨none, 0, by rw [h2]; exact h1⟩
        · exact ⟨_, _, h1⟩
      have B5 : Below wr.heap.size wr w5 := Below.grown HB4.out gr5 (by have := HB4.out.size; omega) (fun g hg => by simp [Value.ownBlock] at hg; have := HB3.out.size; omega)
      have nn5 : w5.heap[nb]? = some (.cells ns.toArray 64 (0, 0)) := (gr5.block nb z4 (by simp [Value.ownBlock]; omega)).trans NN4.out
      have z5 : nb < w5.heap.size := lt_of_block nn5
      clear OW3 SR4 NN4 HW4 HS4 HB3 HB4 z3 z4 n3 gr5 pl5
      have n3 : w5.cell? ⟨nb, 3, none⟩ = some (.slice pk x.kids.length ck) := blk_cell nn5 C3.out
      have f3 : w5.frozen? ⟨nb, 3, none⟩ = false := frozen_of_row _ _ _ _ _ nn5
      have NN5 := Lib.hid nn5
      have OW5 := Lib.hid own5
      clear nn5 own5
      go_upto_region 7 with (fail)
      generalize hw6 : World.setCell _ _ _ = w6
      have nn6 : w6.heap[nb]? = some (.cells (ns.set 3 (.slice q5 x.kids.length c5)).toArray 64 (0, 0)) := by rw [← hw6]; exact blk_set _ NN5.out
      have OW6 := Lib.hid (show w6.ownsRow (nb + 1) 3 1 _ _ _ by rw [← hw6]; exact ownsRow_setCell_other OW5.out (row_blk_ne OW5.out NN5.out (by decide)) _)
      have B6 : Below wr.heap.size wr w6 := by rw [← hw6]; exact B5.setCell (by simp; omega) _
      have z6 : nb < w6.heap.size := lt_of_block nn6
      have OW6' := Lib.hid (World.ownsRow_lit (base := nb + 1) (e := 57) (size := 5) w6 #[] 0 (by omega) (by decide) rfl)
      obtain ⟨w7, hw7⟩ : ∃ x, x = w6.alloc (.cells #[] 57) := ⟨_, rfl⟩
      have B7 : Below wr.heap.size wr w7 := by rw [hw7]; exact below_al B6 _
      have nn7 : w7.heap[nb]? = some (.cells (ns.set 3 (.slice q5 x.kids.length c5)).toArray 64 (0, 0)) := by rw [hw7]; exact (heap_alloc_old _ _ z6).trans nn6
      have OW7 := Lib.hid (row_later OW6.out (show Below w6.heap.size w6 w7 by rw [hw7]; exact below_al (Below.refl _ _) _))
      have z7 : nb < w7.heap.size := lt_of_block nn7
      have n28 : w7.cell? ⟨nb, 28, none⟩ = some (.slice pc x.cols.length cc) := blk_cell nn7 (by rw [List.getElem?_set_ne (by decide)]; exact C28.out)
      have NN7 := Lib.hid nn7
      have SR7 := Lib.hid (HCV.out.later B7 (Nat.le_refl _)).src.2
      have HW7 := Lib.hid hw7
      have HB6 := Lib.hid B6
      have HB7 := Lib.hid B7
      rw [← hw7] at OW6'
      clear hw6 nn6 NN5 OW5 B5 n3 f3 z5 B6 B7 nn7 hw7 OW6
      go_wp2_with (first | ((with_reducible refine wpList_buildSlice_all _ ?b1 62 57 0 #[] ?b2 k0 _ 5 Try.underlying62 HKK.out.1 HKK.out.2.1 HKK.out.2.2.1 ?b6 [] ?b7 ?b3 ?b4 ?b5 ?_); (case b1 => rfl); (case b2 => rfl); (case b6 => decide); (case b7 => rfl); (case b3 => rfl); (case b4 => (intro a ha; cases ha)); (case b5 => (show 0 * 5 ≤ 16777216; decide)); (show wpList _ _ _ _ _ (w6.alloc (.cells #[] 57))); (rw [← HW7.out])) | (at_builtin; refine wpList_append_src _ rfl (.tmp 23) (.tmp 25) 62 rfl (nb + 1) 57 k0 _ 5 40 Try.underlying62 HKK.out.1 HKK.out.2.1 HKK.out.2.2.1 HKK.out.2.2.2 rfl (by decide) _ 0 [] rfl OW6'.out pc x.cols.length cc (cellsI x.cols) rfl SR7.out (items_one _) ?i1 ?i2 ?i3 ?_))
      case i1 => unfold maxLen; omega
      case i2 => omega
      case i3 => omega
      intro v8 w8 own8 gr8 pl8
      (try simp only [List.nil_append, Nat.zero_add] at own8)
      obtain ⟨q8, c8, rfl⟩ : ∃ q8 c8, v8 = .slice q8 x.cols.length c8 := by
        rcases row_form own8 with ⟨h1, h2, _⟩ | ⟨g, c, h1, _⟩
        · exact ⟨none, 0, by rw [h2]; exact h1⟩
        · exact ⟨_, _, h1⟩
      have B8 : Below wr.heap.size wr w8 := Below.grown HB7.out gr8 (by have := HB7.out.size; omega) (fun g hg => by simp [Value.ownBlock] at hg; have := HB6.out.size; omega)
      have nn8 : w8.heap[nb]? = some (.cells (ns.set 3 (.slice q5 x.kids.length c5)).toArray 64 (0, 0)) := (gr8.block nb z7 (by simp [Value.ownBlock]; omega)).trans NN7.out
      have OW8 := Lib.hid (OW7.out.kept gr8 (row_ne OW7.out OW6'.out (by decide)))
      have z8 : nb < w8.heap.size := lt_of_block nn8
      clear SR7 NN7 n28 OW7 HB6 HB7 z6 z7 gr8 pl8 OW6' HW7
      have n28 : w8.cell? ⟨nb, 28, none⟩ = some (.slice pc x.cols.length cc) := blk_cell nn8 (by rw [List.getElem?_set_ne (by decide)]; exact C28.out)
      have f28 : w8.frozen? ⟨nb, 28, none⟩ = false := frozen_of_row _ _ _ _ _ nn8
      have NN8 := Lib.hid nn8
      have OC8 := Lib.hid own8
      clear nn8 own8
      go_upto_region 8 with (fail)
      generalize hw9 : World.setCell _ _ _ = w9
      obtain ⟨ns9, hns9⟩ : ∃ ns9, ns9 = ndV x (.slice q5 x.kids.length c5) (.slice q8 x.cols.length c8) := ⟨_, rfl⟩
      have nn9 : w9.heap[nb]? = some (.cells ns9.toArray 64 (0, 0)) := by rw [← hw9, hns9, ← SET.out]; exact blk_set _ NN8.out
      have OW9 := Lib.hid (show w9.ownsRow (nb + 1) 3 1 _ _ _ by rw [← hw9]; exact ownsRow_setCell_other OW8.out (row_blk_ne OW8.out NN8.out (by decide)) _)
      have OC9 := Lib.hid (show w9.ownsRow (nb + 1) 57 5 _ _ _ by rw [← hw9]; exact ownsRow_setCell_other OC8.out (row_blk_ne OC8.out NN8.out (by decide)) _)
      have B9 : Below wr.heap.size wr w9 := by rw [← hw9]; exact B8.setCell (by simp; omega) _
      have RNG9 : RowKit.Hid (w9.rangeAt nb 0 ns9) := Lib.hid (fun j u hu => by rw [Nat.zero_add]; exact blk_cell nn9 hu)
      have LEN9 := Lib.hid (show ns9.length = 34 by rw [hns9]; rfl)
      have z9 : nb < w9.heap.size := lt_of_block nn9
      have HNS := Lib.hid hns9
      have ONE9 : RowKit.Hid (∀ u ∈ ns9, u.oneCell' = true) := Lib.hid (by rw [hns9]; exact ndV_one (x := x) (row_ints OW9.out) (row_items OC9.out))
      have y2w := HS.out.b2
      have y2 : w9.cell? ⟨w.heap.size + 1 + 1, 0, none⟩ = some tv := cell_of_one ((B9.block _ (lt_of_block y2w)).trans y2w)
      have y2z : w.heap.size + 1 + 1 < w9.heap.size := lt_of_block ((B9.block _ (lt_of_block y2w)).trans y2w)
      have BA : Below w9.heap.size w9 (w9.alloc (.cells [ns9].flatten.toArray 64)) := below_al (Below.refl _ _) _
      have OWA := Lib.hid (row_later (row_later HS.out.own.row B9) BA)
      have SRA := Lib.hid (src_new w9 [ns9].flatten.toArray 64 1 34 (by simp [LEN9.out]))
      have HB9 := Lib.hid B9
      have HBA := Lib.hid BA
      have htl : (T.take k).length = k := by rw [List.length_take]; omega
      rw [htl] at OWA
      have HTL := Lib.hid htl
      clear hw9 nn9 NN8 OW8 OC8 B8 n28 f28 z8 hns9 B9 BA y2w htl
      have hkm : k + 1 ≤ maxLen := by unfold maxLen; omega
      have hw9 : w.heap.size ≤ w9.heap.size := by have := HS.out.be.size; have := HB9.out.size; omega
      go_wp2_with (first | ((with_reducible refine wpList_load_node ?l1 (.tmp 5) ?l2 nb 0 ?l3 ns9 LEN9.out RNG9.out ?_); (case l1 => rfl); (case l2 => rfl); (case l3 => rfl)) | ((with_reducible refine wpList_buildSlice_all _ ?b11 22 64 1 #[(0, .tmp 30)] ?b12 i0 _ 34 Try.underlying22 HI.out.1 HI.out.2.1 HI.out.2.2.1 ?b16 [ns9] ?b17 ?b13 ?b14 ?b15 ?_); (case b11 => rfl); (case b12 => rfl); (case b16 => decide); (case b17 => rfl); (case b13 => rfl); (case b14 => (intro a ha; rw [List.mem_singleton] at ha; rw [ha]; exact LEN9.out)); (case b15 => (show 1 * 34 ≤ 16777216; decide))) | (at_builtin; go_must (refine wpList_append_src _ rfl (.tmp 29) (.tmp 31) 22 rfl w.heap.size 64 i0 _ 34 288 Try.underlying22 HI.out.1 HI.out.2.1 HI.out.2.2.1 HI.out.2.2.2 rfl (by decide) _ k _ rfl OWA.out (some ⟨w9.heap.size, 0, none⟩) 1 1 _ rfl SRA.out ?o1 hkm ?o2 ?o3 ?_)))
      case o1 => first | (intro u hu; simp at hu; exact ONE9.out u hu) | (simpa using ONE9.out)
      case o2 => omega
      case o3 => first | omega | (simp; omega)
      intro v10 w10 own10 gr10 pl10
      have gr10' : (w9.alloc (.cells [ns9].flatten.toArray 64)).grownBy w10 tv.ownBlock := by simpa using gr10
      have hz0 := HS.out.be.size
      obtain ⟨b2, HS'⟩ := TwS.push HS.out hlt HB9.out HBA.out (by rw [HXE.out]; exact row_base OW9.out (by omega)) (by rw [HXE.out]; exact row_base OC9.out (by omega)) own10 (by rfl) (by rw [HXE.out, ← HNS.out] <;> simp) gr10'
      rcases row_form own10 with ⟨_, h0, _⟩ | ⟨g10, c10, rfl, _, _, _, _⟩
      · omega
      have y2 := cell_of_one b2
      have y2f := free_of_one b2
      have y2z := lt_of_block b2
      have HS2 := Lib.hid HS'
      clear HS HS' own10 gr10 gr10' pl10 hw9 OW9 OC9 OWA SRA b2
      go_wp2
      go_roundw
      case rel => exact ⟨k + 1, _, _, _, by omega, by go_num, HS2⟩
      case measure => simp [intOf]; omega
    · obtain rfl : k = T.length := by omega
      clear hlt hk
      obtain ⟨be, b0, b1, b2, own⟩ := HS.out
      rw [List.take_length] at own
      obtain ⟨pv, cv, rfl⟩ : ∃ q c, tv = .slice q T.length c := by
        rcases row_form own.row with ⟨h1, h2, _⟩ | ⟨g, c, h1, _⟩
        · exact ⟨none, 0, by rw [h2]; exact h1⟩
        · exact ⟨_, _, h1⟩
      have y1 := cell_of_one b1
      have y1f := free_of_one b1
      have y1z := lt_of_block b1
      have y2 := cell_of_one b2
      have y2z := lt_of_block b2
      have OWF := Lib.hid (fun u => own.set b1 (by decide) (by decide) (by decide) 0 u)
      have HBF := Lib.hid (fun u => Below.setCell (p := ⟨w.heap.size + 1, 0, none⟩) be (by simp) u)
      clear be b0 b1 b2 own HS
      go_wp2
      exact bodyPost_ret (v := .agg #[.slice pv T.length cv]) (by simp [results, Try.results37, go_sem, y1, y1z]) rfl ⟨_, _, _, rfl, OWF.out _, HBF.out _⟩
end Go.Proofs.Ytcihihncgpddfaa
