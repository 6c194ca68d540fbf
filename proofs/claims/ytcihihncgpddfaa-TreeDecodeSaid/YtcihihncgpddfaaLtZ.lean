/- LtZ: TwA LtA LtB LtS in one text. -/
import Derived.Test.YtcihihncgpddfaaDecA
import Derived.Test.YtcihihncgpddfaaSmZ
import Derived.Test.YtcihihncgpddfaaTbl
import Derived.Deep.WholeRow
import Derived.Laws.OwnMore
import Derived.StillTailTactics
namespace Go.Proofs.Ytcihihncgpddfaa
open Go.RowKit Go.Deep
set_option linter.unusedVariables false
set_option linter.unusedSimpArgs false

theorem row_base {w : World} {base base' : Nat} {t : TypeId} {k : Nat} {v : Value} {n : Nat} {xs : List Value} (h : w.ownsRow base t k v n xs) (hb : base' ≤ base) : w.ownsRow base' t k v n xs := by
  obtain ⟨hl, h | ⟨g, cap, cur, e, hb', hh, hr⟩⟩ := h
  · exact ⟨hl, .inl h⟩
  · exact ⟨hl, .inr ⟨g, cap, cur, e, by omega, hh, hr⟩⟩
theorem ints_one (L : List Int) : ∀ u ∈ L.map (Value.int .i64), u.oneCell' = true := fun u hu => by
  obtain ⟨a, _, rfl⟩ := List.mem_map.1 hu
  rfl
theorem items_one (L : List It) : ∀ u ∈ cellsI L, u.oneCell' = true := fun u hu => by
  obtain ⟨a, _, h⟩ := List.mem_flatMap.1 hu
  simp only [itV, List.mem_cons, List.not_mem_nil, or_false] at h
  rcases h with rfl | rfl | rfl | rfl | rfl <;> rfl
theorem src_new (w : World) (cs : Array Value) (e : TypeId) (m size : Nat) (h : cs.size = m * size) : Src (w.alloc (.cells cs e)) (some ⟨w.heap.size, 0, none⟩) m size cs.toList :=
  ⟨by simpa using h, fun _ => ⟨w.heap.size, 0, rfl, by simp, fun j u hu => by
    rw [cell_of_row _ w.heap.size (0 + j) cs e (0, 0) (heap_alloc_new _ _), Nat.zero_add, ← Array.getElem?_toList]; exact hu⟩⟩
/-- a block of the call's own behind a store into one of its cells -/
theorem blk_set {w : World} {g i : Nat} {cs : List Value} {t : TypeId} (v : Value) (h : w.heap[g]? = some (.cells cs.toArray t (0, 0))) : (w.setCell ⟨g, i, none⟩ v).heap[g]? = some (.cells (cs.set i v).toArray t (0, 0)) := by
  rw [heap_setCell_same w g i cs.toArray t v h]
  simp
theorem blk_cell {w : World} {g i : Nat} {cs : List Value} {t : TypeId} {v : Value} (h : w.heap[g]? = some (.cells cs.toArray t (0, 0))) (hc : cs[i]? = some v) : w.cell? ⟨g, i, none⟩ = some v := by
  rw [cell_of_row w g i cs.toArray t (0, 0) h]; simpa using hc
theorem setCell_grown (w : World) (a : Addr) (v : Value) : w.grownBy (w.setCell a v) (some a.block) :=
  ⟨rfl, rfl, rfl, by simp, fun k hk hne => heap_setCell_other w a k v (fun e => hne (by rw [e]))⟩
theorem below_grow {B : Nat} {a w w' : World} (h : Below B a w) (g : w.grownBy w' none) (hB : B ≤ w.heap.size) : Below B a w' := h.grown g hB (fun k hk => by cases hk)
/-- a tree of the call's own, one node more -/
theorem OwnT.push {base : Nat} {W W1 WA W2 : World} {tv v' kv cv : Value} {l : List Nd} {y : Nd} {kvs cvs : Nat → Value} {m : Nat} {xs : List Value} (h : OwnT base W tv l kvs cvs) (hb1 : Below W.heap.size W W1) (hbA : Below W1.heap.size W1 WA) (hz : base ≤ W.heap.size)
    (kr : W1.ownsRow W.heap.size 3 1 kv y.kids.length (y.kids.map (Value.int .i64))) (cr : W1.ownsRow W.heap.size 57 5 cv y.cols.length (itsV y.cols)) (own : W2.ownsRow base 64 34 v' m xs) (hm : m = l.length + 1) (hxs : xs = ndsV l kvs cvs ++ ndV y kv cv) (gr : WA.grownBy W2 tv.ownBlock) : OwnT base W2 v' (l ++ [y]) (upd kvs l.length kv) (upd cvs l.length cv) := by
  have h1 := h.later hb1
  have hA := h1.later hbA
  have lrow : ∀ {b : Nat} {t : TypeId} {k n : Nat} {v : Value} {xs : List Value}, W1.ownsRow b t k v n xs → t ≠ 64 → W2.ownsRow b t k v n xs := fun hr ht => (row_later hr hbA).kept gr (row_ne (row_later hr hbA) hA.row ht)
  have hlen : (l ++ [y]).length = l.length + 1 := by simp
  refine ⟨?_, fun i hi => ?_, fun i hi => ?_, fun i j hi hj hij b e => ?_, fun i j hi hj hij b e => ?_⟩
  · rw [hlen, ndsV_snoc]
    subst hm hxs
    exact own
  · rw [hlen] at hi
    by_cases hlt : i < l.length
    · rw [getD_snoc hlt, upd_other (by omega)]
      exact lrow (h1.kr i hlt) (by decide)
    · obtain rfl : i = l.length := by omega
      rw [getD_last, upd_same]
      exact row_base (lrow kr (by decide)) hz
  · rw [hlen] at hi
    by_cases hlt : i < l.length
    · rw [getD_snoc hlt, upd_other (by omega)]
      exact lrow (h1.cr i hlt) (by decide)
    · obtain rfl : i = l.length := by omega
      rw [getD_last, upd_same]
      exact row_base (lrow cr (by decide)) hz
  · rw [hlen] at hi hj
    by_cases h2 : i < l.length
    · rw [upd_other (by omega)] at e
      by_cases h3 : j < l.length
      · rw [upd_other (by omega)]
        exact h.kd i j h2 h3 hij b e
      · obtain rfl : j = l.length := by omega
        rw [upd_same]
        intro e'
        have := (row_lt (h.kr i h2) b e).1
        have := (row_lt kr b e').2
        omega
    · obtain rfl : i = l.length := by omega
      rw [upd_same] at e
      rw [upd_other (by omega)]
      intro e'
      have := (row_lt (h.kr j (by omega)) b e').1
      have := (row_lt kr b e).2
      omega
  · rw [hlen] at hi hj
    by_cases h2 : i < l.length
    · rw [upd_other (by omega)] at e
      by_cases h3 : j < l.length
      · rw [upd_other (by omega)]
        exact h.cd i j h2 h3 hij b e
      · obtain rfl : j = l.length := by omega
        rw [upd_same]
        intro e'
        have := (row_lt (h.cr i h2) b e).1
        have := (row_lt cr b e').2
        omega
    · obtain rfl : i = l.length := by omega
      rw [upd_same] at e
      rw [upd_other (by omega)]
      intro e'
      have := (row_lt (h.cr j (by omega)) b e').1
      have := (row_lt cr b e).2
      omega
/-- a store into a block of another type -/
theorem OwnT.set {base : Nat} {W : World} {tv : Value} {l : List Nd} {kvs cvs : Nat → Value} (h : OwnT base W tv l kvs cvs) {b : Nat} {cur : Array Value} {t : TypeId} {fr : Nat × Nat} (hb : W.heap[b]? = some (.cells cur t fr)) (h1 : 64 ≠ t) (h2 : 3 ≠ t) (h3 : 57 ≠ t) (i : Nat) (u : Value) : OwnT base (W.setCell ⟨b, i, none⟩ u) tv l kvs cvs :=
  h.kept fun g hg => heap_setCell_other W ⟨b, i, none⟩ g u (fun e => h.not_has hb h1 h2 h3 (by have e : g = b := e; rw [← e]; exact hg))
/-- the state of Twin: k nodes have been copied -/
structure TwS (w W : World) (p : Option Addr) (c : Nat) (T : List Nd) (k : Nat) (tv : Value) (kvs cvs : Nat → Value) : Prop where
  be : Below w.heap.size w W
  b0 : W.heap[w.heap.size]? = some (.cells #[.slice p T.length c] 24 (0, 0))
  b1 : W.heap[w.heap.size + 1]? = some (.cells #[.slice none 0 0] 24 (0, 0))
  b2 : W.heap[w.heap.size + 1 + 1]? = some (.cells #[tv] 24 (0, 0))
  own : OwnT w.heap.size W tv (T.take k) kvs cvs
theorem TwS.push {w wr W1 WA W2 : World} {p : Option Addr} {c : Nat} {T : List Nd} {k : Nat} {tv v' kv cv : Value} {kvs cvs : Nat → Value} {m : Nat} {xs : List Value} (h : TwS w wr p c T k tv kvs cvs) (hk : k < T.length) (hb1 : Below wr.heap.size wr W1) (hbA : Below W1.heap.size W1 WA)
    (kr : W1.ownsRow wr.heap.size 3 1 kv (T.getD k zNd).kids.length ((T.getD k zNd).kids.map (Value.int .i64))) (cr : W1.ownsRow wr.heap.size 57 5 cv (T.getD k zNd).cols.length (itsV (T.getD k zNd).cols)) (own : W2.ownsRow w.heap.size 64 34 v' m xs) (hm : m = k + 1) (hxs : xs = ndsV (T.take k) kvs cvs ++ ndV (T.getD k zNd) kv cv) (gr : WA.grownBy W2 tv.ownBlock) :
    W2.heap[w.heap.size + 1 + 1]? = some (.cells #[tv] 24 (0, 0)) ∧ TwS w (W2.setCell ⟨w.heap.size + 1 + 1, 0, none⟩ v') p c T (k + 1) v' (upd kvs k kv) (upd cvs k cv) := by
  have hl : (T.take k).length = k := by rw [List.length_take]; omega
  have hz := h.be.size
  have s1 := hb1.size
  have sA := hbA.size
  have hA := (h.own.later hb1).later hbA
  have P := OwnT.push h.own hb1 hbA hz kr cr own (by rw [hl]; exact hm) hxs gr
  rw [hl] at P
  have old : ∀ {b : Nat} {v : Value}, wr.heap[b]? = some (.cells #[v] 24 (0, 0)) → W2.heap[b]? = some (.cells #[v] 24 (0, 0)) := fun {b v} hb => by
    have z := lt_of_block hb
    have hb' : WA.heap[b]? = some (.cells #[v] 24 (0, 0)) := (hbA.block b (by omega)).trans ((hb1.block b z).trans hb)
    exact (gr.block b (by omega) (fun e => hA.not_has hb' (by decide) (by decide) (by decide) (.inl e.symm))).trans hb'
  have b2 := old h.b2
  have BW : Below w.heap.size w W2 := Below.grown (below_via hbA (below_via hb1 h.be)) gr (by omega) (fun g hg => (row_lt hA.row g hg).2)
  have e1 : T.take (k + 1) = T.take k ++ [T.getD k zNd] := by rw [List.take_succ_eq_append_getElem hk, List.getD_eq_getElem?_getD, List.getElem?_eq_getElem hk]; rfl
  refine ⟨b2, BW.setCell (p := ⟨w.heap.size + 1 + 1, 0, none⟩) (by simp; omega) v', ?_, ?_, one_set b2, ?_⟩
  · exact (heap_setCell_other W2 ⟨w.heap.size + 1 + 1, 0, none⟩ _ v' (by simp; omega)).trans (old h.b0)
  · exact (heap_setCell_other W2 ⟨w.heap.size + 1 + 1, 0, none⟩ _ v' (by simp)).trans (old h.b1)
  · rw [e1]
    exact P.set b2 (by decide) (by decide) (by decide) 0 v'
set_option maxRecDepth 100000 in
set_option maxHeartbeats 16000000 in
theorem ref_Twin_any (p : Option Addr) (c : Nat) (T : List Nd) (w : World) (hT : TreeAt w (.slice p T.length c) T) (hN : T.length * 288 ≤ 140737488351232) (hK : ∀ x ∈ T, x.kids.length * 8 ≤ 140737488351232 ∧ x.cols.length * 40 ≤ 140737488351232) : Calls Try.prog 37 #[.agg #[.slice p T.length c]] w fun e w' => ∃ tv kvs cvs, e = .returned (.agg #[tv]) ∧ OwnT w.heap.size w' tv T kvs cvs ∧ Below w.heap.size w w' := by
  obtain ⟨i0, hi, hz0, hz1, hz2⟩ := info_parts infoNode_
  obtain ⟨j0, hj, hy0, hy1, hy2⟩ := info_parts infoInt_
  obtain ⟨k0, hk0, hx0, hx1, hx2⟩ := info_parts infoItm_
  have HI := Lib.hid (And.intro hi (And.intro hz0 (And.intro hz1 hz2)))
  have HJ := Lib.hid (And.intro hj (And.intro hy0 (And.intro hy1 hy2)))
  have HKK := Lib.hid (And.intro hk0 (And.intro hx0 (And.intro hx1 hx2)))
  have HT := Lib.hid hT
  have HK := Lib.hid hK
  have hlen : T.length ≤ 488671834553 := by omega
  obtain ⟨w1, hw1⟩ : ∃ x, x = ((w.alloc (.cells #[.slice p T.length c] 24)).alloc (.cells #[.slice none 0 0] 24)).alloc (.cells #[.slice none 0 0] 24) := ⟨_, rfl⟩
  have S1 : TwS w w1 p c T 0 (.slice none 0 0) (fun _ => .slice none 0 0) (fun _ => .slice none 0 0) := by
    rw [hw1]
    refine ⟨by go_grown, ?_, ?_, ?_, OwnT.nil _ _ _ _⟩
    · exact (heap_alloc_old _ _ (by simp <;> omega)).trans ((heap_alloc_old _ _ (by simp <;> omega)).trans (heap_alloc_new _ _))
    · refine (heap_alloc_old _ _ (by simp <;> omega)).trans ?_
      have := heap_alloc_new (w.alloc (.cells #[.slice p T.length c] 24)) (.cells #[.slice none 0 0] 24)
      rwa [World.size_alloc] at this
    · have := heap_alloc_new ((w.alloc (.cells #[.slice p T.length c] 24)).alloc (.cells #[.slice none 0 0] 24)) (.cells #[.slice none 0 0] 24)
      rwa [World.size_alloc, World.size_alloc] at this
  have x0 : w1.cell? ⟨w.heap.size, 0, none⟩ = some (.slice p T.length c) := cell_of_one S1.b0
  have z0 : w.heap.size < w1.heap.size := lt_of_block S1.b0
  have HS1 := Lib.hid S1
  clear hi hz0 hz1 hz2 hj hy0 hy1 hy2 hk0 hx0 hx1 hx2 hT hK hN S1
  go_enter Try.func37, Try.ntmps37
  go_upto_region 2 with (fail)
  rw [← hw1]
  clear hw1
  go_wp2
  go_loopw [4] (fun i wr => ∃ k : Nat, ∃ tv : Value, ∃ kvs cvs : Nat → Value, k ≤ T.length ∧ i = .int .i64 k ∧ RowKit.Hid (TwS w wr p c T k tv kvs cvs)) (fun i _ => T.length - (intOf i).toNat)
  case atStart => exact ⟨0, _, _, _, Nat.zero_le _, rfl, HS1⟩
  case round =>
    clear HS1 x0 z0
    obtain ⟨k, tv, kvs, cvs, hk, rfl, HS⟩ := hrel
    have x0 : wr.cell? ⟨w.heap.size, 0, none⟩ = some (.slice p T.length c) := cell_of_one HS.out.b0
    have z0 : w.heap.size < wr.heap.size := lt_of_block HS.out.b0
    by_cases hlt : k < T.length
    · have hki : (k : Int) < (T.length : Int) := by omega
      obtain ⟨_, _, p', c', e, _, _, hnd⟩ := HT.out
      injection e with e1 _ e2
      subst e1 e2
      obtain ⟨b, off, rfl, hb, hnd⟩ := hnd (by omega)
      obtain ⟨kv, cv, hkv, hcv, hc⟩ := (hnd k hlt).later HS.out.be (Nat.le_refl _) hb
      have hmem : T.getD k zNd ∈ T := by rw [List.getD_eq_getElem?_getD, List.getElem?_eq_getElem hlt]; exact List.getElem_mem hlt
      obtain ⟨hks, hcs⟩ := HK.out _ hmem
      generalize hxe : T.getD k zNd = x at hkv hcv hc hks hcs
      have HXE := Lib.hid hxe
      have RNG0 := nd_range hc
      have ONE0 := ndV_one hkv hcv
      have hkl : x.kids.length ≤ 17592186043904 := by omega
      have hcl : x.cols.length ≤ 3518437208780 := by omega
      have HKV := Lib.hid hkv
      have HCV := Lib.hid hcv
      obtain ⟨pk, ck, rfl, _, _, _, _⟩ := hkv
      obtain ⟨pc, cc, rfl, _, _, _, _⟩ := hcv
      have c3e : (ndV x (.slice pk x.kids.length ck) (.slice pc x.cols.length cc))[3]? = some (.slice pk x.kids.length ck) := rfl
      have c28e : (ndV x (.slice pk x.kids.length ck) (.slice pc x.cols.length cc))[28]? = some (.slice pc x.cols.length cc) := rfl
      have sete : ∀ a b, ((ndV x (.slice pk x.kids.length ck) (.slice pc x.cols.length cc)).set 3 a).set 28 b = ndV x a b := fun _ _ => rfl
      have len0 := ndV_len x (.slice pk x.kids.length ck) (.slice pc x.cols.length cc)
      generalize ndV x (.slice pk x.kids.length ck) (.slice pc x.cols.length cc) = ns at *
      have RNG := Lib.hid RNG0
      have ONE := Lib.hid ONE0
      have LEN := Lib.hid len0
      have C3 := Lib.hid c3e
      have C28 := Lib.hid c28e
      have SET := Lib.hid sete
      have hbw : b < wr.heap.size := by have := HS.out.be.size; omega
      have hz2 : (ndV zNd (.slice none 0 0) (.slice none 0 0)).toArray.size = 34 := rfl
      clear hc RNG0 ONE0 len0 c3e c28e hxe hmem hnd sete hks hcs
      go_wp2_with (first | ((with_reducible refine wpList_load_node ?g1 (.tmp 16) ?g2 b (off + k * 34) ?g3 ns LEN.out RNG.out ?_); (case g1 => rfl); (case g2 => rfl); (case g3 => rfl)) | ((with_reducible refine wpList_store_nodeB ?g1 (.tmp 5) (.tmp 17) ?g2 _ _ ns ?g3 ?g4 ?g5 LEN.out ONE.out ?_); (case g1 => rfl); (case g2 => rfl); (case g3 => rfl); (case g4 => rfl); (case g5 => rfl)))
      intro w3 HW3
      obtain ⟨nb, hnb⟩ : ∃ nb, nb = wr.heap.size := ⟨_, rfl⟩
      have nn : w3.heap[nb]? = some (.cells ns.toArray 64 (0, 0)) := by rw [HW3.out, hnb]; exact heap_alloc_new _ _
      have B3 : Below wr.heap.size wr w3 := by rw [HW3.out]; exact below_al (Below.refl _ _) _
      have z3 : nb < w3.heap.size := by rw [HW3.out, hnb]; simp
      rw [← hnb]
      have HNB := Lib.hid hnb
      have hn1 : wr.heap.size ≤ nb := by omega
      -- the empty list
      have OW3 := Lib.hid (World.ownsRow_lit (base := nb + 1) (e := 3) (size := 1) w3 #[] 0 (by omega) (by decide) rfl)
      obtain ⟨w4, hw4⟩ : ∃ x, x = w3.alloc (.cells #[] 3) := ⟨_, rfl⟩
      have B4 : Below wr.heap.size wr w4 := by rw [hw4]; exact below_al B3 _
      have nn4 : w4.heap[nb]? = some (.cells ns.toArray 64 (0, 0)) := by rw [hw4]; exact (heap_alloc_old _ _ z3).trans nn
      have z4 : nb < w4.heap.size := lt_of_block nn4
      have n3 : w4.cell? ⟨nb, 3, none⟩ = some (.slice pk x.kids.length ck) := blk_cell nn4 C3.out
      have SR4 := Lib.hid ((HKV.out.later B4 (Nat.le_refl _)).src.2)
      have HB3 := Lib.hid B3
      have HB4 := Lib.hid B4
      have NN4 := Lib.hid nn4
      have HW4 := Lib.hid hw4
      have s4 : w4.heap.size = w3.heap.size + 1 := by rw [hw4]; simp
      have HS4 := Lib.hid s4
      rw [← hw4] at OW3
      clear HW3 nn hnb RNG ONE LEN hbw x0 z0 B3 B4 nn4 hw4 s4
      go_wp2_with (first | ((with_reducible refine wpList_buildSlice_all _ ?b1 45 3 0 #[] ?b2 j0 _ 1 Try.underlying45 HJ.out.1 HJ.out.2.1 HJ.out.2.2.1 ?b6 [] ?b7 ?b3 ?b4 ?b5 ?_); (case b1 => rfl); (case b2 => rfl); (case b6 => decide); (case b7 => rfl); (case b3 => rfl); (case b4 => (intro a ha; cases ha)); (case b5 => (show 0 * 1 ≤ 16777216; decide)); (show wpList _ _ _ _ _ (w3.alloc (.cells #[] 3))); (rw [← HW4.out])) | (at_builtin; refine wpList_append_src _ rfl (.tmp 18) (.tmp 20) 45 rfl (nb + 1) 3 j0 (.int .i64 0) 1 8 Try.underlying45 HJ.out.1 HJ.out.2.1 HJ.out.2.2.1 HJ.out.2.2.2 rfl (by decide) _ 0 [] rfl OW3.out pk x.kids.length ck (x.kids.map (Value.int .i64)) rfl SR4.out (ints_one _) ?h1 ?h2 ?h3 ?_))
      case h1 => unfold maxLen; omega
      case h2 => omega
      case h3 => omega
      intro v5 w5 own5 gr5 pl5
      (try simp only [List.nil_append, Nat.zero_add] at own5)
      obtain ⟨q5, c5, rfl⟩ : ∃ q5 c5, v5 = .slice q5 x.kids.length c5 := by
        rcases row_form own5 with ⟨h1, h2, _⟩ | ⟨g, c, h1, _⟩
        · exact ⟨none, 0, by rw [h2]; exact h1⟩
        · exact ⟨_, _, h1⟩
      have B5 : Below wr.heap.size wr w5 := Below.grown HB4.out gr5 (by have := HB4.out.size; omega) (fun g hg => by simp [Value.ownBlock] at hg; have := HB3.out.size; omega)
      have nn5 : w5.heap[nb]? = some (.cells ns.toArray 64 (0, 0)) := (gr5.block nb z4 (by simp [Value.ownBlock]; omega)).trans NN4.out
      have z5 : nb < w5.heap.size := lt_of_block nn5
      clear OW3 SR4 NN4 HW4 HS4 HB3 HB4 z3 z4 n3 gr5 pl5
      have n3 : w5.cell? ⟨nb, 3, none⟩ = some (.slice pk x.kids.length ck) := blk_cell nn5 C3.out
      have f3 : w5.frozen? ⟨nb, 3, none⟩ = false := frozen_of_row _ _ _ _ _ nn5
      have NN5 := Lib.hid nn5
      have OW5 := Lib.hid own5
      clear nn5 own5
      go_upto_region 7 with (fail)
      generalize hw6 : World.setCell _ _ _ = w6
      have nn6 : w6.heap[nb]? = some (.cells (ns.set 3 (.slice q5 x.kids.length c5)).toArray 64 (0, 0)) := by rw [← hw6]; exact blk_set _ NN5.out
      have OW6 := Lib.hid (show w6.ownsRow (nb + 1) 3 1 _ _ _ by rw [← hw6]; exact ownsRow_setCell_other OW5.out (row_blk_ne OW5.out NN5.out (by decide)) _)
      have B6 : Below wr.heap.size wr w6 := by rw [← hw6]; exact B5.setCell (by simp; omega) _
      have z6 : nb < w6.heap.size := lt_of_block nn6
      have OW6' := Lib.hid (World.ownsRow_lit (base := nb + 1) (e := 57) (size := 5) w6 #[] 0 (by omega) (by decide) rfl)
      obtain ⟨w7, hw7⟩ : ∃ x, x = w6.alloc (.cells #[] 57) := ⟨_, rfl⟩
      have B7 : Below wr.heap.size wr w7 := by rw [hw7]; exact below_al B6 _
      have nn7 : w7.heap[nb]? = some (.cells (ns.set 3 (.slice q5 x.kids.length c5)).toArray 64 (0, 0)) := by rw [hw7]; exact (heap_alloc_old _ _ z6).trans nn6
      have OW7 := Lib.hid (row_later OW6.out (show Below w6.heap.size w6 w7 by rw [hw7]; exact below_al (Below.refl _ _) _))
      have z7 : nb < w7.heap.size := lt_of_block nn7
      have n28 : w7.cell? ⟨nb, 28, none⟩ = some (.slice pc x.cols.length cc) := blk_cell nn7 (by rw [List.getElem?_set_ne (by decide)]; exact C28.out)
      have NN7 := Lib.hid nn7
      have SR7 := Lib.hid (HCV.out.later B7 (Nat.le_refl _)).src.2
      have HW7 := Lib.hid hw7
      have HB6 := Lib.hid B6
      have HB7 := Lib.hid B7
      rw [← hw7] at OW6'
      clear hw6 nn6 NN5 OW5 B5 n3 f3 z5 B6 B7 nn7 hw7 OW6
      go_wp2_with (first | ((with_reducible refine wpList_buildSlice_all _ ?b1 62 57 0 #[] ?b2 k0 _ 5 Try.underlying62 HKK.out.1 HKK.out.2.1 HKK.out.2.2.1 ?b6 [] ?b7 ?b3 ?b4 ?b5 ?_); (case b1 => rfl); (case b2 => rfl); (case b6 => decide); (case b7 => rfl); (case b3 => rfl); (case b4 => (intro a ha; cases ha)); (case b5 => (show 0 * 5 ≤ 16777216; decide)); (show wpList _ _ _ _ _ (w6.alloc (.cells #[] 57))); (rw [← HW7.out])) | (at_builtin; refine wpList_append_src _ rfl (.tmp 23) (.tmp 25) 62 rfl (nb + 1) 57 k0 _ 5 40 Try.underlying62 HKK.out.1 HKK.out.2.1 HKK.out.2.2.1 HKK.out.2.2.2 rfl (by decide) _ 0 [] rfl OW6'.out pc x.cols.length cc (cellsI x.cols) rfl SR7.out (items_one _) ?i1 ?i2 ?i3 ?_))
      case i1 => unfold maxLen; omega
      case i2 => omega
      case i3 => omega
      intro v8 w8 own8 gr8 pl8
      (try simp only [List.nil_append, Nat.zero_add] at own8)
      obtain ⟨q8, c8, rfl⟩ : ∃ q8 c8, v8 = .slice q8 x.cols.length c8 := by
        rcases row_form own8 with ⟨h1, h2, _⟩ | ⟨g, c, h1, _⟩
        · exact ⟨none, 0, by rw [h2]; exact h1⟩
        · exact ⟨_, _, h1⟩
      have B8 : Below wr.heap.size wr w8 := Below.grown HB7.out gr8 (by have := HB7.out.size; omega) (fun g hg => by simp [Value.ownBlock] at hg; have := HB6.out.size; omega)
      have nn8 : w8.heap[nb]? = some (.cells (ns.set 3 (.slice q5 x.kids.length c5)).toArray 64 (0, 0)) := (gr8.block nb z7 (by simp [Value.ownBlock]; omega)).trans NN7.out
      have OW8 := Lib.hid (OW7.out.kept gr8 (row_ne OW7.out OW6'.out (by decide)))
      have z8 : nb < w8.heap.size := lt_of_block nn8
      clear SR7 NN7 n28 OW7 HB6 HB7 z6 z7 gr8 pl8 OW6' HW7
      have n28 : w8.cell? ⟨nb, 28, none⟩ = some (.slice pc x.cols.length cc) := blk_cell nn8 (by rw [List.getElem?_set_ne (by decide)]; exact C28.out)
      have f28 : w8.frozen? ⟨nb, 28, none⟩ = false := frozen_of_row _ _ _ _ _ nn8
      have NN8 := Lib.hid nn8
      have OC8 := Lib.hid own8
      clear nn8 own8
      go_upto_region 8 with (fail)
      generalize hw9 : World.setCell _ _ _ = w9
      obtain ⟨ns9, hns9⟩ : ∃ ns9, ns9 = ndV x (.slice q5 x.kids.length c5) (.slice q8 x.cols.length c8) := ⟨_, rfl⟩
      have nn9 : w9.heap[nb]? = some (.cells ns9.toArray 64 (0, 0)) := by rw [← hw9, hns9, ← SET.out]; exact blk_set _ NN8.out
      have OW9 := Lib.hid (show w9.ownsRow (nb + 1) 3 1 _ _ _ by rw [← hw9]; exact ownsRow_setCell_other OW8.out (row_blk_ne OW8.out NN8.out (by decide)) _)
      have OC9 := Lib.hid (show w9.ownsRow (nb + 1) 57 5 _ _ _ by rw [← hw9]; exact ownsRow_setCell_other OC8.out (row_blk_ne OC8.out NN8.out (by decide)) _)
      have B9 : Below wr.heap.size wr w9 := by rw [← hw9]; exact B8.setCell (by simp; omega) _
      have RNG9 : RowKit.Hid (w9.rangeAt nb 0 ns9) := Lib.hid (fun j u hu => by rw [Nat.zero_add]; exact blk_cell nn9 hu)
      have LEN9 := Lib.hid (show ns9.length = 34 by rw [hns9]; rfl)
      have z9 : nb < w9.heap.size := lt_of_block nn9
      have HNS := Lib.hid hns9
      have ONE9 : RowKit.Hid (∀ u ∈ ns9, u.oneCell' = true) := Lib.hid (by rw [hns9]; exact ndV_one (x := x) (row_ints OW9.out) (row_items OC9.out))
      have y2w := HS.out.b2
      have y2 : w9.cell? ⟨w.heap.size + 1 + 1, 0, none⟩ = some tv := cell_of_one ((B9.block _ (lt_of_block y2w)).trans y2w)
      have y2z : w.heap.size + 1 + 1 < w9.heap.size := lt_of_block ((B9.block _ (lt_of_block y2w)).trans y2w)
      have BA : Below w9.heap.size w9 (w9.alloc (.cells [ns9].flatten.toArray 64)) := below_al (Below.refl _ _) _
      have OWA := Lib.hid (row_later (row_later HS.out.own.row B9) BA)
      have SRA := Lib.hid (src_new w9 [ns9].flatten.toArray 64 1 34 (by simp [LEN9.out]))
      have HB9 := Lib.hid B9
      have HBA := Lib.hid BA
      have htl : (T.take k).length = k := by rw [List.length_take]; omega
      rw [htl] at OWA
      have HTL := Lib.hid htl
      clear hw9 nn9 NN8 OW8 OC8 B8 n28 f28 z8 hns9 B9 BA y2w htl
      have hkm : k + 1 ≤ maxLen := by unfold maxLen; omega
      have hw9 : w.heap.size ≤ w9.heap.size := by have := HS.out.be.size; have := HB9.out.size; omega
      go_wp2_with (first | ((with_reducible refine wpList_load_node ?l1 (.tmp 5) ?l2 nb 0 ?l3 ns9 LEN9.out RNG9.out ?_); (case l1 => rfl); (case l2 => rfl); (case l3 => rfl)) | ((with_reducible refine wpList_buildSlice_all _ ?b11 22 64 1 #[(0, .tmp 30)] ?b12 i0 _ 34 Try.underlying22 HI.out.1 HI.out.2.1 HI.out.2.2.1 ?b16 [ns9] ?b17 ?b13 ?b14 ?b15 ?_); (case b11 => rfl); (case b12 => rfl); (case b16 => decide); (case b17 => rfl); (case b13 => rfl); (case b14 => (intro a ha; rw [List.mem_singleton] at ha; rw [ha]; exact LEN9.out)); (case b15 => (show 1 * 34 ≤ 16777216; decide))) | (at_builtin; go_must (refine wpList_append_src _ rfl (.tmp 29) (.tmp 31) 22 rfl w.heap.size 64 i0 _ 34 288 Try.underlying22 HI.out.1 HI.out.2.1 HI.out.2.2.1 HI.out.2.2.2 rfl (by decide) _ k _ rfl OWA.out (some ⟨w9.heap.size, 0, none⟩) 1 1 _ rfl SRA.out ?o1 hkm ?o2 ?o3 ?_)))
      case o1 => first | (intro u hu; simp at hu; exact ONE9.out u hu) | (simpa using ONE9.out)
      case o2 => omega
      case o3 => first | omega | (simp; omega)
      intro v10 w10 own10 gr10 pl10
      have gr10' : (w9.alloc (.cells [ns9].flatten.toArray 64)).grownBy w10 tv.ownBlock := by simpa using gr10
      have hz0 := HS.out.be.size
      obtain ⟨b2, HS'⟩ := TwS.push HS.out hlt HB9.out HBA.out (by rw [HXE.out]; exact row_base OW9.out (by omega)) (by rw [HXE.out]; exact row_base OC9.out (by omega)) own10 (by rfl) (by rw [HXE.out, ← HNS.out] <;> simp) gr10'
      rcases row_form own10 with ⟨_, h0, _⟩ | ⟨g10, c10, rfl, _, _, _, _⟩
      · omega
      have y2 := cell_of_one b2
      have y2f := free_of_one b2
      have y2z := lt_of_block b2
      have HS2 := Lib.hid HS'
      clear HS HS' own10 gr10 gr10' pl10 hw9 OW9 OC9 OWA SRA b2
      go_wp2
      go_roundw
      case rel => exact ⟨k + 1, _, _, _, by omega, by go_num, HS2⟩
      case measure => simp [intOf]; omega
    · obtain rfl : k = T.length := by omega
      clear hlt hk
      obtain ⟨be, b0, b1, b2, own⟩ := HS.out
      rw [List.take_length] at own
      obtain ⟨pv, cv, rfl⟩ : ∃ q c, tv = .slice q T.length c := by
        rcases row_form own.row with ⟨h1, h2, _⟩ | ⟨g, c, h1, _⟩
        · exact ⟨none, 0, by rw [h2]; exact h1⟩
        · exact ⟨_, _, h1⟩
      have y1 := cell_of_one b1
      have y1f := free_of_one b1
      have y1z := lt_of_block b1
      have y2 := cell_of_one b2
      have y2z := lt_of_block b2
      have OWF := Lib.hid (fun u => own.set b1 (by decide) (by decide) (by decide) 0 u)
      have HBF := Lib.hid (fun u => Below.setCell (p := ⟨w.heap.size + 1, 0, none⟩) be (by simp) u)
      clear be b0 b1 b2 own HS
      go_wp2
      exact bodyPost_ret (v := .agg #[.slice pv T.length cv]) (by simp [results, Try.results37, go_sem, y1, y1z]) rfl ⟨_, _, _, rfl, OWF.out _, HBF.out _⟩
end Go.Proofs.Ytcihihncgpddfaa
namespace Go.Proofs.Ytcihihncgpddfaa
open Go.RowKit Go.Deep
set_option linter.unusedVariables false
set_option linter.unusedSimpArgs false

/-- a list's first n -/
def cutV : Value → Nat → Value
  | .slice p _ c, n => .slice p n c
  | v, _ => v
def mkK : List Int := [-71, -72, -73]
def mkC : List It := [⟨0, -71, 0, 0, 0⟩, ⟨0, -72, 0, 0, 0⟩]
def n71 : Nd := { zNd with kind := 71 }
def n72 : Nd := { zNd with kind := 72 }
def n71V : List Value := ndV n71 (.slice none 0 0) (.slice none 0 0)
def n72V : List Value := ndV n72 (.slice none 0 0) (.slice none 0 0)
theorem row_kind {w : World} {base : Nat} {t : TypeId} {k : Nat} {v : Value} {n : Nat} {xs : List Value} (h : w.ownsRow base t k v n xs) : ∀ q, v.ownBlock = some q → ∃ cur fr, w.heap[q]? = some (.cells cur t fr) := by
  rcases h.2 with ⟨rfl, _⟩ | ⟨g, cap, cur, rfl, _, hh, _⟩
  · intro q e; cases e
  · intro q e
    simp only [Value.ownBlock] at e
    injection e with e
    subst e
    exact ⟨_, _, hh⟩
theorem keep_row {w w' : World} {row : Option Nat} {t' : TypeId} (gr : w.grownBy w' row) (ht : ∀ q, row = some q → ∃ cur fr, w.heap[q]? = some (.cells cur t' fr)) {b : Nat} {t : TypeId} {k : Nat} {v : Value} {n : Nat} {xs : List Value} (h : w.ownsRow b t k v n xs) (hne : t ≠ t') : w'.ownsRow b t k v n xs := by
  refine h.kept gr ?_
  cases hr : row with
  | none => exact (Option.eq_none_or_eq_some v.ownBlock).elim .inl (fun ⟨a, e⟩ => .inr (by rw [e]; simp))
  | some q =>
    obtain ⟨cur, fr, hq⟩ := ht q hr
    exact .inr (row_blk_ne h hq hne)
theorem keep_blk {w w' : World} {row : Option Nat} {t' : TypeId} (gr : w.grownBy w' row) (ht : ∀ q, row = some q → ∃ cur fr, w.heap[q]? = some (.cells cur t' fr)) {b : Nat} {t : TypeId} {cur : Array Value} {fr : Nat × Nat} (h : w.heap[b]? = some (.cells cur t fr)) (hne : t ≠ t') : w'.heap[b]? = some (.cells cur t fr) := by
  refine (gr.block b (lt_of_block h) (fun e => ?_)).trans h
  obtain ⟨cur', fr', hq⟩ := ht b e.symm
  rw [h] at hq
  injection hq with hq
  injection hq with _ e2
  exact hne e2
theorem ndsV_set3 {T : List Nd} {kc cc : Nat → Value} {j : Nat} (hj : j < T.length) (u : Value) : (ndsV T kc cc).set (j * 34 + 3) u = ndsV T (upd kc j u) cc := by
  apply List.ext_getElem?
  intro i
  by_cases hi : i < T.length * 34
  · have e : i = i / 34 * 34 + i % 34 := by omega
    rw [e, ndsV_get T (upd kc j u) cc (by omega) (by omega)]
    by_cases h1 : i / 34 = j
    · rw [h1, upd_same, show ndV (T.getD j zNd) u (cc j) = (ndV (T.getD j zNd) (kc j) (cc j)).set 3 u by rfl]
      by_cases h2 : i % 34 = 3
      · rw [h2, List.getElem?_set_self (by rw [ndsV_len]; omega), List.getElem?_set_self (by rw [ndV_len]; decide)]
      · rw [List.getElem?_set_ne (by omega), List.getElem?_set_ne (by omega), ndsV_get T kc cc (by omega) (by omega)]
    · rw [upd_other h1, List.getElem?_set_ne (by omega), ndsV_get T kc cc (by omega) (by omega)]
  · rw [List.getElem?_eq_none (by simp [ndsV_len]; omega), List.getElem?_eq_none (by rw [ndsV_len]; omega)]
theorem ndsV_set28 {T : List Nd} {kc cc : Nat → Value} {j : Nat} (hj : j < T.length) (u : Value) : (ndsV T kc cc).set (j * 34 + 28) u = ndsV T kc (upd cc j u) := by
  apply List.ext_getElem?
  intro i
  by_cases hi : i < T.length * 34
  · have e : i = i / 34 * 34 + i % 34 := by omega
    rw [e, ndsV_get T kc (upd cc j u) (by omega) (by omega)]
    by_cases h1 : i / 34 = j
    · rw [h1, upd_same, show ndV (T.getD j zNd) (kc j) u = (ndV (T.getD j zNd) (kc j) (cc j)).set 28 u by rfl]
      by_cases h2 : i % 34 = 28
      · rw [h2, List.getElem?_set_self (by rw [ndsV_len]; omega), List.getElem?_set_self (by rw [ndV_len]; decide)]
      · rw [List.getElem?_set_ne (by omega), List.getElem?_set_ne (by omega), ndsV_get T kc cc (by omega) (by omega)]
    · rw [upd_other h1, List.getElem?_set_ne (by omega), ndsV_get T kc cc (by omega) (by omega)]
  · rw [List.getElem?_eq_none (by simp [ndsV_len]; omega), List.getElem?_eq_none (by rw [ndsV_len]; omega)]
/-- the state of lent: kc, cc: the nodes' lists as their cells tell them; kf, cf: the lists; FK, FC: what they hold; vk, vc: the lists of the lists -/
structure LtG (w W : World) (T : List Nd) (ub : Nat) (tv : Value) (kc cc kf cf : Nat → Value) (FK : Nat → List Int) (FC : Nat → List It) (vk vc : Value) (KL CL : List Value) : Prop where
  be : Below w.heap.size w W
  xr : W.heap[w.heap.size + 1]? = some (.cells #[.slice none 0 0, .slice none 0 0, .slice none 0 0, .slice none 0 0] 29 (0, 0))
  xb : W.heap[w.heap.size + 1 + 1]? = some (.cells #[.slice none 0 0, .slice none 0 0, vk, vc] 29 (0, 0))
  ub : W.heap[ub]? = some (.cells #[tv] 24 (0, 0))
  row : W.ownsRow w.heap.size 64 34 tv T.length (ndsV T kc cc)
  kr : ∀ i, i < T.length → W.ownsRow w.heap.size 3 1 (kf i) (FK i).length ((FK i).map (Value.int .i64))
  cr : ∀ i, i < T.length → W.ownsRow w.heap.size 57 5 (cf i) (FC i).length (cellsI (FC i))
  kd : ∀ i j, i < T.length → j < T.length → i ≠ j → ∀ b, (kf i).ownBlock = some b → (kf j).ownBlock ≠ some b
  cd : ∀ i j, i < T.length → j < T.length → i ≠ j → ∀ b, (cf i).ownBlock = some b → (cf j).ownBlock ≠ some b
  kl : W.ownsRow w.heap.size 45 1 vk KL.length KL
  cl : W.ownsRow w.heap.size 62 1 vc CL.length CL
section
variable {w W W1 W2 : World} {T : List Nd} {ub : Nat} {tv : Value} {kc cc kf cf : Nat → Value} {FK : Nat → List Int} {FC : Nat → List It} {vk vc : Value} {KL CL : List Value}
theorem LtG.later (h : LtG w W T ub tv kc cc kf cf FK FC vk vc KL CL) (hb : Below W.heap.size W W1) : LtG w W1 T ub tv kc cc kf cf FK FC vk vc KL CL :=
  ⟨below_via hb h.be, (hb.block _ (lt_of_block h.xr)).trans h.xr, (hb.block _ (lt_of_block h.xb)).trans h.xb, (hb.block _ (lt_of_block h.ub)).trans h.ub, row_later h.row hb, fun i hi => row_later (h.kr i hi) hb, fun i hi => row_later (h.cr i hi) hb, h.kd, h.cd, row_later h.kl hb, row_later h.cl hb⟩
/-- the kids of node j are gone on with -/
theorem LtG.kpush (h0 : LtG w W T ub tv kc cc kf cf FK FC vk vc KL CL) {j : Nat} (hj : j < T.length) (hb : Below W.heap.size W W1) (gr : W1.grownBy W2 (kf j).ownBlock) {v' : Value} {m : Nat} {xs : List Value} (own : W2.ownsRow w.heap.size 3 1 v' m xs) (M : List Int) (hm : m = (FK j ++ M).length) (hxs : xs = (FK j ++ M).map (Value.int .i64)) (pl : v'.ownBlock = (kf j).ownBlock ∨ v'.ownBlock = some W1.heap.size) : LtG w W2 T ub tv kc cc (upd kf j v') cf (upd FK j (FK j ++ M)) FC vk vc KL CL := by
  have h := h0.later hb
  have kd := row_kind (h.kr j hj)
  have sz := h.be.size
  subst hm hxs
  have lo : ∀ i, i < T.length → i ≠ j → ∀ b, v'.ownBlock = some b → (kf i).ownBlock ≠ some b := fun i hi hij b e e' => by
    rcases pl with p | p
    · exact h.kd i j hi hj hij b e' (p ▸ e)
    · rw [p] at e
      injection e with e
      have := (row_lt (h.kr i hi) b e').1
      omega
  refine ⟨Below.grown h.be gr sz (fun g hg => (row_lt (h.kr j hj) g hg).2), keep_blk gr kd h.xr (by decide), keep_blk gr kd h.xb (by decide), keep_blk gr kd h.ub (by decide), keep_row gr kd h.row (by decide), fun i hi => ?_, fun i hi => keep_row gr kd (h.cr i hi) (by decide), fun a b ha hb hab c e => ?_, h.cd, keep_row gr kd h.kl (by decide), keep_row gr kd h.cl (by decide)⟩
  · by_cases e : i = j
    · subst e; rw [upd_same, upd_same]; exact own
    · rw [upd_other e, upd_other e]
      exact (h.kr i hi).kept gr ((Option.eq_none_or_eq_some (kf i).ownBlock).elim .inl (fun ⟨a, ea⟩ => .inr (fun e' => h.kd i j hi hj e a ea (by rw [← e', ea]))))
  · by_cases e1 : a = j
    · subst e1
      rw [upd_same] at e
      rw [upd_other (Ne.symm hab)]
      exact lo b hb (Ne.symm hab) c e
    · rw [upd_other e1] at e
      by_cases e2 : b = j
      · subst e2
        rw [upd_same]
        exact fun e' => lo a ha hab c e' e
      · rw [upd_other e2]
        exact h.kd a b ha hb hab c e
theorem LtG.cpush (h0 : LtG w W T ub tv kc cc kf cf FK FC vk vc KL CL) {j : Nat} (hj : j < T.length) (hb : Below W.heap.size W W1) (gr : W1.grownBy W2 (cf j).ownBlock) {v' : Value} {m : Nat} {xs : List Value} (own : W2.ownsRow w.heap.size 57 5 v' m xs) (M : List It) (hm : m = (FC j ++ M).length) (hxs : xs = cellsI (FC j ++ M)) (pl : v'.ownBlock = (cf j).ownBlock ∨ v'.ownBlock = some W1.heap.size) : LtG w W2 T ub tv kc cc kf (upd cf j v') FK (upd FC j (FC j ++ M)) vk vc KL CL := by
  have h := h0.later hb
  have kd := row_kind (h.cr j hj)
  have sz := h.be.size
  subst hm hxs
  have lo : ∀ i, i < T.length → i ≠ j → ∀ b, v'.ownBlock = some b → (cf i).ownBlock ≠ some b := fun i hi hij b e e' => by
    rcases pl with p | p
    · exact h.cd i j hi hj hij b e' (p ▸ e)
    · rw [p] at e
      injection e with e
      have := (row_lt (h.cr i hi) b e').1
      omega
  refine ⟨Below.grown h.be gr sz (fun g hg => (row_lt (h.cr j hj) g hg).2), keep_blk gr kd h.xr (by decide), keep_blk gr kd h.xb (by decide), keep_blk gr kd h.ub (by decide), keep_row gr kd h.row (by decide), fun i hi => keep_row gr kd (h.kr i hi) (by decide), fun i hi => ?_, h.kd, fun a b ha hb hab c e => ?_, keep_row gr kd h.kl (by decide), keep_row gr kd h.cl (by decide)⟩
  · by_cases e : i = j
    · subst e; rw [upd_same, upd_same]; exact own
    · rw [upd_other e, upd_other e]
      exact (h.cr i hi).kept gr ((Option.eq_none_or_eq_some (cf i).ownBlock).elim .inl (fun ⟨a, ea⟩ => .inr (fun e' => h.cd i j hi hj e a ea (by rw [← e', ea]))))
  · by_cases e1 : a = j
    · subst e1
      rw [upd_same] at e
      rw [upd_other (Ne.symm hab)]
      exact lo b hb (Ne.symm hab) c e
    · rw [upd_other e1] at e
      by_cases e2 : b = j
      · subst e2
        rw [upd_same]
        exact fun e' => lo a ha hab c e' e
      · rw [upd_other e2]
        exact h.cd a b ha hb hab c e
/-- a node's field is set -/
theorem LtG.nset3 {g n c : Nat} (h : LtG w W T ub (.slice (some ⟨g, 0, none⟩) T.length c) kc cc kf cf FK FC vk vc KL CL) {j : Nat} (hj : j < T.length) (u : Value) : LtG w (W.setCell ⟨g, j * 34 + 3, none⟩ u) T ub (.slice (some ⟨g, 0, none⟩) T.length c) (upd kc j u) cc kf cf FK FC vk vc KL CL := by
  obtain ⟨own, gr⟩ := h.row.stored (j * 34 + 3) u
  rw [ndsV_set3 hj] at own
  have kd : ∀ q, some g = some q → ∃ cur fr, W.heap[q]? = some (.cells cur 64 fr) := fun q e => row_kind h.row q e
  exact ⟨h.be.setCell (p := ⟨g, j * 34 + 3, none⟩) (row_lt h.row g rfl).2 u, keep_blk gr kd h.xr (by decide), keep_blk gr kd h.xb (by decide), keep_blk gr kd h.ub (by decide), own, fun i hi => keep_row gr kd (h.kr i hi) (by decide), fun i hi => keep_row gr kd (h.cr i hi) (by decide), h.kd, h.cd, keep_row gr kd h.kl (by decide), keep_row gr kd h.cl (by decide)⟩
theorem LtG.nset28 {g n c : Nat} (h : LtG w W T ub (.slice (some ⟨g, 0, none⟩) T.length c) kc cc kf cf FK FC vk vc KL CL) {j : Nat} (hj : j < T.length) (u : Value) : LtG w (W.setCell ⟨g, j * 34 + 28, none⟩ u) T ub (.slice (some ⟨g, 0, none⟩) T.length c) kc (upd cc j u) kf cf FK FC vk vc KL CL := by
  obtain ⟨own, gr⟩ := h.row.stored (j * 34 + 28) u
  rw [ndsV_set28 hj] at own
  have kd : ∀ q, some g = some q → ∃ cur fr, W.heap[q]? = some (.cells cur 64 fr) := fun q e => row_kind h.row q e
  exact ⟨h.be.setCell (p := ⟨g, j * 34 + 28, none⟩) (row_lt h.row g rfl).2 u, keep_blk gr kd h.xr (by decide), keep_blk gr kd h.xb (by decide), keep_blk gr kd h.ub (by decide), own, fun i hi => keep_row gr kd (h.kr i hi) (by decide), fun i hi => keep_row gr kd (h.cr i hi) (by decide), h.kd, h.cd, keep_row gr kd h.kl (by decide), keep_row gr kd h.cl (by decide)⟩
/-- the list of the kids is gone on with, the field is set -/
theorem LtG.lpush (h0 : LtG w W T ub tv kc cc kf cf FK FC vk vc KL CL) (hb : Below W.heap.size W W1) (gr : W1.grownBy W2 vk.ownBlock) {v' u : Value} {m : Nat} {xs : List Value} (own : W2.ownsRow w.heap.size 45 1 v' m xs) (hm : m = (KL ++ [u]).length) (hxs : xs = KL ++ [u]) : W2.heap[w.heap.size + 1 + 1]? = some (.cells #[.slice none 0 0, .slice none 0 0, vk, vc] 29 (0, 0)) ∧ LtG w (W2.setCell ⟨w.heap.size + 1 + 1, 2, none⟩ v') T ub tv kc cc kf cf FK FC v' vc (KL ++ [u]) CL := by
  have h := h0.later hb
  have kd := row_kind h.kl
  have sz := h.be.size
  subst hm hxs
  have xb := keep_blk gr kd h.xb (by decide)
  have gs := setCell_grown W2 ⟨w.heap.size + 1 + 1, 2, none⟩ v'
  have ks : ∀ q, some (w.heap.size + 1 + 1) = some q → ∃ cur fr, W2.heap[q]? = some (.cells cur 29 fr) := fun q e => by injection e with e; exact ⟨_, _, e ▸ xb⟩
  have K : ∀ {b : Nat} {t : TypeId} {k : Nat} {v : Value} {n : Nat} {xs : List Value}, W1.ownsRow b t k v n xs → t ≠ 45 → t ≠ 29 → (W2.setCell ⟨w.heap.size + 1 + 1, 2, none⟩ v').ownsRow b t k v n xs := fun hr h1 h2 => keep_row gs ks (keep_row gr kd hr h1) h2
  refine ⟨xb, (Below.grown h.be gr sz (fun g hg => (row_lt h.kl g hg).2)).setCell (p := ⟨w.heap.size + 1 + 1, 2, none⟩) (by simp; omega) v', ?_, ?_, keep_blk gs ks (keep_blk gr kd h.ub (by decide)) (by decide), K h.row (by decide) (by decide), fun i hi => K (h.kr i hi) (by decide) (by decide), fun i hi => K (h.cr i hi) (by decide) (by decide), h.kd, h.cd, keep_row gs ks own (by decide), K h.cl (by decide) (by decide)⟩
  · exact (heap_setCell_other W2 ⟨w.heap.size + 1 + 1, 2, none⟩ _ v' (by simp)).trans (keep_blk gr kd h.xr (by decide))
  · exact blk_set (cs := [.slice none 0 0, .slice none 0 0, vk, vc]) v' xb
theorem LtG.clpush (h0 : LtG w W T ub tv kc cc kf cf FK FC vk vc KL CL) (hb : Below W.heap.size W W1) (gr : W1.grownBy W2 vc.ownBlock) {v' u : Value} {m : Nat} {xs : List Value} (own : W2.ownsRow w.heap.size 62 1 v' m xs) (hm : m = (CL ++ [u]).length) (hxs : xs = CL ++ [u]) : W2.heap[w.heap.size + 1 + 1]? = some (.cells #[.slice none 0 0, .slice none 0 0, vk, vc] 29 (0, 0)) ∧ LtG w (W2.setCell ⟨w.heap.size + 1 + 1, 3, none⟩ v') T ub tv kc cc kf cf FK FC vk v' KL (CL ++ [u]) := by
  have h := h0.later hb
  have kd := row_kind h.cl
  have sz := h.be.size
  subst hm hxs
  have xb := keep_blk gr kd h.xb (by decide)
  have gs := setCell_grown W2 ⟨w.heap.size + 1 + 1, 3, none⟩ v'
  have ks : ∀ q, some (w.heap.size + 1 + 1) = some q → ∃ cur fr, W2.heap[q]? = some (.cells cur 29 fr) := fun q e => by injection e with e; exact ⟨_, _, e ▸ xb⟩
  have K : ∀ {b : Nat} {t : TypeId} {k : Nat} {v : Value} {n : Nat} {xs : List Value}, W1.ownsRow b t k v n xs → t ≠ 62 → t ≠ 29 → (W2.setCell ⟨w.heap.size + 1 + 1, 3, none⟩ v').ownsRow b t k v n xs := fun hr h1 h2 => keep_row gs ks (keep_row gr kd hr h1) h2
  refine ⟨xb, (Below.grown h.be gr sz (fun g hg => (row_lt h.cl g hg).2)).setCell (p := ⟨w.heap.size + 1 + 1, 3, none⟩) (by simp; omega) v', ?_, ?_, keep_blk gs ks (keep_blk gr kd h.ub (by decide)) (by decide), K h.row (by decide) (by decide), fun i hi => K (h.kr i hi) (by decide) (by decide), fun i hi => K (h.cr i hi) (by decide) (by decide), h.kd, h.cd, K h.kl (by decide) (by decide), keep_row gs ks own (by decide)⟩
  · exact (heap_setCell_other W2 ⟨w.heap.size + 1 + 1, 3, none⟩ _ v' (by simp)).trans (keep_blk gr kd h.xr (by decide))
  · exact blk_set (cs := [.slice none 0 0, .slice none 0 0, vk, vc]) v' xb
end
def lnK (T : List Nd) (i : Nat) : Nat := (T.getD i zNd).kids.length
def lnC (T : List Nd) (i : Nat) : Nat := (T.getD i zNd).cols.length
def fulK (T : List Nd) (k i : Nat) : List Int := (T.getD i zNd).kids ++ (if i < k then mkK else [])
def fulC (T : List Nd) (k i : Nat) : List It := (T.getD i zNd).cols ++ (if i < k then mkC else [])
/-- at the loop's head: k nodes' lists have been gone on with -/
def LtS (w W : World) (T : List Nd) (ub : Nat) (tv : Value) (k : Nat) (kf cf : Nat → Value) (vk vc : Value) : Prop := LtG w W T ub tv (fun i => cutV (kf i) (lnK T i)) (fun i => cutV (cf i) (lnC T i)) kf cf (fulK T k) (fulC T k) vk vc ((List.range k).map kf) ((List.range k).map cf)
theorem fulK_self (T : List Nd) (k : Nat) : fulK T k k = (T.getD k zNd).kids := by unfold fulK; rw [if_neg (Nat.lt_irrefl _), List.append_nil]
theorem fulC_self (T : List Nd) (k : Nat) : fulC T k k = (T.getD k zNd).cols := by unfold fulC; rw [if_neg (Nat.lt_irrefl _), List.append_nil]
theorem map_upd (f : Nat → Value) (k : Nat) (v : Value) : (List.range k).map f ++ [v] = (List.range (k + 1)).map (upd f k v) := by
  rw [List.range_succ, List.map_append]
  congr 1
  · exact List.map_congr_left fun i hi => (upd_other (by have := List.mem_range.1 hi; omega)).symm
  · simp [upd_same]
theorem LtS.next {w W : World} {T : List Nd} {ub k : Nat} {tv v6 v7 vk vc : Value} {kf cf : Nat → Value} (h : LtG w W T ub tv (upd (fun i => cutV (kf i) (lnK T i)) k (cutV v6 (lnK T k))) (upd (fun i => cutV (cf i) (lnC T i)) k (cutV v7 (lnC T k))) (upd kf k v6) (upd cf k v7) (upd (fulK T k) k (fulK T k k ++ mkK)) (upd (fulC T k) k (fulC T k k ++ mkC)) vk vc ((List.range k).map kf ++ [v6]) ((List.range k).map cf ++ [v7])) : LtS w W T ub tv (k + 1) (upd kf k v6) (upd cf k v7) vk vc := by
  have e1 : upd (fun i => cutV (kf i) (lnK T i)) k (cutV v6 (lnK T k)) = fun i => cutV (upd kf k v6 i) (lnK T i) := funext fun i => by unfold upd; split <;> simp_all
  have e2 : upd (fun i => cutV (cf i) (lnC T i)) k (cutV v7 (lnC T k)) = fun i => cutV (upd cf k v7 i) (lnC T i) := funext fun i => by unfold upd; split <;> simp_all
  have e3 : upd (fulK T k) k (fulK T k k ++ mkK) = fulK T (k + 1) := funext fun i => by
    by_cases e : i = k
    · subst e; rw [upd_same, fulK_self]; unfold fulK; rw [if_pos (by omega)]
    · rw [upd_other e]; unfold fulK
      by_cases h1 : i < k
      · rw [if_pos h1, if_pos (by omega)]
      · rw [if_neg h1, if_neg (by omega)]
  have e4 : upd (fulC T k) k (fulC T k k ++ mkC) = fulC T (k + 1) := funext fun i => by
    by_cases e : i = k
    · subst e; rw [upd_same, fulC_self]; unfold fulC; rw [if_pos (by omega)]
    · rw [upd_other e]; unfold fulC
      by_cases h1 : i < k
      · rw [if_pos h1, if_pos (by omega)]
      · rw [if_neg h1, if_neg (by omega)]
  rw [e1, e2, e3, e4, map_upd, map_upd] at h
  exact h
theorem cutV_row {w : World} {base : Nat} {t : TypeId} {k n : Nat} {v : Value} {xs : List Value} (h : w.ownsRow base t k v n xs) : cutV v n = v := by
  rcases row_form h with ⟨rfl, rfl, _⟩ | ⟨g, c, rfl, _⟩ <;> rfl
/-- Twin's answer is where lent begins -/
theorem LtS.start {w W : World} {T : List Nd} {ub B : Nat} {tv : Value} {kvs cvs : Nat → Value} (own : OwnT B W tv T kvs cvs) (hB : w.heap.size ≤ B) (be : Below w.heap.size w W) (xr : W.heap[w.heap.size + 1]? = some (.cells #[.slice none 0 0, .slice none 0 0, .slice none 0 0, .slice none 0 0] 29 (0, 0))) (xb : W.heap[w.heap.size + 1 + 1]? = some (.cells #[.slice none 0 0, .slice none 0 0, .slice none 0 0, .slice none 0 0] 29 (0, 0))) (hu : W.heap[ub]? = some (.cells #[tv] 24 (0, 0))) : LtS w W T ub tv 0 kvs cvs (.slice none 0 0) (.slice none 0 0) := by
  have ek : ∀ i, fulK T 0 i = (T.getD i zNd).kids := fun i => by unfold fulK; rw [if_neg (Nat.not_lt_zero _), List.append_nil]
  have ec : ∀ i, fulC T 0 i = (T.getD i zNd).cols := fun i => by unfold fulC; rw [if_neg (Nat.not_lt_zero _), List.append_nil]
  refine ⟨be, xr, xb, hu, ?_, fun i hi => ?_, fun i hi => ?_, own.kd, own.cd, ⟨rfl, .inl ⟨rfl, rfl⟩⟩, ⟨rfl, .inl ⟨rfl, rfl⟩⟩⟩
  · have e : ndsV T (fun i => cutV (kvs i) (lnK T i)) (fun i => cutV (cvs i) (lnC T i)) = ndsV T kvs cvs := by
      unfold ndsV
      rw [List.flatMap_def, List.flatMap_def]
      congr 1
      refine List.map_congr_left fun i hi => ?_
      have hi : i < T.length := List.mem_range.1 hi
      have e1 : cutV (kvs i) (lnK T i) = kvs i := cutV_row (own.kr i hi)
      have e2 : cutV (cvs i) (lnC T i) = cvs i := cutV_row (own.cr i hi)
      show ndV (T.getD i zNd) (cutV (kvs i) (lnK T i)) (cutV (cvs i) (lnC T i)) = _
      rw [e1, e2]
    rw [e]; exact row_base own.row hB
  · rw [ek]; exact row_base (own.kr i hi) hB
  · rw [ec]; exact row_base (own.cr i hi) hB
/-- a lent tree -/
structure LentC (w : World) (B : Nat) (full vk vc : Value) (kf cf : Nat → Value) (T : List Nd) : Prop where
  row : w.ownsRow B 64 34 full (T.length + 2) (ndsV T (fun i => cutV (kf i) (lnK T i)) (fun i => cutV (cf i) (lnC T i)) ++ (n71V ++ n72V))
  kr : ∀ i, i < T.length → w.ownsRow B 3 1 (kf i) (lnK T i + 3) (((T.getD i zNd).kids ++ mkK).map (Value.int .i64))
  cr : ∀ i, i < T.length → w.ownsRow B 57 5 (cf i) (lnC T i + 2) (cellsI ((T.getD i zNd).cols ++ mkC))
  kl : w.ownsRow B 45 1 vk T.length ((List.range T.length).map kf)
  cl : w.ownsRow B 62 1 vc T.length ((List.range T.length).map cf)
def LentAt (w : World) (B : Nat) (tv full vk vc : Value) (T : List Nd) : Prop := tv = cutV full T.length ∧ ∃ kf cf, LentC w B full vk vc kf cf T
theorem LentC.later {w w' : World} {B : Nat} {full vk vc : Value} {kf cf : Nat → Value} {T : List Nd} (h : LentC w B full vk vc kf cf T) (hb : Below w.heap.size w w') : LentC w' B full vk vc kf cf T :=
  ⟨row_later h.row hb, fun i hi => row_later (h.kr i hi) hb, fun i hi => row_later (h.cr i hi) hb, row_later h.kl hb, row_later h.cl hb⟩
theorem LentAt.later {w w' : World} {B : Nat} {tv full vk vc : Value} {T : List Nd} (h : LentAt w B tv full vk vc T) (hb : Below w.heap.size w w') : LentAt w' B tv full vk vc T :=
  ⟨h.1, h.2.imp fun kf h => h.imp fun cf h => h.later hb⟩
theorem ints_cut {w : World} {base : Nat} {t : TypeId} {v : Value} {n : Nat} {L M : List Int} (h : w.ownsRow base t 1 v n ((L ++ M).map (Value.int .i64))) (hn : L.length < n) : IntsAt w (cutV v L.length) L := by
  rcases row_form h with ⟨_, h0, _⟩ | ⟨g, c, rfl, hn', hm, hz, _⟩
  · omega
  · refine ⟨_, c, rfl, by omega, by unfold maxLen at hm; omega, (fun h => by cases h), fun h0 => ⟨g, 0, rfl, hz, fun i hi => ?_⟩⟩
    refine row_cells h i _ ?_
    rw [List.getElem?_map, List.getElem?_append_left hi, List.getD_eq_getElem?_getD, List.getElem?_eq_getElem hi]
    rfl
theorem cellsI_app (L M : List It) : cellsI (L ++ M) = cellsI L ++ cellsI M := by simp [cellsI]
theorem its_cut {w : World} {base : Nat} {t : TypeId} {v : Value} {n : Nat} {L M : List It} (h : w.ownsRow base t 5 v n (cellsI (L ++ M))) (hn : L.length < n) : ItsAt w (cutV v L.length) L := by
  rcases row_form h with ⟨_, h0, _⟩ | ⟨g, c, rfl, hn', hm, hz, _⟩
  · omega
  · refine ⟨_, c, rfl, by omega, by unfold maxLen at hm; omega, (fun h => by cases h), fun h0 => ⟨g, 0, rfl, hz, fun i hi j hj => ?_⟩⟩
    have e := cellsI_get L i j hi hj
    have hl : j < (itV (L.getD i zIt)).length := by simpa [itV] using hj
    rw [List.getElem?_eq_getElem hl] at e ⊢
    refine row_cells h _ _ ?_
    rw [cellsI_app, List.getElem?_append_left (by rw [cellsI_len]; omega)]
    exact e
theorem LentAt.tree {w : World} {B : Nat} {tv full vk vc : Value} {T : List Nd} (h : LentAt w B tv full vk vc T) (ok : ∀ x ∈ T, NdOk x) : ∃ p c, tv = .slice p T.length c ∧ TreeAt w tv T := by
  obtain ⟨rfl, kf, cf, h⟩ := h
  rcases row_form h.row with ⟨_, h0, _⟩ | ⟨g, c, rfl, hn, hm, hz, _⟩
  · omega
  · unfold maxLen at hm
    refine ⟨_, c, rfl, ok, by omega, _, c, rfl, by omega, by omega, fun h0 => ⟨g, 0, rfl, hz, fun i hi => ?_⟩⟩
    refine ⟨cutV (kf i) (lnK T i), cutV (cf i) (lnC T i), ints_cut (h.kr i hi) (by unfold lnK; omega), its_cut (h.cr i hi) (by unfold lnC; omega), fun j hj => ?_⟩
    have e := ndsV_get T (fun i => cutV (kf i) (lnK T i)) (fun i => cutV (cf i) (lnC T i)) hi hj
    have hl : j < (ndV (T.getD i zNd) (cutV (kf i) (lnK T i)) (cutV (cf i) (lnC T i))).length := by rw [ndV_len]; exact hj
    rw [List.getElem?_eq_getElem hl] at e ⊢
    have := row_cells h.row (i * 34 + j) _ (by rw [List.getElem?_append_left (by rw [ndsV_len]; omega)]; exact e)
    rw [Nat.add_assoc]
    exact this
end Go.Proofs.Ytcihihncgpddfaa
namespace Go.Proofs.Ytcihihncgpddfaa
open Go.RowKit Go.Deep
set_option linter.unusedVariables false
set_option linter.unusedSimpArgs false

theorem infoLI_ : (Try.prog.info? 45).map (fun i => (i.zero, i.size, i.bytes)) = some (some (.slice none 0 0), 1, 24) := by kernel_rfl
theorem infoLIT_ : (Try.prog.info? 62).map (fun i => (i.zero, i.size, i.bytes)) = some (some (.slice none 0 0), 1, 24) := by kernel_rfl
/-- a store into a block of another type -/
theorem LentC.set {w : World} {B : Nat} {full vk vc : Value} {kf cf : Nat → Value} {T : List Nd} (h : LentC w B full vk vc kf cf T) {b : Nat} {cur : Array Value} {fr : Nat × Nat} (hb : w.heap[b]? = some (.cells cur 29 fr)) (i : Nat) (u : Value) : LentC (w.setCell ⟨b, i, none⟩ u) B full vk vc kf cf T := by
  have gs := setCell_grown w ⟨b, i, none⟩ u
  have ks : ∀ q, some b = some q → ∃ cur fr, w.heap[q]? = some (.cells cur 29 fr) := fun q e => by injection e with e; exact ⟨_, _, e ▸ hb⟩
  exact ⟨keep_row gs ks h.row (by decide), fun i hi => keep_row gs ks (h.kr i hi) (by decide), fun i hi => keep_row gs ks (h.cr i hi) (by decide), keep_row gs ks h.kl (by decide), keep_row gs ks h.cl (by decide)⟩
/-- the result's four cells are set -/
theorem lent_ret {w W : World} {full vk vc : Value} {kf cf : Nat → Value} {T : List Nd} (h : LentC W w.heap.size full vk vc kf cf T) (hb : Below w.heap.size w W) (hr : W.heap[w.heap.size + 1]? = some (.cells #[.slice none 0 0, .slice none 0 0, .slice none 0 0, .slice none 0 0] 29 (0, 0))) (a b c d : Value) :
    ((((W.setCell ⟨w.heap.size + 1, 0, none⟩ a).setCell ⟨w.heap.size + 1, 1, none⟩ b).setCell ⟨w.heap.size + 1, 2, none⟩ c).setCell ⟨w.heap.size + 1, 3, none⟩ d).heap[w.heap.size + 1]? = some (.cells #[a, b, c, d] 29 (0, 0)) ∧
    LentC ((((W.setCell ⟨w.heap.size + 1, 0, none⟩ a).setCell ⟨w.heap.size + 1, 1, none⟩ b).setCell ⟨w.heap.size + 1, 2, none⟩ c).setCell ⟨w.heap.size + 1, 3, none⟩ d) w.heap.size full vk vc kf cf T ∧
    Below w.heap.size w ((((W.setCell ⟨w.heap.size + 1, 0, none⟩ a).setCell ⟨w.heap.size + 1, 1, none⟩ b).setCell ⟨w.heap.size + 1, 2, none⟩ c).setCell ⟨w.heap.size + 1, 3, none⟩ d) := by
  have h0 := blk_set (cs := [.slice none 0 0, .slice none 0 0, .slice none 0 0, .slice none 0 0]) (i := 0) a hr
  have h1 := blk_set (cs := [a, .slice none 0 0, .slice none 0 0, .slice none 0 0]) (i := 1) b h0
  have h2 := blk_set (cs := [a, b, .slice none 0 0, .slice none 0 0]) (i := 2) c h1
  have h3 := blk_set (cs := [a, b, c, .slice none 0 0]) (i := 3) d h2
  exact ⟨h3, (((h.set hr 0 a).set h0 1 b).set h1 2 c).set h2 3 d, (((hb.setCell (p := ⟨w.heap.size + 1, 0, none⟩) (by simp) a).setCell (p := ⟨w.heap.size + 1, 1, none⟩) (by simp) b).setCell (p := ⟨w.heap.size + 1, 2, none⟩) (by simp) c).setCell (p := ⟨w.heap.size + 1, 3, none⟩) (by simp) d⟩
set_option maxRecDepth 100000 in
set_option maxHeartbeats 16000000 in
theorem lent_any (p : Option Addr) (c : Nat) (T : List Nd) (w : World) (hT : TreeAt w (.slice p T.length c) T) (hN : T.length ≤ 134217728) (hK : ∀ x ∈ T, x.kids.length ≤ 134217728 ∧ x.cols.length ≤ 134217728) : Calls Try.prog 14 #[.agg #[.slice p T.length c]] w fun e w' => ∃ tv full vk vc, e = .returned (.agg #[tv, full, vk, vc]) ∧ LentAt w' w.heap.size tv full vk vc T ∧ Below w.heap.size w w' := by
  obtain ⟨i0, hi, hz0, hz1, hz2⟩ := info_parts infoNode_
  obtain ⟨j0, hj, hy0, hy1, hy2⟩ := info_parts infoInt_
  obtain ⟨k0, hk0, hx0, hx1, hx2⟩ := info_parts infoItm_
  obtain ⟨l0, hl0, hu0, hu1, hu2⟩ := info_parts infoLI_
  obtain ⟨m0, hm0, hv0, hv1, hv2⟩ := info_parts infoLIT_
  have HI := Lib.hid (And.intro hi (And.intro hz0 (And.intro hz1 hz2)))
  have HJ := Lib.hid (And.intro hj (And.intro hy0 (And.intro hy1 hy2)))
  have HKK := Lib.hid (And.intro hk0 (And.intro hx0 (And.intro hx1 hx2)))
  have HLL := Lib.hid (And.intro hl0 (And.intro hu0 (And.intro hu1 hu2)))
  have HMM := Lib.hid (And.intro hm0 (And.intro hv0 (And.intro hv1 hv2)))
  obtain ⟨W1, hW1⟩ : ∃ x, x = ((w.alloc (.cells #[.slice p T.length c] 24)).alloc (.cells #[.slice none 0 0, .slice none 0 0, .slice none 0 0, .slice none 0 0] 29)).alloc (.cells #[.slice none 0 0, .slice none 0 0, .slice none 0 0, .slice none 0 0] 29) := ⟨_, rfl⟩
  have B1 : Below w.heap.size w W1 := by rw [hW1]; go_grown
  have x0 : W1.cell? ⟨w.heap.size, 0, none⟩ = some (.slice p T.length c) := by rw [hW1]; simp [go_sem]
  have x1 : W1.heap[w.heap.size + 1]? = some (.cells #[.slice none 0 0, .slice none 0 0, .slice none 0 0, .slice none 0 0] 29 (0, 0)) := by
    rw [hW1]
    refine (heap_alloc_old _ _ (by simp <;> omega)).trans ?_
    have := heap_alloc_new (w.alloc (.cells #[.slice p T.length c] 24)) (.cells #[.slice none 0 0, .slice none 0 0, .slice none 0 0, .slice none 0 0] 29)
    rwa [World.size_alloc] at this
  have x2 : W1.heap[w.heap.size + 1 + 1]? = some (.cells #[.slice none 0 0, .slice none 0 0, .slice none 0 0, .slice none 0 0] 29 (0, 0)) := by
    rw [hW1]
    have := heap_alloc_new ((w.alloc (.cells #[.slice p T.length c] 24)).alloc (.cells #[.slice none 0 0, .slice none 0 0, .slice none 0 0, .slice none 0 0] 29)) (.cells #[.slice none 0 0, .slice none 0 0, .slice none 0 0, .slice none 0 0] 29)
    rwa [World.size_alloc, World.size_alloc] at this
  have z0 : w.heap.size < W1.heap.size := by rw [hW1]; simp; omega
  have HT := Lib.hid (hT.later B1)
  have HK := Lib.hid hK
  have HB1 := Lib.hid B1
  have HX1 := Lib.hid x1
  have HX2 := Lib.hid x2
  have TW := Lib.hid (ref_Twin_any p c T W1 HT.out (by omega) (fun x hx => by have := hK x hx; omega))
  clear hi hz0 hz1 hz2 hj hy0 hy1 hy2 hk0 hx0 hx1 hx2 hl0 hu0 hu1 hu2 hm0 hv0 hv1 hv2 hT hK B1 x1 x2
  go_enter Try.func14, Try.ntmps14
  go_upto_region 2 with (fail)
  rw [← hW1]
  clear hW1
  go_wp2_with fail
  refine TW.out.mono ?_
  clear TW x0 z0
  rintro e w2 ⟨tv, kvs, cvs, rfl, own, hb2⟩
  obtain ⟨pv, cv, rfl⟩ : ∃ q c, tv = .slice q T.length c := by
    rcases row_form own.row with ⟨h1, h2, _⟩ | ⟨g, c, h1, _⟩
    · exact ⟨none, 0, by rw [h2]; exact h1⟩
    · exact ⟨_, _, h1⟩
  obtain ⟨ub, hub⟩ : ∃ x, x = w2.heap.size := ⟨_, rfl⟩
  obtain ⟨w3, hw3⟩ : ∃ x, x = w2.alloc (.cells #[.slice pv T.length cv] 24) := ⟨_, rfl⟩
  have B23 : Below w2.heap.size w2 w3 := by rw [hw3]; exact below_al (Below.refl _ _) _
  have B13 : Below W1.heap.size W1 w3 := below_via B23 hb2
  have S0 := Lib.hid (LtS.start (own.later B23) HB1.out.size (below_via B13 HB1.out) ((B13.block _ (lt_of_block HX1.out)).trans HX1.out) ((B13.block _ (lt_of_block HX2.out)).trans HX2.out) (ub := ub) (by rw [hw3, hub]; exact heap_alloc_new _ _))
  have y0 : w3.cell? ⟨ub, 0, none⟩ = some (.slice pv T.length cv) := cell_of_one S0.out.ub
  have y0z : ub < w3.heap.size := lt_of_block S0.out.ub
  clear own hb2 B23 B13 HX1 HX2 HT
  go_upto_region 3 with (fail)
  rw [← hw3]
  simp only [← hub]
  clear hw3 hub
  go_wp2
  go_loopw [5] (fun i wr => ∃ k : Nat, ∃ kf cf : Nat → Value, ∃ vk vc : Value, k ≤ T.length ∧ i = .int .i64 k ∧ RowKit.Hid (LtS w wr T ub (.slice pv T.length cv) k kf cf vk vc)) (fun i _ => T.length - (intOf i).toNat)
  case atStart => exact ⟨0, _, _, _, _, Nat.zero_le _, rfl, S0⟩
  case round =>
    clear S0 y0 y0z
    obtain ⟨k, kf, cf, vk, vc, hk, rfl, HS⟩ := hrel
    have y0 : wr.cell? ⟨ub, 0, none⟩ = some (.slice pv T.length cv) := cell_of_one HS.out.ub
    have y0z : ub < wr.heap.size := lt_of_block HS.out.ub
    by_cases hlt : k < T.length
    · have hki : (k : Int) < (T.length : Int) := by omega
      have S : LtG w wr T ub (.slice pv T.length cv) (fun i => cutV (kf i) (lnK T i)) (fun i => cutV (cf i) (lnC T i)) kf cf (fulK T k) (fulC T k) vk vc ((List.range k).map kf) ((List.range k).map cf) := HS.out
      have hmem : T.getD k zNd ∈ T := by rw [List.getD_eq_getElem?_getD, List.getElem?_eq_getElem hlt]; exact List.getElem_mem hlt
      have hks := HK.out _ hmem
      obtain ⟨L, hL⟩ : ∃ L, L = fulK T k k := ⟨_, rfl⟩
      obtain ⟨M, hM⟩ : ∃ M, M = fulC T k k := ⟨_, rfl⟩
      have hLn : lnK T k = L.length := by rw [hL, fulK_self]; rfl
      have hMn : lnC T k = M.length := by rw [hM, fulC_self]; rfl
      have hkl : L.length ≤ 134217728 := by have := hks.1; unfold lnK at hLn; omega
      have hcl : M.length ≤ 134217728 := by have := hks.2; unfold lnC at hMn; omega
      obtain ⟨g, hg⟩ : ∃ g, pv = some ⟨g, 0, none⟩ := by
        rcases row_form S.row with ⟨_, h0, _⟩ | ⟨g, c', e, _⟩
        · omega
        · injection e with e1; exact ⟨g, e1⟩
      subst hg
      have rk := S.kr k hlt
      have rc := S.cr k hlt
      rw [← hL] at rk
      rw [← hM] at rc
      obtain ⟨pk, ck, hkf⟩ : ∃ q c, kf k = .slice q L.length c := by
        rcases row_form rk with ⟨h1, h2, _⟩ | ⟨g, c, h1, _⟩
        · exact ⟨none, 0, by rw [h2]; exact h1⟩
        · exact ⟨_, _, h1⟩
      obtain ⟨pc, cc, hcf⟩ : ∃ q c, cf k = .slice q M.length c := by
        rcases row_form rc with ⟨h1, h2, _⟩ | ⟨g, c, h1, _⟩
        · exact ⟨none, 0, by rw [h2]; exact h1⟩
        · exact ⟨_, _, h1⟩
      have a3 : wr.cell? ⟨g, k * 34 + 3, none⟩ = some (.slice pk L.length ck) := by
        have := row_cells S.row (k * 34 + 3) (.slice pk L.length ck) (by rw [ndsV_get T _ _ hlt (by decide)]; show some (cutV (kf k) (lnK T k)) = _; rw [hkf, hLn]; rfl)
        rwa [Nat.zero_add] at this
      have zg : g < wr.heap.size := (row_lt S.row g rfl).1
      rw [hkf] at rk
      have HL := Lib.hid hL
      have HM := Lib.hid hM
      have HLN := Lib.hid hLn
      have HMN := Lib.hid hMn
      have HKF := Lib.hid hkf
      have HCF := Lib.hid hcf
      have OW := Lib.hid (row_later rk (below_al (Below.refl _ _) (.cells #[.int .i64 (-71), .int .i64 (-72), .int .i64 (-73)] 3)))
      have SR := Lib.hid (src_new wr #[.int .i64 (-71), .int .i64 (-72), .int .i64 (-73)] 3 3 1 rfl)
      have hz : w.heap.size ≤ wr.heap.size := S.be.size
      have SS := Lib.hid S
      clear S rk rc hL hM hLn hMn hkf hcf hmem hks HS
      go_wp2_with (at_builtin; refine wpList_append_src _ rfl (.tmp 22) (.tmp 23) 45 rfl w.heap.size 3 j0 (.int .i64 0) 1 8 Try.underlying45 HJ.out.1 HJ.out.2.1 HJ.out.2.2.1 HJ.out.2.2.2 rfl (by decide) _ L.length _ rfl OW.out (some ⟨wr.heap.size, 0, none⟩) 3 3 _ rfl SR.out ?h1 ?h2 ?h3 ?h4 ?_)
      case h1 => first | exact ⟨rfl, rfl, rfl⟩ | (intro u hu; simp at hu; rcases hu with rfl | rfl | rfl <;> rfl)
      case h2 => unfold maxLen; omega
      case h3 => omega
      case h4 => first | omega | (simp; omega)
      intro v6 w6 own6 gr6 pl6
      have S6 := LtG.kpush SS.out hlt (below_al (Below.refl _ _) (.cells #[.int .i64 (-71), .int .i64 (-72), .int .i64 (-73)] 3)) (W2 := w6) (v' := v6) (m := L.length + 3) (xs := L.map (Value.int .i64) ++ [.int .i64 (-71), .int .i64 (-72), .int .i64 (-73)]) (by rw [HKF.out]; exact gr6) (by simpa using own6) mkK (by rw [← HL.out]; simp [mkK]) (by rw [← HL.out]; simp [mkK]) (by rw [HKF.out, World.size_alloc]; exact pl6)
      obtain ⟨g6, c6, rfl, h61, h62⟩ : ∃ g6 c6, v6 = .slice (some ⟨g6, 0, none⟩) (L.length + 3) c6 ∧ L.length + 3 ≤ c6 ∧ c6 ≤ maxLen := by
        rcases row_form own6 with ⟨_, h0, _⟩ | ⟨g, c, h1, h2, h3, _⟩
        · omega
        · exact ⟨g, c, h1, h2, h3⟩
      have y0 : w6.cell? ⟨ub, 0, none⟩ = some (.slice (some ⟨g, 0, none⟩) T.length cv) := cell_of_one S6.ub
      have y0z : ub < w6.heap.size := lt_of_block S6.ub
      have zg : g < w6.heap.size := (row_lt S6.row g rfl).1
      have a28 : w6.cell? ⟨g, k * 34 + 28, none⟩ = some (.slice pc M.length cc) := by
        have := row_cells S6.row (k * 34 + 28) (.slice pc M.length cc) (by rw [ndsV_get T _ _ hlt (by decide)]; show some (cutV (cf k) (lnC T k)) = _; rw [HCF.out, HMN.out]; rfl)
        rwa [Nat.zero_add] at this
      have rc := S6.cr k hlt
      rw [← HM.out, HCF.out] at rc
      have NEW := Lib.hid (show ([itV ⟨0, -71, 0, 0, 0⟩, itV ⟨0, -72, 0, 0, 0⟩] : List (List Value)).flatten = cellsI mkC by rfl)
      have OW := Lib.hid (row_later rc (below_al (Below.refl _ _) (.cells [itV ⟨0, -71, 0, 0, 0⟩, itV ⟨0, -72, 0, 0, 0⟩].flatten.toArray 57)))
      have SR := Lib.hid (src_new w6 [itV ⟨0, -71, 0, 0, 0⟩, itV ⟨0, -72, 0, 0, 0⟩].flatten.toArray 57 2 5 rfl)
      have hz : w.heap.size ≤ w6.heap.size := S6.be.size
      have SS6 := Lib.hid S6
      clear S6 rc a3 own6 gr6 pl6 SS
      go_wp2_with (first | ((with_reducible refine wpList_buildSlice_all _ ?b1 62 57 2 #[(0, .tmp 31), (1, .tmp 32)] ?b2 k0 _ 5 Try.underlying62 HKK.out.1 HKK.out.2.1 HKK.out.2.2.1 ?b6 [itV ⟨0, -71, 0, 0, 0⟩, itV ⟨0, -72, 0, 0, 0⟩] ?b7 ?b3 ?b4 ?b5 ?_); (case b1 => rfl); (case b2 => rfl); (case b6 => decide); (case b7 => rfl); (case b3 => rfl); (case b4 => (intro a ha; simp at ha; rcases ha with rfl | rfl <;> rfl)); (case b5 => (show 2 * 5 ≤ 16777216; decide))) | (at_builtin; refine wpList_append_src _ rfl (.tmp 30) (.tmp 33) 62 rfl w.heap.size 57 k0 _ 5 40 Try.underlying62 HKK.out.1 HKK.out.2.1 HKK.out.2.2.1 HKK.out.2.2.2 rfl (by decide) _ M.length _ rfl OW.out (some ⟨w6.heap.size, 0, none⟩) 2 2 _ rfl SR.out ?i1 ?i2 ?i3 ?i4 ?_))
      case i1 => first | decide | (intro u hu; exact items_one mkC u (by simpa [cellsI, mkC] using hu))
      case i2 => unfold maxLen; omega
      case i3 => omega
      case i4 => first | omega | (simp; omega)
      intro v7 w7 own7 gr7 pl7
      have S7 := LtG.cpush SS6.out hlt (below_al (Below.refl _ _) (.cells [itV ⟨0, -71, 0, 0, 0⟩, itV ⟨0, -72, 0, 0, 0⟩].flatten.toArray 57)) (W2 := w7) (v' := v7) (m := M.length + 2) (xs := cellsI M ++ cellsI mkC) (by rw [HCF.out]; exact gr7) (by rw [← NEW.out]; exact own7) mkC (by rw [← HM.out]; simp [mkC]) (by rw [← HM.out, cellsI_app]) (by rw [HCF.out, World.size_alloc]; exact pl7)
      obtain ⟨g7, c7, rfl, h71, h72⟩ : ∃ g7 c7, v7 = .slice (some ⟨g7, 0, none⟩) (M.length + 2) c7 ∧ M.length + 2 ≤ c7 ∧ c7 ≤ maxLen := by
        rcases row_form own7 with ⟨_, h0, _⟩ | ⟨g, c, h1, h2, h3, _⟩
        · omega
        · exact ⟨g, c, h1, h2, h3⟩
      have h72' : c7 ≤ 9223372036854775807 := h72
      have h62' : c6 ≤ 9223372036854775807 := h62
      have y0 : w7.cell? ⟨ub, 0, none⟩ = some (.slice (some ⟨g, 0, none⟩) T.length cv) := cell_of_one S7.ub
      have y0z : ub < w7.heap.size := lt_of_block S7.ub
      have zg : g < w7.heap.size := (row_lt S7.row g rfl).1
      have hlk6 : (L.length : Int) ≤ (c6 : Int) := by omega
      have hlk7 : (M.length : Int) ≤ (c7 : Int) := by omega
      have SS7 := Lib.hid S7
      clear S7 a28 own7 gr7 pl7 SS6 OW SR NEW h61 h62 h71 h72 hz
      have hw6 : IntKind.i64.wrap (L.length : Int) = (L.length : Int) := IntWalk.i64_in _ (by omega)
      have hw7 : IntKind.i64.wrap (M.length : Int) = (M.length : Int) := IntWalk.i64_in _ (by omega)
      have hn6 : 0 ≤ (L.length : Int) := by omega
      have hn7 : 0 ≤ (M.length : Int) := by omega
      go_upto_region 8 with (fail)
      go_still_tail 10, (by kernel_rfl)
      change wpList _ _ _ _ _ w7.drew
      generalize hq : w7.drew = w8
      have S8 := SS7.out.later (show Below w7.heap.size w7 w8 by rw [← hq]; exact Below.drew (Below.refl _ _))
      have a3 : w8.cell? ⟨g, k * 34 + 3, none⟩ = some (.slice pk L.length ck) := by
        have := row_cells S8.row (k * 34 + 3) (.slice pk L.length ck) (by rw [ndsV_get T _ _ hlt (by decide)]; show some (cutV (kf k) (lnK T k)) = _; rw [HKF.out, HLN.out]; rfl)
        rwa [Nat.zero_add] at this
      have f3 : w8.frozen? ⟨g, k * 34 + 3, none⟩ = false := S8.row.frozenAt _
      have zg : g < w8.heap.size := (row_lt S8.row g rfl).1
      have SS8 := Lib.hid S8
      clear hq S8 SS7 y0 y0z
      go_upto_region 9 with (fail)
      generalize hw9 : World.setCell _ _ _ = w9
      have S9 := LtG.nset3 (n := 0) SS8.out hlt (.slice (some ⟨g6, 0, none⟩) L.length c6)
      rw [hw9] at S9
      have y0 : w9.cell? ⟨ub, 0, none⟩ = some (.slice (some ⟨g, 0, none⟩) T.length cv) := cell_of_one S9.ub
      have y0z : ub < w9.heap.size := lt_of_block S9.ub
      have zg : g < w9.heap.size := (row_lt S9.row g rfl).1
      have SS9 := Lib.hid S9
      clear hw9 S9 SS8 a3 f3
      go_still_tail 10, (by kernel_rfl)
      change wpList _ _ _ _ _ w9.drew
      generalize hq : w9.drew = w10
      have S10 := SS9.out.later (show Below w9.heap.size w9 w10 by rw [← hq]; exact Below.drew (Below.refl _ _))
      have a28 : w10.cell? ⟨g, k * 34 + 28, none⟩ = some (.slice pc M.length cc) := by
        have := row_cells S10.row (k * 34 + 28) (.slice pc M.length cc) (by rw [ndsV_get T _ _ hlt (by decide)]; show some (cutV (cf k) (lnC T k)) = _; rw [HCF.out, HMN.out]; rfl)
        rwa [Nat.zero_add] at this
      have f28 : w10.frozen? ⟨g, k * 34 + 28, none⟩ = false := S10.row.frozenAt _
      have zg : g < w10.heap.size := (row_lt S10.row g rfl).1
      have SS10 := Lib.hid S10
      clear hq S10 SS9 y0 y0z
      go_upto_region 10 with (fail)
      generalize hw11 : World.setCell _ _ _ = w11
      have S11 := LtG.nset28 (n := 0) SS10.out hlt (.slice (some ⟨g7, 0, none⟩) M.length c7)
      rw [hw11] at S11
      have q2 : w11.cell? ⟨w.heap.size + 1 + 1, 2, none⟩ = some vk := blk_cell (cs := [.slice none 0 0, .slice none 0 0, vk, vc]) S11.xb rfl
      have qz : w.heap.size + 1 + 1 < w11.heap.size := lt_of_block S11.xb
      have OW := Lib.hid (row_later S11.kl (below_al (Below.refl _ _) (.cells #[.slice (some ⟨g6, 0, none⟩) (L.length + 3) c6] 45)))
      have SR := Lib.hid (src_new w11 #[.slice (some ⟨g6, 0, none⟩) (L.length + 3) c6] 45 1 1 rfl)
      have hz : w.heap.size ≤ w11.heap.size := S11.be.size
      have hkl2 : ((List.range k).map kf).length = k := by simp
      rw [hkl2] at OW
      have HKL := Lib.hid hkl2
      have SS11 := Lib.hid S11
      clear hw11 S11 SS10 a28 f28 zg hkl2
      have hkm : k + 1 ≤ maxLen := by unfold maxLen; omega
      go_wp2_with (at_builtin; refine wpList_append_src _ rfl (.tmp 56) (.tmp 58) 26 rfl w.heap.size 45 l0 _ 1 24 Try.underlying26 HLL.out.1 HLL.out.2.1 HLL.out.2.2.1 HLL.out.2.2.2 rfl (by decide) _ k _ rfl OW.out (some ⟨w11.heap.size, 0, none⟩) 1 1 _ rfl SR.out ?j1 hkm ?j3 ?j4 ?_)
      case j1 => first | rfl | (intro u hu; simp at hu; subst hu; rfl)
      case j3 => omega
      case j4 => first | omega | (simp; omega)
      intro v12 w12 own12 gr12 pl12
      obtain ⟨b12, S12⟩ := LtG.lpush SS11.out (below_al (Below.refl _ _) (.cells #[.slice (some ⟨g6, 0, none⟩) (L.length + 3) c6] 45)) gr12 (u := .slice (some ⟨g6, 0, none⟩) (L.length + 3) c6) own12 (by rw [List.length_append, HKL.out]; rfl) rfl
      obtain ⟨g12, c12, rfl⟩ : ∃ g12 c12, v12 = .slice (some ⟨g12, 0, none⟩) (k + 1) c12 := by
        rcases row_form own12 with ⟨_, h0, _⟩ | ⟨g, c, h1, _⟩
        · omega
        · exact ⟨g, c, h1⟩
      have q2 : w12.cell? ⟨w.heap.size + 1 + 1, 2, none⟩ = some vk := blk_cell (cs := [.slice none 0 0, .slice none 0 0, vk, vc]) b12 rfl
      have q2f : w12.frozen? ⟨w.heap.size + 1 + 1, 2, none⟩ = false := frozen_of_row _ _ _ _ _ b12
      have qz : w.heap.size + 1 + 1 < w12.heap.size := lt_of_block b12
      have SS12 := Lib.hid S12
      clear own12 gr12 pl12 b12 S12 SS11 OW SR hz
      go_upto_region 11 with (fail)
      generalize hw13 : World.setCell _ _ _ = w13
      rw [hw13] at SS12
      have q3 : w13.cell? ⟨w.heap.size + 1 + 1, 3, none⟩ = some vc := blk_cell (cs := [.slice none 0 0, .slice none 0 0, .slice (some ⟨g12, 0, none⟩) (k + 1) c12, vc]) SS12.out.xb rfl
      have qz : w.heap.size + 1 + 1 < w13.heap.size := lt_of_block SS12.out.xb
      have OW := Lib.hid (row_later SS12.out.cl (below_al (Below.refl _ _) (.cells #[.slice (some ⟨g7, 0, none⟩) (M.length + 2) c7] 62)))
      have SR := Lib.hid (src_new w13 #[.slice (some ⟨g7, 0, none⟩) (M.length + 2) c7] 62 1 1 rfl)
      have hz : w.heap.size ≤ w13.heap.size := SS12.out.be.size
      have hkl2 : ((List.range k).map cf).length = k := by simp
      rw [hkl2] at OW
      have HCL := Lib.hid hkl2
      clear hw13 q2 q2f hkl2
      go_wp2_with (at_builtin; refine wpList_append_src _ rfl (.tmp 62) (.tmp 64) 27 rfl w.heap.size 62 m0 _ 1 24 Try.underlying27 HMM.out.1 HMM.out.2.1 HMM.out.2.2.1 HMM.out.2.2.2 rfl (by decide) _ k _ rfl OW.out (some ⟨w13.heap.size, 0, none⟩) 1 1 _ rfl SR.out ?k1 hkm ?k3 ?k4 ?_)
      case k1 => first | rfl | (intro u hu; simp at hu; subst hu; rfl)
      case k3 => omega
      case k4 => first | omega | (simp; omega)
      intro v14 w14 own14 gr14 pl14
      obtain ⟨b14, S14⟩ := LtG.clpush SS12.out (below_al (Below.refl _ _) (.cells #[.slice (some ⟨g7, 0, none⟩) (M.length + 2) c7] 62)) gr14 (u := .slice (some ⟨g7, 0, none⟩) (M.length + 2) c7) own14 (by rw [List.length_append, HCL.out]; rfl) rfl
      obtain ⟨g14, c14, rfl⟩ : ∃ g14 c14, v14 = .slice (some ⟨g14, 0, none⟩) (k + 1) c14 := by
        rcases row_form own14 with ⟨_, h0, _⟩ | ⟨g, c, h1, _⟩
        · omega
        · exact ⟨g, c, h1⟩
      have q3 : w14.cell? ⟨w.heap.size + 1 + 1, 3, none⟩ = some vc := blk_cell (cs := [.slice none 0 0, .slice none 0 0, .slice (some ⟨g12, 0, none⟩) (k + 1) c12, vc]) b14 rfl
      have q3f : w14.frozen? ⟨w.heap.size + 1 + 1, 3, none⟩ = false := frozen_of_row _ _ _ _ _ b14
      have qz : w.heap.size + 1 + 1 < w14.heap.size := lt_of_block b14
      have SN := Lib.hid (LtS.next (kf := kf) (cf := cf) (k := k) (v6 := .slice (some ⟨g6, 0, none⟩) (L.length + 3) c6) (v7 := .slice (some ⟨g7, 0, none⟩) (M.length + 2) c7) (by rw [HLN.out, HMN.out]; exact S14))
      clear own14 gr14 pl14 b14 S14 SS12 OW SR hz
      go_wp2
      go_roundw
      case rel => exact ⟨k + 1, _, _, _, _, by omega, by go_num, SN⟩
      case measure => simp [intOf]; omega
    · obtain rfl : k = T.length := by omega
      clear hlt hk
      have S : LtG w wr T ub (.slice pv T.length cv) (fun i => cutV (kf i) (lnK T i)) (fun i => cutV (cf i) (lnC T i)) kf cf (fulK T T.length) (fulC T T.length) vk vc ((List.range T.length).map kf) ((List.range T.length).map cf) := HS.out
      obtain ⟨qk, dk, rfl⟩ : ∃ q c, vk = .slice q T.length c := by
        rcases row_form S.kl with ⟨h1, h2, _⟩ | ⟨g, c, h1, _⟩
        · exact ⟨none, 0, by rw [List.length_map, List.length_range] at h2; rw [h2]; exact h1⟩
        · rw [List.length_map, List.length_range] at h1; exact ⟨_, _, h1⟩
      obtain ⟨qc, dc, rfl⟩ : ∃ q c, vc = .slice q T.length c := by
        rcases row_form S.cl with ⟨h1, h2, _⟩ | ⟨g, c, h1, _⟩
        · exact ⟨none, 0, by rw [List.length_map, List.length_range] at h2; rw [h2]; exact h1⟩
        · rw [List.length_map, List.length_range] at h1; exact ⟨_, _, h1⟩
      have BA : Below wr.heap.size wr (wr.alloc (.cells [n71V, n72V].flatten.toArray 64)) := below_al (Below.refl _ _) _
      have OW := Lib.hid (row_later S.row BA)
      have SR := Lib.hid (src_new wr [n71V, n72V].flatten.toArray 64 2 34 rfl)
      have hone : RowKit.Hid (∀ u ∈ [n71V, n72V].flatten.toArray.toList, u.oneCell' = true) := Lib.hid (by decide)
      have hkm : T.length + 2 ≤ maxLen := by unfold maxLen; omega
      have hz : w.heap.size ≤ wr.heap.size := S.be.size
      have SS := Lib.hid (S.later BA)
      clear S HS BA
      go_upto_region 12 with (fail)
      go_wp2_with (first | ((with_reducible refine wpList_buildSlice_all _ ?b1 22 64 2 #[(0, .tmp 69), (1, .tmp 70)] ?b2 i0 _ 34 Try.underlying22 HI.out.1 HI.out.2.1 HI.out.2.2.1 ?b6 [n71V, n72V] ?b7 ?b3 ?b4 ?b5 ?_); (case b1 => rfl); (case b2 => rfl); (case b6 => decide); (case b7 => rfl); (case b3 => rfl); (case b4 => (intro a ha; simp at ha; rcases ha with rfl | rfl <;> rfl)); (case b5 => (show 2 * 34 ≤ 16777216; decide))) | (at_builtin; go_must (refine wpList_append_src _ rfl (.tmp 68) (.tmp 71) 22 rfl w.heap.size 64 i0 _ 34 288 Try.underlying22 HI.out.1 HI.out.2.1 HI.out.2.2.1 HI.out.2.2.2 rfl (by decide) _ T.length _ rfl OW.out (some ⟨wr.heap.size, 0, none⟩) 2 2 _ rfl SR.out ?q1 hkm ?q2 ?q3 ?_)))
      case q1 => first | exact hone.out | (intro u hu; exact hone.out u (by simp [hu]))
      case q2 => omega
      case q3 => first | omega | (simp; omega)
      intro v2 w2 own2 gr2 pl2
      have gr2' : (wr.alloc (.cells [n71V, n72V].flatten.toArray 64)).grownBy w2 (Value.slice pv T.length cv).ownBlock := by simpa using gr2
      have kd := row_kind SS.out.row
      have own2' : w2.ownsRow w.heap.size 64 34 v2 (T.length + 2) (ndsV T (fun i => cutV (kf i) (lnK T i)) (fun i => cutV (cf i) (lnC T i)) ++ (n71V ++ n72V)) := by simpa using own2
      have LC2 : LentC w2 w.heap.size v2 (.slice qk T.length dk) (.slice qc T.length dc) kf cf T := by
        refine ⟨own2', fun i hi => ?_, fun i hi => ?_, ?_, ?_⟩
        · have := keep_row gr2' kd (SS.out.kr i hi) (by decide)
          unfold fulK at this
          rw [if_pos hi] at this
          simpa [lnK, mkK] using this
        · have := keep_row gr2' kd (SS.out.cr i hi) (by decide)
          unfold fulC at this
          rw [if_pos hi] at this
          simpa [lnC, mkC] using this
        · have := keep_row gr2' kd SS.out.kl (by decide)
          simpa using this
        · have := keep_row gr2' kd SS.out.cl (by decide)
          simpa using this
      have B2 : Below w.heap.size w w2 := Below.grown SS.out.be gr2' (by simp; omega) (fun g hg => (row_lt SS.out.row g hg).2)
      have xb2 := keep_blk gr2' kd SS.out.xb (by decide)
      have xr2 := keep_blk gr2' kd SS.out.xr (by decide)
      obtain ⟨g2, c2, rfl, h21, h22⟩ : ∃ g c, v2 = .slice (some ⟨g, 0, none⟩) (T.length + 2) c ∧ T.length + 2 ≤ c ∧ c ≤ maxLen := by
        rcases row_form own2' with ⟨_, h0, _⟩ | ⟨g, c, h1, h2, h3, _⟩
        · omega
        · exact ⟨g, c, h1, h2, h3⟩
      have h22' : c2 ≤ 9223372036854775807 := h22
      have q1 : w2.cell? ⟨w.heap.size + 1 + 1, 1, none⟩ = some (.slice none 0 0) := blk_cell (cs := [.slice none 0 0, .slice none 0 0, .slice qk T.length dk, .slice qc T.length dc]) xb2 rfl
      have q1f : w2.frozen? ⟨w.heap.size + 1 + 1, 1, none⟩ = false := frozen_of_row _ _ _ _ _ xb2
      have qz : w.heap.size + 1 + 1 < w2.heap.size := lt_of_block xb2
      have HLC := Lib.hid LC2
      have HB2 := Lib.hid B2
      have HXB := Lib.hid xb2
      have HXR := Lib.hid xr2
      have hlk : (T.length : Int) ≤ (c2 : Int) := by omega
      have hwt : IntKind.i64.wrap (T.length : Int) = (T.length : Int) := IntWalk.i64_in _ (by omega)
      have hnt : 0 ≤ (T.length : Int) := by omega
      clear own2 gr2 gr2' pl2 kd own2' LC2 B2 xb2 xr2 SS OW SR hone h21 h22 y0 y0z
      go_upto_region 13 with (fail)
      generalize hw3 : World.setCell _ _ _ = w3
      have xb3 : w3.heap[w.heap.size + 1 + 1]? = some (.cells #[.slice none 0 0, .slice (some ⟨g2, 0, none⟩) (T.length + 2) c2, .slice qk T.length dk, .slice qc T.length dc] 29 (0, 0)) := by rw [← hw3]; exact blk_set (cs := [.slice none 0 0, .slice none 0 0, .slice qk T.length dk, .slice qc T.length dc]) _ HXB.out
      have xr3 : w3.heap[w.heap.size + 1]? = some (.cells #[.slice none 0 0, .slice none 0 0, .slice none 0 0, .slice none 0 0] 29 (0, 0)) := by rw [← hw3]; exact (heap_setCell_other _ _ _ _ (by simp)).trans HXR.out
      have HLC3 := Lib.hid (show LentC w3 w.heap.size _ _ _ kf cf T by rw [← hw3]; exact HLC.out.set HXB.out 1 _)
      have HB3 := Lib.hid (show Below w.heap.size w w3 by rw [← hw3]; exact HB2.out.setCell (p := ⟨w.heap.size + 1 + 1, 1, none⟩) (by simp; omega) _)
      clear hw3 q1 q1f qz HLC HB2 HXB HXR
      have q0 : w3.cell? ⟨w.heap.size + 1 + 1, 0, none⟩ = some (.slice none 0 0) := blk_cell (cs := [.slice none 0 0, .slice (some ⟨g2, 0, none⟩) (T.length + 2) c2, .slice qk T.length dk, .slice qc T.length dc]) xb3 rfl
      have q1 : w3.cell? ⟨w.heap.size + 1 + 1, 1, none⟩ = some (.slice (some ⟨g2, 0, none⟩) (T.length + 2) c2) := blk_cell (cs := [.slice none 0 0, .slice (some ⟨g2, 0, none⟩) (T.length + 2) c2, .slice qk T.length dk, .slice qc T.length dc]) xb3 rfl
      have q0f : w3.frozen? ⟨w.heap.size + 1 + 1, 0, none⟩ = false := frozen_of_row _ _ _ _ _ xb3
      have qz : w.heap.size + 1 + 1 < w3.heap.size := lt_of_block xb3
      have HXB := Lib.hid xb3
      have HXR := Lib.hid xr3
      clear xb3 xr3
      go_upto_region 14 with (fail)
      generalize hw4 : World.setCell _ _ _ = w4
      have xb4 : w4.heap[w.heap.size + 1 + 1]? = some (.cells #[.slice (some ⟨g2, 0, none⟩) T.length c2, .slice (some ⟨g2, 0, none⟩) (T.length + 2) c2, .slice qk T.length dk, .slice qc T.length dc] 29 (0, 0)) := by rw [← hw4]; exact blk_set (cs := [.slice none 0 0, .slice (some ⟨g2, 0, none⟩) (T.length + 2) c2, .slice qk T.length dk, .slice qc T.length dc]) _ HXB.out
      have xr4 : w4.heap[w.heap.size + 1]? = some (.cells #[.slice none 0 0, .slice none 0 0, .slice none 0 0, .slice none 0 0] 29 (0, 0)) := by rw [← hw4]; exact (heap_setCell_other _ _ _ _ (by simp)).trans HXR.out
      have HLC4 := Lib.hid (show LentC w4 w.heap.size _ _ _ kf cf T by rw [← hw4]; exact HLC3.out.set HXB.out 0 _)
      have HB4 := Lib.hid (show Below w.heap.size w w4 by rw [← hw4]; exact HB3.out.setCell (p := ⟨w.heap.size + 1 + 1, 0, none⟩) (by simp; omega) _)
      clear hw4 q1 q0 q0f qz HLC3 HB3 HXB HXR
      have q0 : w4.cell? ⟨w.heap.size + 1 + 1, 0, none⟩ = some (.slice (some ⟨g2, 0, none⟩) T.length c2) := blk_cell (cs := [.slice (some ⟨g2, 0, none⟩) T.length c2, .slice (some ⟨g2, 0, none⟩) (T.length + 2) c2, .slice qk T.length dk, .slice qc T.length dc]) xb4 rfl
      have q1 : w4.cell? ⟨w.heap.size + 1 + 1, 1, none⟩ = some (.slice (some ⟨g2, 0, none⟩) (T.length + 2) c2) := blk_cell (cs := [.slice (some ⟨g2, 0, none⟩) T.length c2, .slice (some ⟨g2, 0, none⟩) (T.length + 2) c2, .slice qk T.length dk, .slice qc T.length dc]) xb4 rfl
      have q2 : w4.cell? ⟨w.heap.size + 1 + 1, 2, none⟩ = some (.slice qk T.length dk) := blk_cell (cs := [.slice (some ⟨g2, 0, none⟩) T.length c2, .slice (some ⟨g2, 0, none⟩) (T.length + 2) c2, .slice qk T.length dk, .slice qc T.length dc]) xb4 rfl
      have q3 : w4.cell? ⟨w.heap.size + 1 + 1, 3, none⟩ = some (.slice qc T.length dc) := blk_cell (cs := [.slice (some ⟨g2, 0, none⟩) T.length c2, .slice (some ⟨g2, 0, none⟩) (T.length + 2) c2, .slice qk T.length dk, .slice qc T.length dc]) xb4 rfl
      have qz : w.heap.size + 1 + 1 < w4.heap.size := lt_of_block xb4
      have r0 : w4.cell? ⟨w.heap.size + 1, 0, none⟩ = some (.slice none 0 0) := blk_cell (cs := [.slice none 0 0, .slice none 0 0, .slice none 0 0, .slice none 0 0]) xr4 rfl
      have r1 : w4.cell? ⟨w.heap.size + 1, 1, none⟩ = some (.slice none 0 0) := blk_cell (cs := [.slice none 0 0, .slice none 0 0, .slice none 0 0, .slice none 0 0]) xr4 rfl
      have r2 : w4.cell? ⟨w.heap.size + 1, 2, none⟩ = some (.slice none 0 0) := blk_cell (cs := [.slice none 0 0, .slice none 0 0, .slice none 0 0, .slice none 0 0]) xr4 rfl
      have r3 : w4.cell? ⟨w.heap.size + 1, 3, none⟩ = some (.slice none 0 0) := blk_cell (cs := [.slice none 0 0, .slice none 0 0, .slice none 0 0, .slice none 0 0]) xr4 rfl
      have r0f : w4.frozen? ⟨w.heap.size + 1, 0, none⟩ = false := frozen_of_row _ _ _ _ _ xr4
      have r1f : w4.frozen? ⟨w.heap.size + 1, 1, none⟩ = false := frozen_of_row _ _ _ _ _ xr4
      have r2f : w4.frozen? ⟨w.heap.size + 1, 2, none⟩ = false := frozen_of_row _ _ _ _ _ xr4
      have r3f : w4.frozen? ⟨w.heap.size + 1, 3, none⟩ = false := frozen_of_row _ _ _ _ _ xr4
      have rz : w.heap.size + 1 < w4.heap.size := lt_of_block xr4
      obtain ⟨hf, k5, b5⟩ := lent_ret HLC4.out HB4.out xr4 (.slice (some ⟨g2, 0, none⟩) T.length c2) (.slice (some ⟨g2, 0, none⟩) (T.length + 2) c2) (.slice qk T.length dk) (.slice qc T.length dc)
      have HF := Lib.hid hf
      have HK5 := Lib.hid k5
      have HB5 := Lib.hid b5
      clear xb4 xr4 hf k5 b5 HLC4 HB4
      go_wp2
      generalize hw5 : World.setCell _ _ _ = w5
      rw [hw5] at HF HK5 HB5
      have e0 : w5.cell? ⟨w.heap.size + 1, 0, none⟩ = some (.slice (some ⟨g2, 0, none⟩) T.length c2) := blk_cell (cs := [.slice (some ⟨g2, 0, none⟩) T.length c2, .slice (some ⟨g2, 0, none⟩) (T.length + 2) c2, .slice qk T.length dk, .slice qc T.length dc]) HF.out rfl
      have e1 : w5.cell? ⟨w.heap.size + 1, 1, none⟩ = some (.slice (some ⟨g2, 0, none⟩) (T.length + 2) c2) := blk_cell (cs := [.slice (some ⟨g2, 0, none⟩) T.length c2, .slice (some ⟨g2, 0, none⟩) (T.length + 2) c2, .slice qk T.length dk, .slice qc T.length dc]) HF.out rfl
      have e2 : w5.cell? ⟨w.heap.size + 1, 2, none⟩ = some (.slice qk T.length dk) := blk_cell (cs := [.slice (some ⟨g2, 0, none⟩) T.length c2, .slice (some ⟨g2, 0, none⟩) (T.length + 2) c2, .slice qk T.length dk, .slice qc T.length dc]) HF.out rfl
      have e3 : w5.cell? ⟨w.heap.size + 1, 3, none⟩ = some (.slice qc T.length dc) := blk_cell (cs := [.slice (some ⟨g2, 0, none⟩) T.length c2, .slice (some ⟨g2, 0, none⟩) (T.length + 2) c2, .slice qk T.length dk, .slice qc T.length dc]) HF.out rfl
      have ez := lt_of_block HF.out
      exact bodyPost_ret (v := .agg #[.slice (some ⟨g2, 0, none⟩) T.length c2, .slice (some ⟨g2, 0, none⟩) (T.length + 2) c2, .slice qk T.length dk, .slice qc T.length dc]) (by simp [results, Try.results14, go_sem, e0, e1, e2, e3, ez]) rfl ⟨_, _, _, _, rfl, ⟨rfl, kf, cf, HK5.out⟩, HB5.out⟩
end Go.Proofs.Ytcihihncgpddfaa
namespace Go.Proofs.Ytcihihncgpddfaa
open Go.RowKit Go.Deep
set_option linter.unusedVariables false
set_option linter.unusedSimpArgs false

theorem two_get {l m : List Value} {n : Nat} (hl : l.length = n) (j : Nat) : (l ++ m)[n + j]? = m[j]? := by
  rw [List.getElem?_append_right (by omega), hl, Nat.add_sub_cancel_left]
set_option maxRecDepth 100000 in
set_option maxHeartbeats 16000000 in
theorem stays_any (tv full vk vc : Value) (p : Option Addr) (c : Nat) (T : List Nd) (B : Nat) (w : World) (hL : LentAt w B tv full vk vc T) (hT : TreeAt w (.slice p T.length c) T) : Calls Try.prog 17 #[.agg #[tv, full, vk, vc], .agg #[.slice p T.length c]] w fun e w' => e = .returned (.bool true) ∧ Below w.heap.size w w' := by
  obtain ⟨q, cq, hq, hTL⟩ := hL.tree hT.ok
  obtain ⟨rfl, kf, cf, L⟩ := hL
  obtain ⟨g, cg, rfl, hg1, hg2⟩ : ∃ g c, full = .slice (some ⟨g, 0, none⟩) (T.length + 2) c ∧ T.length + 2 ≤ c ∧ c ≤ maxLen := by
    rcases row_form L.row with ⟨_, h0, _⟩ | ⟨g, c, h1, h2, h3, _⟩
    · omega
    · exact ⟨g, c, h1, h2, h3⟩
  obtain ⟨qk, dk, rfl⟩ : ∃ q c, vk = .slice q T.length c := by
    rcases row_form L.kl with ⟨h1, h2, _⟩ | ⟨g, c, h1, _⟩
    · exact ⟨none, 0, by rw [h2]; exact h1⟩
    · exact ⟨_, _, h1⟩
  obtain ⟨qc, dc, rfl⟩ : ∃ q c, vc = .slice q T.length c := by
    rcases row_form L.cl with ⟨h1, h2, _⟩ | ⟨g, c, h1, _⟩
    · exact ⟨none, 0, by rw [h2]; exact h1⟩
    · exact ⟨_, _, h1⟩
  have hg2' : cg ≤ 9223372036854775807 := hg2
  have hTn : T.length + 2 ≤ 9223372036854775807 := by omega
  show Calls Try.prog 17 #[.agg #[.slice (some ⟨g, 0, none⟩) T.length cg, .slice (some ⟨g, 0, none⟩) (T.length + 2) cg, .slice qk T.length dk, .slice qc T.length dc], .agg #[.slice p T.length c]] w _
  obtain ⟨W1, hW1⟩ : ∃ x, x = (w.alloc (.cells #[.slice (some ⟨g, 0, none⟩) T.length cg, .slice (some ⟨g, 0, none⟩) (T.length + 2) cg, .slice qk T.length dk, .slice qc T.length dc] 29)).alloc (.cells #[.slice p T.length c] 24) := ⟨_, rfl⟩
  have B1 : Below w.heap.size w W1 := by rw [hW1]; exact below_al (below_al (Below.refl _ _) _) _
  have x0 : W1.cell? ⟨w.heap.size, 0, none⟩ = some (.slice (some ⟨g, 0, none⟩) T.length cg) := by rw [hW1]; simp [go_sem]
  have x1 : W1.cell? ⟨w.heap.size, 1, none⟩ = some (.slice (some ⟨g, 0, none⟩) (T.length + 2) cg) := by rw [hW1]; simp [go_sem]
  have x2 : W1.cell? ⟨w.heap.size, 2, none⟩ = some (.slice qk T.length dk) := by rw [hW1]; simp [go_sem]
  have x3 : W1.cell? ⟨w.heap.size, 3, none⟩ = some (.slice qc T.length dc) := by rw [hW1]; simp [go_sem]
  have t0 : W1.cell? ⟨w.heap.size + 1, 0, none⟩ = some (.slice p T.length c) := by rw [hW1]; simp [go_sem]
  have z1 : w.heap.size + 1 < W1.heap.size := by rw [hW1]; simp
  have z0 : w.heap.size < W1.heap.size := by omega
  have HL := Lib.hid (L.later B1)
  have HT1 := Lib.hid (hT.later B1)
  have HTL1 := Lib.hid (show TreeAt W1 (.slice (some ⟨g, 0, none⟩) T.length cg) T from hTL.later B1)
  have HB1 := Lib.hid B1
  have HX1 := Lib.hid x1
  have HX2 := Lib.hid x2
  have HX3 := Lib.hid x3
  have HT0 := Lib.hid t0
  clear L hT hTL hq B1 hg1 hg2
  go_enter Try.func17, Try.ntmps17
  go_upto_region 1 with (fail)
  rw [← hW1]
  clear hW1
  go_wp2_with fail
  refine (ref_Same_any _ _ _ _ T W1 HTL1.out HT1.out).mono ?_
  rintro e w2 ⟨rfl, hb2⟩
  have HB2 := Lib.hid hb2
  have y1 : w2.cell? ⟨w.heap.size, 1, none⟩ = some (.slice (some ⟨g, 0, none⟩) (T.length + 2) cg) := by rw [(bcell hb2).1 _ _ z0]; exact HX1.out
  have y1z : w.heap.size < w2.heap.size := by have := hb2.size; omega
  have HL2 := Lib.hid (HL.out.later hb2)
  have k71 : w2.cell? ⟨g, T.length * 34, none⟩ = some (.int .i8 71) := by
    have := row_cells HL2.out.row (T.length * 34) (.int .i8 71) (by rw [← Nat.add_zero (T.length * 34), two_get (ndsV_len _ _ _)]; rfl)
    rwa [Nat.zero_add] at this
  have k72 : w2.cell? ⟨g, (T.length + 1) * 34, none⟩ = some (.int .i8 72) := by
    have := row_cells HL2.out.row (T.length * 34 + 34) (.int .i8 72) (by rw [two_get (ndsV_len _ _ _)]; rfl)
    rwa [Nat.zero_add, show T.length * 34 + 34 = (T.length + 1) * 34 by omega] at this
  have zg : g < w2.heap.size := (row_lt HL2.out.row g rfl).1
  have hwt : IntKind.i64.wrap (T.length : Int) = (T.length : Int) := IntWalk.i64_in _ (by omega)
  have hwt1 : IntKind.i64.wrap ((T.length : Int) + 1) = (T.length : Int) + 1 := IntWalk.i64_in _ (by omega)
  have hn0 : 0 ≤ (T.length : Int) := by omega
  have hn1 : 0 ≤ (T.length : Int) + 1 := by omega
  have hl0 : (T.length : Int) < (T.length : Int) + 2 := by omega
  have hl1 : (T.length : Int) + 1 < (T.length : Int) + 2 := by omega
  clear x0 x1 x2 x3 t0 hb2
  go_upto_region 3 with (fail)
  clear y1 y1z k71 k72 zg HL2 hwt hwt1 hn0 hn1 hl0 hl1
  have x2 : w2.cell? ⟨w.heap.size, 2, none⟩ = some (.slice qk T.length dk) := by rw [(bcell HB2.out).1 _ _ z0]; exact HX2.out
  have x2z : w.heap.size < w2.heap.size := by have := HB2.out.size; omega
  go_wp2
  go_loopw [5] (fun iv wr => ∃ k : Nat, k ≤ T.length ∧ iv = .int .i64 k ∧ RowKit.Hid (Below W1.heap.size W1 wr)) (fun iv _ => T.length - (intOf iv).toNat)
  case atStart => exact ⟨0, Nat.zero_le _, rfl, HB2⟩
  case round =>
    clear x2 x2z
    obtain ⟨k, hk, rfl, BW⟩ := hrel
    have SW := BW.out.size
    have x2 : wr.cell? ⟨w.heap.size, 2, none⟩ = some (.slice qk T.length dk) := by rw [(bcell BW.out).1 _ _ z0]; exact HX2.out
    have y0 : w.heap.size < wr.heap.size := by omega
    have y1 : w.heap.size + 1 < wr.heap.size := by omega
    by_cases hlt : k < T.length
    · have hki : (k : Int) < (T.length : Int) := by omega
      have LW := HL.out.later BW.out
      have x3 : wr.cell? ⟨w.heap.size, 3, none⟩ = some (.slice qc T.length dc) := by rw [(bcell BW.out).1 _ _ z0]; exact HX3.out
      have t0 : wr.cell? ⟨w.heap.size + 1, 0, none⟩ = some (.slice p T.length c) := by rw [(bcell BW.out).1 _ _ z1]; exact HT0.out
      obtain ⟨gl, hgl⟩ : ∃ g, qk = some ⟨g, 0, none⟩ := by
        rcases row_form LW.kl with ⟨_, h0, _⟩ | ⟨g, c, h1, _⟩
        · omega
        · injection h1 with h1; exact ⟨g, h1⟩
      obtain ⟨gm, hgm⟩ : ∃ g, qc = some ⟨g, 0, none⟩ := by
        rcases row_form LW.cl with ⟨_, h0, _⟩ | ⟨g, c, h1, _⟩
        · omega
        · injection h1 with h1; exact ⟨g, h1⟩
      subst hgl hgm
      have rk := LW.kr k hlt
      have rc := LW.cr k hlt
      obtain ⟨nk, hnk⟩ : ∃ n, n = lnK T k := ⟨_, rfl⟩
      obtain ⟨nc, hnc⟩ : ∃ n, n = lnC T k := ⟨_, rfl⟩
      rw [← hnk] at rk
      rw [← hnc] at rc
      obtain ⟨gk, ck, hkf, hck1, hck2⟩ : ∃ g c, kf k = .slice (some ⟨g, 0, none⟩) (nk + 3) c ∧ nk + 3 ≤ c ∧ c ≤ maxLen := by
        rcases row_form rk with ⟨_, h0, _⟩ | ⟨g, c, h1, h2, h3, _⟩
        · omega
        · exact ⟨g, c, h1, h2, h3⟩
      obtain ⟨gc, cc, hcf, hcc1, hcc2⟩ : ∃ g c, cf k = .slice (some ⟨g, 0, none⟩) (nc + 2) c ∧ nc + 2 ≤ c ∧ c ≤ maxLen := by
        rcases row_form rc with ⟨_, h0, _⟩ | ⟨g, c, h1, h2, h3, _⟩
        · omega
        · exact ⟨g, c, h1, h2, h3⟩
      rw [hkf] at rk
      rw [hcf] at rc
      have l6 : wr.cell? ⟨gl, k, none⟩ = some (.slice (some ⟨gk, 0, none⟩) (nk + 3) ck) := by
        have := row_cells LW.kl k (.slice (some ⟨gk, 0, none⟩) (nk + 3) ck) (by rw [List.getElem?_map, List.getElem?_range hlt, Option.map_some, hkf])
        rwa [Nat.zero_add] at this
      have l7 : wr.cell? ⟨gm, k, none⟩ = some (.slice (some ⟨gc, 0, none⟩) (nc + 2) cc) := by
        have := row_cells LW.cl k (.slice (some ⟨gc, 0, none⟩) (nc + 2) cc) (by rw [List.getElem?_map, List.getElem?_range hlt, Option.map_some, hcf])
        rwa [Nat.zero_add] at this
      have zl : gl < wr.heap.size := (row_lt LW.kl gl rfl).1
      have zm : gm < wr.heap.size := (row_lt LW.cl gm rfl).1
      have zk : gk < wr.heap.size := (row_lt rk gk rfl).1
      have zc : gc < wr.heap.size := (row_lt rc gc rfl).1
      have IK := Lib.hid (show IntsAt wr (.slice (some ⟨gk, 0, none⟩) nk ck) (T.getD k zNd).kids by
        have := ints_cut rk (by rw [hnk]; unfold lnK; omega)
        rw [show (T.getD k zNd).kids.length = nk by rw [hnk]; rfl] at this
        exact this)
      have HRK := Lib.hid rk
      have HRC := Lib.hid rc
      have ek : ∀ j, (List.map (Value.int .i64) ((T.getD k zNd).kids ++ mkK))[nk + j]? = ([.int .i64 (-71), .int .i64 (-72), .int .i64 (-73)] : List Value)[j]? := fun j => by
        rw [List.map_append, two_get (by rw [List.length_map, hnk]; rfl)]; rfl
      have ec : ∀ j, (cellsI ((T.getD k zNd).cols ++ mkC))[nc * 5 + j]? = ([.int .i8 0, .int .i64 (-71), .int .i64 0, .int .i64 0, .int .i64 0, .int .i8 0, .int .i64 (-72), .int .i64 0, .int .i64 0, .int .i64 0] : List Value)[j]? := fun j => by
        rw [cellsI_app, two_get (by rw [cellsI_len, hnc]; rfl)]; rfl
      have K0 := Lib.hid (show wr.cell? ⟨gk, nk, none⟩ = some (.int .i64 (-71)) by have := row_cells rk (nk + 0) _ (by rw [ek]; rfl); rwa [Nat.zero_add] at this)
      have K1 := Lib.hid (show wr.cell? ⟨gk, nk + 1, none⟩ = some (.int .i64 (-72)) by have := row_cells rk (nk + 1) _ (by rw [ek]; rfl); rwa [Nat.zero_add] at this)
      have K2 := Lib.hid (show wr.cell? ⟨gk, nk + 2, none⟩ = some (.int .i64 (-73)) by have := row_cells rk (nk + 2) _ (by rw [ek]; rfl); rwa [Nat.zero_add] at this)
      have C0 := Lib.hid (show wr.cell? ⟨gc, nc * 5 + 1, none⟩ = some (.int .i64 (-71)) by have := row_cells rc (nc * 5 + 1) _ (by rw [ec]; rfl); rwa [Nat.zero_add] at this)
      have C1 := Lib.hid (show wr.cell? ⟨gc, (nc + 1) * 5 + 1, none⟩ = some (.int .i64 (-72)) by have := row_cells rc (nc * 5 + 6) _ (by rw [ec]; rfl); rwa [Nat.zero_add, show nc * 5 + 6 = (nc + 1) * 5 + 1 by omega] at this)
      obtain ⟨_, _, p', c', e, _, _, hnd⟩ := HT1.out
      injection e with e1 _ e2
      subst e1 e2
      obtain ⟨b, off, rfl, hb, hnd⟩ := hnd (by omega)
      obtain ⟨kv, cv, hkv, hcv, hc⟩ := (hnd k hlt).later BW.out (Nat.le_refl _) hb
      have IV := Lib.hid hkv
      obtain ⟨pa, ca, rfl, -⟩ := hkv
      obtain ⟨pb, cb, rfl, -⟩ := hcv
      have a3 : wr.cell? ⟨b, off + k * 34 + 3, none⟩ = some (.slice pa nk ca) := by rw [hc 3 (by omega), hnk]; rfl
      have a28 : wr.cell? ⟨b, off + k * 34 + 28, none⟩ = some (.slice pb nc cb) := by rw [hc 28 (by omega), hnc]; rfl
      have zb : b < wr.heap.size := by omega
      have IV2 := Lib.hid (show IntsAt wr (.slice pa nk ca) (T.getD k zNd).kids by rw [hnk]; exact IV.out)
      have hcm : ck ≤ 9223372036854775807 := hck2
      have hcm' : cc ≤ 9223372036854775807 := hcc2
      have q1 : IntKind.i64.wrap (nk : Int) = (nk : Int) := IntWalk.i64_in _ (by omega)
      have q2 : IntKind.i64.wrap ((nk : Int) + 1) = (nk : Int) + 1 := IntWalk.i64_in _ (by omega)
      have q3 : IntKind.i64.wrap ((nk : Int) + 2) = (nk : Int) + 2 := IntWalk.i64_in _ (by omega)
      have q4 : IntKind.i64.wrap ((nc : Int) + 1) = (nc : Int) + 1 := IntWalk.i64_in _ (by omega)
      have q5 : ((nk : Int) + 2).toNat = nk + 2 := by omega
      have h0 : 0 ≤ (nk : Int) := by omega
      have h1 : 0 ≤ (nk : Int) + 1 := by omega
      have h2 : 0 ≤ (nk : Int) + 2 := by omega
      have h3 : 0 ≤ (nc : Int) := by omega
      have h4 : 0 ≤ (nc : Int) + 1 := by omega
      have m0 : (nk : Int) < (nk : Int) + 3 := by omega
      have m1 : (nk : Int) + 1 < (nk : Int) + 3 := by omega
      have m2 : (nk : Int) + 2 < (nk : Int) + 3 := by omega
      have m3 : (nc : Int) < (nc : Int) + 2 := by omega
      have m4 : (nc : Int) + 1 < (nc : Int) + 2 := by omega
      have m5 : (nk : Int) ≤ (ck : Int) := by omega
      have A3 := Lib.hid a3
      have TT := Lib.hid t0
      clear LW rk rc hnk hnc hkf hcf ek ec hc hnd IV hck1 hck2 hcc1 hcc2
      go_upto_region 10 with (fail)
      clear l6 l7 x2 x3 a28
      have HF := Lib.hid (fun w' (h : Below wr.heap.size wr w') => show w'.cell? ⟨w.heap.size + 1, 0, none⟩ = some (.slice (some ⟨b, off, none⟩) T.length c) ∧ w'.cell? ⟨b, off + k * 34 + 3, none⟩ = some (.slice pa nk ca) ∧ w'.cell? ⟨gk, nk, none⟩ = some (.int .i64 (-71)) ∧ w'.cell? ⟨gk, nk + 1, none⟩ = some (.int .i64 (-72)) ∧ w'.cell? ⟨gk, nk + 2, none⟩ = some (.int .i64 (-73)) ∧ w'.cell? ⟨gc, nc * 5 + 1, none⟩ = some (.int .i64 (-71)) ∧ w'.cell? ⟨gc, (nc + 1) * 5 + 1, none⟩ = some (.int .i64 (-72)) ∧ w.heap.size + 1 < w'.heap.size ∧ b < w'.heap.size ∧ gk < w'.heap.size ∧ gc < w'.heap.size from by
        have hz := h.size
        refine ⟨?_, ?_, ?_, ?_, ?_, ?_, ?_, by omega, by omega, by omega, by omega⟩
        · rw [(bcell h).1 _ _ y1]; exact TT.out
        · rw [(bcell h).1 _ _ zb]; exact A3.out
        · rw [(bcell h).1 _ _ zk]; exact K0.out
        · rw [(bcell h).1 _ _ zk]; exact K1.out
        · rw [(bcell h).1 _ _ zk]; exact K2.out
        · rw [(bcell h).1 _ _ zc]; exact C0.out
        · rw [(bcell h).1 _ _ zc]; exact C1.out)
      clear t0 a3
      refine wp_region_noPanic ?_
      refine wp_region_lexH (fun w' => Below wr.heap.size wr w') (by kernel_rfl) (by kernel_rfl) (fun _ _ _ _ _ h => h) (Below.drew (Below.refl _ _)) ?_
      apply lexH_run (by rfl)
      · (intro w h; clear h; go_simp; try rfl)
      (try simp only [Act.put, List.setIfInBounds_toArray, List.set_cons_zero, List.set_cons_succ])
      apply lexH_run (by rfl)
      · (intro w h; clear h; go_simp; try rfl)
      (try simp only [Act.put, List.setIfInBounds_toArray, List.set_cons_zero, List.set_cons_succ])
      apply lexH_run (by rfl)
      · (intro w h; clear h; go_simp; try rfl)
      (try simp only [Act.put, List.setIfInBounds_toArray, List.set_cons_zero, List.set_cons_succ])
      apply lexH_run (by rfl)
      · (intro w h; clear h; go_simp; try rfl)
      (try simp only [Act.put, List.setIfInBounds_toArray, List.set_cons_zero, List.set_cons_succ])
      apply lexH_run (by rfl)
      · (intro w h; have FK := HF.out w h; clear h; go_split_ands; go_simp; try rfl)
      (try simp only [Act.put, List.setIfInBounds_toArray, List.set_cons_zero, List.set_cons_succ])
      apply lexH_run (by rfl)
      · (intro w h; clear h; go_simp; try rfl)
      (try simp only [Act.put, List.setIfInBounds_toArray, List.set_cons_zero, List.set_cons_succ])
      apply lexH_run (by rfl)
      · (intro w h; clear h; go_simp; try rfl)
      (try simp only [Act.put, List.setIfInBounds_toArray, List.set_cons_zero, List.set_cons_succ])
      apply lexH_run (by rfl)
      · (intro w h; clear h; go_simp; try rfl)
      (try simp only [Act.put, List.setIfInBounds_toArray, List.set_cons_zero, List.set_cons_succ])
      apply lexH_run (by rfl)
      · (intro w h; have FK := HF.out w h; clear h; go_split_ands; go_simp; try rfl)
      (try simp only [Act.put, List.setIfInBounds_toArray, List.set_cons_zero, List.set_cons_succ])
      refine lexH_call (by kernel_rfl) (by rfl) (by go_simp; first | exact ⟨rfl, rfl⟩ | rfl) ?_
      intro hS
      refine (same_Ints_any _ _ (T.getD k zNd).kids _ (IK.out.later hS (Nat.le_refl _)) (IV2.out.later hS (Nat.le_refl _))).mono ?_
      rintro e w5 ⟨rfl, hb5⟩
      have hb5 := below_via hb5 hS
      refine ⟨_, rfl, hb5, ?_⟩
      clear hS
      (try simp only [Act.put, List.setIfInBounds_toArray, List.set_cons_zero, List.set_cons_succ])
      apply lexH_run (by rfl)
      · (intro w h; clear h; go_simp; try rfl)
      (try simp only [Act.put, List.setIfInBounds_toArray, List.set_cons_zero, List.set_cons_succ])
      apply lexH_run (by rfl)
      · (intro w h; clear h; go_simp; try rfl)
      (try simp only [Act.put, List.setIfInBounds_toArray, List.set_cons_zero, List.set_cons_succ])
      apply lexH_run (by rfl)
      · (intro w h; clear h; go_simp; try rfl)
      (try simp only [Act.put, List.setIfInBounds_toArray, List.set_cons_zero, List.set_cons_succ])
      apply lexH_run (by rfl)
      · (intro w h; clear h; go_simp; try rfl)
      (try simp only [Act.put, List.setIfInBounds_toArray, List.set_cons_zero, List.set_cons_succ])
      apply lexH_run (by rfl)
      · (intro w h; clear h; go_simp; try rfl)
      (try simp only [Act.put, List.setIfInBounds_toArray, List.set_cons_zero, List.set_cons_succ])
      apply lexH_run (by rfl)
      · (intro w h; have FK := HF.out w h; clear h; go_split_ands; go_simp; try rfl)
      (try simp only [Act.put, List.setIfInBounds_toArray, List.set_cons_zero, List.set_cons_succ])
      apply lexH_run (by rfl)
      · (intro w h; clear h; go_simp; try rfl)
      (try simp only [Act.put, List.setIfInBounds_toArray, List.set_cons_zero, List.set_cons_succ])
      apply lexH_run (by rfl)
      · (intro w h; clear h; go_simp; try rfl)
      (try simp only [Act.put, List.setIfInBounds_toArray, List.set_cons_zero, List.set_cons_succ])
      apply lexH_run (by rfl)
      · (intro w h; clear h; go_simp; try rfl)
      (try simp only [Act.put, List.setIfInBounds_toArray, List.set_cons_zero, List.set_cons_succ])
      apply lexH_run (by rfl)
      · (intro w h; clear h; go_simp; try rfl)
      (try simp only [Act.put, List.setIfInBounds_toArray, List.set_cons_zero, List.set_cons_succ])
      apply lexH_run (by rfl)
      · (intro w h; clear h; go_simp; try rfl)
      (try simp only [Act.put, List.setIfInBounds_toArray, List.set_cons_zero, List.set_cons_succ])
      apply lexH_run (by rfl)
      · (intro w h; clear h; go_simp; try rfl)
      (try simp only [Act.put, List.setIfInBounds_toArray, List.set_cons_zero, List.set_cons_succ])
      apply lexH_run (by rfl)
      · (intro w h; clear h; go_simp; try rfl)
      (try simp only [Act.put, List.setIfInBounds_toArray, List.set_cons_zero, List.set_cons_succ])
      apply lexH_run (by rfl)
      · (intro w h; have FK := HF.out w h; clear h; go_split_ands; go_simp; try rfl)
      (try simp only [Act.put, List.setIfInBounds_toArray, List.set_cons_zero, List.set_cons_succ])
      apply lexH_run (by rfl)
      · (intro w h; clear h; go_simp; try rfl)
      (try simp only [Act.put, List.setIfInBounds_toArray, List.set_cons_zero, List.set_cons_succ])
      apply lexH_run (by rfl)
      · (intro w h; clear h; go_simp; try rfl)
      (try simp only [Act.put, List.setIfInBounds_toArray, List.set_cons_zero, List.set_cons_succ])
      apply lexH_run (by rfl)
      · (intro w h; clear h; go_simp; try rfl)
      (try simp only [Act.put, List.setIfInBounds_toArray, List.set_cons_zero, List.set_cons_succ])
      apply lexH_run (by rfl)
      · (intro w h; clear h; go_simp; try rfl)
      (try simp only [Act.put, List.setIfInBounds_toArray, List.set_cons_zero, List.set_cons_succ])
      apply lexH_run (by rfl)
      · (intro w h; clear h; go_simp; try rfl)
      (try simp only [Act.put, List.setIfInBounds_toArray, List.set_cons_zero, List.set_cons_succ])
      apply lexH_run (by rfl)
      · (intro w h; clear h; go_simp; try rfl)
      (try simp only [Act.put, List.setIfInBounds_toArray, List.set_cons_zero, List.set_cons_succ])
      apply lexH_run (by rfl)
      · (intro w h; clear h; go_simp; try rfl)
      (try simp only [Act.put, List.setIfInBounds_toArray, List.set_cons_zero, List.set_cons_succ])
      apply lexH_run (by rfl)
      · (intro w h; have FK := HF.out w h; clear h; go_split_ands; go_simp; try rfl)
      (try simp only [Act.put, List.setIfInBounds_toArray, List.set_cons_zero, List.set_cons_succ])
      apply lexH_run (by rfl)
      · (intro w h; clear h; go_simp; try rfl)
      (try simp only [Act.put, List.setIfInBounds_toArray, List.set_cons_zero, List.set_cons_succ])
      apply lexH_run (by rfl)
      · (intro w h; clear h; go_simp; try rfl)
      (try simp only [Act.put, List.setIfInBounds_toArray, List.set_cons_zero, List.set_cons_succ])
      apply lexH_run (by rfl)
      · (intro w h; clear h; go_simp; try rfl)
      (try simp only [Act.put, List.setIfInBounds_toArray, List.set_cons_zero, List.set_cons_succ])
      apply lexH_run (by rfl)
      · (intro w h; clear h; go_simp; try rfl)
      (try simp only [Act.put, List.setIfInBounds_toArray, List.set_cons_zero, List.set_cons_succ])
      apply lexH_run (by rfl)
      · (intro w h; clear h; go_simp; try rfl)
      (try simp only [Act.put, List.setIfInBounds_toArray, List.set_cons_zero, List.set_cons_succ])
      apply lexH_run (by rfl)
      · (intro w h; clear h; go_simp; try rfl)
      (try simp only [Act.put, List.setIfInBounds_toArray, List.set_cons_zero, List.set_cons_succ])
      apply lexH_run (by rfl)
      · (intro w h; clear h; go_simp; try rfl)
      (try simp only [Act.put, List.setIfInBounds_toArray, List.set_cons_zero, List.set_cons_succ])
      apply lexH_run (by rfl)
      · (intro w h; have FK := HF.out w h; clear h; go_split_ands; go_simp; try rfl)
      (try simp only [Act.put, List.setIfInBounds_toArray, List.set_cons_zero, List.set_cons_succ])
      apply lexH_run (by rfl)
      · (intro w h; clear h; go_simp; try rfl)
      (try simp only [Act.put, List.setIfInBounds_toArray, List.set_cons_zero, List.set_cons_succ])
      apply lexH_run (by rfl)
      · (intro w h; clear h; go_simp; try rfl)
      (try simp only [Act.put, List.setIfInBounds_toArray, List.set_cons_zero, List.set_cons_succ])
      apply lexH_run (by rfl)
      · (intro w h; clear h; go_simp; try rfl)
      (try simp only [Act.put, List.setIfInBounds_toArray, List.set_cons_zero, List.set_cons_succ])
      apply lexH_run (by rfl)
      · (intro w h; clear h; go_simp; try rfl)
      (try simp only [Act.put, List.setIfInBounds_toArray, List.set_cons_zero, List.set_cons_succ])
      apply lexH_run (by rfl)
      · (intro w h; clear h; go_simp; try rfl)
      (try simp only [Act.put, List.setIfInBounds_toArray, List.set_cons_zero, List.set_cons_succ])
      apply lexH_run (by rfl)
      · (intro w h; clear h; go_simp; try rfl)
      (try simp only [Act.put, List.setIfInBounds_toArray, List.set_cons_zero, List.set_cons_succ])
      apply lexH_run (by rfl)
      · (intro w h; clear h; go_simp; try rfl)
      (try simp only [Act.put, List.setIfInBounds_toArray, List.set_cons_zero, List.set_cons_succ])
      apply lexH_run (by rfl)
      · (intro w h; clear h; go_simp; try rfl)
      (try simp only [Act.put, List.setIfInBounds_toArray, List.set_cons_zero, List.set_cons_succ])
      apply lexH_run (by rfl)
      · (intro w h; have FK := HF.out w h; clear h; go_split_ands; go_simp; try rfl)
      (try simp only [Act.put, List.setIfInBounds_toArray, List.set_cons_zero, List.set_cons_succ])
      apply lexH_run (by rfl)
      · (intro w h; clear h; go_simp; try rfl)
      (try simp only [Act.put, List.setIfInBounds_toArray, List.set_cons_zero, List.set_cons_succ])
      apply lexH_run (by rfl)
      · (intro w h; clear h; go_simp; try rfl)
      (try simp only [Act.put, List.setIfInBounds_toArray, List.set_cons_zero, List.set_cons_succ])
      apply lexH_nil
      refine NoPanic.normal ?_
      have BF := Lib.hid (below_via hb5 BW.out)
      clear hb5
      go_wp2
      go_roundw
      case rel => exact ⟨k + 1, by omega, by go_num, BF⟩
      case measure => simp [intOf]; omega
    · obtain rfl : k = T.length := by omega
      have BF := Lib.hid (below_via BW.out HB1.out)
      clear SW
      go_wp2
      go_ret
      exact ⟨rfl, BF.out⟩
end Go.Proofs.Ytcihihncgpddfaa
