/- Layer 10: two lists of ints, two trees that are the same: the laws' own comparisons. -/
import Derived.Test.YtcihihncgpddfaaLntA
import Derived.Deep.WholeRow
import Derived.Outline
import Derived.Laws.StructEq
namespace Go.Proofs.Ytcihihncgpddfaa
open Go.RowKit Go.Deep
set_option linter.unusedVariables false
set_option linter.unusedSimpArgs false

section
variable {P : Program}
theorem run_eq_four (w : World) (t e : TypeId) (K : IntKind) (ht : P.underlying t = some (.array 4 e)) (he : P.underlying e = some (.int K)) (hsz : ∀ w, (sizeOf e).run P w = .ok 1 w) (a b c d a' b' c' d' : Int) :
    (Op.equalIn 10000 t (.agg #[.int K a, .int K b, .int K c, .int K d]) (.agg #[.int K a', .int K b', .int K c', .int K d'])).run P w = .ok (a == a' && b == b' && c == c' && d == d') w := by
  rw [show (10000 : Nat) = 9998 + 2 by rfl, Op.equalIn]
  simp only [Sem.run_bind, run_underlying ht, Result.andThen_ok, hsz, Std.Legacy.Range.forIn_eq_forIn_range', Std.Legacy.Range.size, Nat.sub_zero, Nat.add_sub_cancel, Nat.div_one]
  rw [show List.range' 0 4 1 = [0, 1, 2, 3] by rfl]
  have pp : ∀ (x y z v : Int) (i : Nat), i < 4 → (part e #[.int K x, .int K y, .int K z, .int K v] i).run P w = .ok (#[Value.int K x, .int K y, .int K z, .int K v].getD i undef) w := by
    intro x y z v i hi
    simp [part, isAgg, run_underlying he]
    match i, hi with
    | 0, _ => rfl
    | 1, _ => rfl
    | 2, _ => rfl
    | 3, _ => rfl
  have pe : ∀ (x y : Int), (Op.equalIn (9998 + 1) e (.int K x) (.int K y)).run P w = .ok (x == y) w := fun x y => run_equalIn_int w 9998 e K K x y he
  have q0 := fun x y z v => pp x y z v 0 (by omega)
  have q1 := fun x y z v => pp x y z v 1 (by omega)
  have q2 := fun x y z v => pp x y z v 2 (by omega)
  have q3 := fun x y z v => pp x y z v 3 (by omega)
  simp at q0 q1 q2 q3
  cases h1 : (a == a') <;> cases h2 : (b == b') <;> cases h3 : (c == c') <;> cases h4 : (d == d') <;> simp [List.forIn_cons, Sem.run_bind, q0, q1, q2, q3, pe, h1, h2, h3, h4]
end
theorem eqFour (w : World) (a b c d a' b' c' d' : Int) : (Op.equalIn 10000 58 (.agg #[.int .i64 a, .int .i64 b, .int .i64 c, .int .i64 d]) (.agg #[.int .i64 a', .int .i64 b', .int .i64 c', .int .i64 d'])).run Try.prog w = .ok (a == a' && b == b' && c == c' && d == d') w :=
  run_eq_four w _ 3 .i64 Try.underlying58 Try.underlying3 (fun _ => by kernel_rfl) a b c d a' b' c' d'

theorem below_drewN_ {B : Nat} {a w : World} (h : Below B a w) (n : Nat) : Below B a (w.drewN n) := ⟨h.os, h.tape, h.output, h.size, h.block⟩
set_option maxRecDepth 100000 in
set_option maxHeartbeats 4000000 in
theorem same_Ints_any (v v' : Value) (L : List Int) (w : World) (h : IntsAt w v L) (h' : IntsAt w v' L) : Calls Try.prog 35 #[v, v'] w fun e w' => e = .returned (.bool true) ∧ Below w.heap.size w w' := by
  obtain ⟨p, c, rfl, hl, hm, _, hc⟩ := h
  obtain ⟨p', c', rfl, hl', hm', _, hc'⟩ := h'
  have hn : L.length ≤ 9223372036854775807 := by omega
  have HC := Lib.hid hc
  have HD := Lib.hid hc'
  clear hc hc'
  go_enter Try.func35, Try.ntmps35
  go_wp2
  go_loopw [5] (fun i wr => ∃ k : Nat, k ≤ L.length ∧ i = .int .i64 k ∧ Below w.heap.size w wr) (fun i _ => L.length - (intOf i).toNat)
  case atStart => exact ⟨0, Nat.zero_le _, rfl, Below.refl _ _⟩
  case round =>
    obtain ⟨k, hk, rfl, BW⟩ := hrel
    have SW := BW.size
    by_cases hlt : k < L.length
    · have hki : (k : Int) < (L.length : Int) := by omega
      obtain ⟨b, off, rfl, hb, hcc⟩ := HC.out (by omega)
      obtain ⟨b', off', rfl, hb', hcc'⟩ := HD.out (by omega)
      have c1 := hcc k hlt
      have c2 := hcc' k hlt
      rw [← (bcell BW).1 _ _ hb] at c1
      rw [← (bcell BW).1 _ _ hb'] at c2
      have hbw : b < wr.heap.size := by omega
      have hbw' : b' < wr.heap.size := by omega
      clear hcc hcc'
      generalize L.getD k 0 = x at c1 c2
      go_upto_region 6 with (fail)
      go_quiet (fail)
      all_goals go_wp2
      go_roundw
      case rel => exact ⟨k + 1, by omega, by go_num, below_drewN_ BW _⟩
      case measure => simp [intOf]; omega
    · obtain rfl : k = L.length := by omega
      clear hlt hk
      go_wp2
      go_ret
      exact ⟨rfl, BW⟩

theorem wpList_store_nodeB {ops : Array Oper} {rest : List Oper} {op : Oper} {a : Act} {w : World} {Q : Exit → Act → World → Prop} (hgd : op.guard = none) (x y : Operand) (ho : op.op = .store 64 x y) (zs : Array Value) (ty' : TypeId) (cs : List Value) (hx : a.eval x = .pointer (some ⟨w.heap.size, 0, none⟩)) (hy : a.eval y = .agg cs.toArray) (hz : zs.size = 34) (hl : cs.length = 34) (h1 : ∀ v ∈ cs, v.oneCell' = true)
    (h : ∀ w3 : World, RowKit.Hid (w3 = w.alloc (.cells cs.toArray ty')) → wpList Try.prog ops Q rest (a.put op.dst undef) w3) : wpList Try.prog ops Q (op :: rest) a (w.alloc (.cells zs ty')) := by
  refine wpList_store_row hgd _ x y ho w.heap.size cs.toArray hx hy ty' zs (heap_alloc_new _ _) (by rw [infoN]; simp [hl]) (by simp [hz, hl]) (all_oneCell_toArray h1) ?_
  rw [World.setRow_alloc_new]
  exact h _ (Lib.hid rfl)
set_option maxRecDepth 100000 in
set_option maxHeartbeats 16000000 in
theorem law_same_any (pt pu : Option Addr) (ct cu : Nat) (T : List Nd) (w : World) (hT : TreeAt w (.slice pt T.length ct) T) (hU : TreeAt w (.slice pu T.length cu) T) : Calls Try.prog 28 #[.agg #[.slice pt T.length ct], .agg #[.slice pu T.length cu]] w fun e w' => e = .returned (.bool true) ∧ Below w.heap.size w w' := by
  have eq4 := eqFour
  have hlen := hT.len
  obtain ⟨_, _, p, c, e, _, _, hn⟩ := hT
  injection e with e1 _ e3
  subst e1 e3
  obtain ⟨_, _, p, c, e, _, _, hm⟩ := hU
  injection e with e1 _ e3
  subst e1 e3
  obtain ⟨W1, hW1⟩ : ∃ x, x = (w.alloc (.cells #[.slice pt T.length ct] 24)).alloc (.cells #[.slice pu T.length cu] 24) := ⟨_, rfl⟩
  have B1 : Below w.heap.size w W1 := by rw [hW1]; exact below_al (below_al (Below.refl _ _) _) _
  have t0 : W1.cell? ⟨w.heap.size, 0, none⟩ = some (.slice pt T.length ct) := by rw [hW1]; simp [go_sem]
  have t1 : W1.cell? ⟨w.heap.size + 1, 0, none⟩ = some (.slice pu T.length cu) := by rw [hW1]; simp [go_sem]
  have z1 : w.heap.size + 1 < W1.heap.size := by rw [hW1]; simp
  have z0 : w.heap.size < W1.heap.size := by omega
  have HN := Lib.hid hn
  have HM := Lib.hid hm
  have HB1 := Lib.hid B1
  have HT0 := Lib.hid t0
  have HT1 := Lib.hid t1
  clear hn hm B1
  go_enter Try.func28, Try.ntmps28
  go_upto_region 1 with (fail)
  rw [← hW1]
  clear hW1
  go_wp2
  go_loopw [5] (fun iv wr => ∃ j : Nat, j ≤ T.length ∧ iv = .int .i64 j ∧ RowKit.Hid (Below W1.heap.size W1 wr)) (fun iv _ => T.length - (intOf iv).toNat)
  case atStart => exact ⟨0, Nat.zero_le _, rfl, Lib.hid (Below.refl _ _)⟩
  case round =>
    clear t0 t1
    obtain ⟨j, hj, rfl, BW⟩ := hrel
    have SW := BW.out.size
    have t0 : wr.cell? ⟨w.heap.size, 0, none⟩ = some (.slice pt T.length ct) := by rw [(bcell BW.out).1 _ _ z0]; exact HT0.out
    have t1 : wr.cell? ⟨w.heap.size + 1, 0, none⟩ = some (.slice pu T.length cu) := by rw [(bcell BW.out).1 _ _ z1]; exact HT1.out
    have y0 : w.heap.size < wr.heap.size := by omega
    have y1 : w.heap.size + 1 < wr.heap.size := by omega
    by_cases hlt : j < T.length
    · have hji : (j : Int) < (T.length : Int) := by omega
      obtain ⟨b, off, rfl, hb, hn⟩ := HN.out (by omega)
      obtain ⟨b', off', rfl, hb', hm⟩ := HM.out (by omega)
      have BWW := Lib.hid (below_via BW.out HB1.out)
      have hbw : b < wr.heap.size := by have := BWW.out.size; omega
      have hbw' : b' < wr.heap.size := by have := BWW.out.size; omega
      obtain ⟨kv, cv, hk, hq, hc⟩ := (hn j hlt).later BWW.out (Nat.le_refl _) hb
      obtain ⟨kv', cv', hk', hq', hc'⟩ := (hm j hlt).later BWW.out (Nat.le_refl _) hb'
      clear hn hm
      generalize T.getD j zNd = x at hk hq hc hk' hq' hc'
      have RNG0 := nd_range hc
      have ONE0 := ndV_one hk hq
      have LEN0 := ndV_len x kv cv
      have RNG1 := nd_range hc'
      have ONE1 := ndV_one hk' hq'
      have LEN1 := ndV_len x kv' cv'
      obtain ⟨cs, hcs⟩ : ∃ cs, cs = ndV x kv cv := ⟨_, rfl⟩
      obtain ⟨ds, hds⟩ : ∃ cs, cs = ndV x kv' cv' := ⟨_, rfl⟩
      rw [← hcs] at RNG0 ONE0 LEN0
      rw [← hds] at RNG1 ONE1 LEN1
      have RNG := Lib.hid RNG0
      have ONE := Lib.hid ONE0
      have LEN := Lib.hid LEN0
      have RNG' := Lib.hid RNG1
      have ONE' := Lib.hid ONE1
      have LEN' := Lib.hid LEN1
      have HK := Lib.hid hk
      have HQ := Lib.hid hq
      have HK' := Lib.hid hk'
      have HQ' := Lib.hid hq'
      have HCS := Lib.hid hcs
      have HDS := Lib.hid hds
      clear hc hc' RNG0 ONE0 LEN0 RNG1 ONE1 LEN1 hk hq hk' hq' hcs hds
      go_wp2_with (first | ((with_reducible refine wpList_load_node ?g1 (.tmp 26) ?g2 b (off + j * 34) ?g3 cs LEN.out RNG.out ?_); (case g1 => rfl); (case g2 => rfl); (case g3 => rfl)) | ((with_reducible refine wpList_store_node ?g1 (.tmp 6) (.tmp 27) ?g2 _ _ cs ?g3 ?g4 ?g5 LEN.out ONE.out ?_); (case g1 => rfl); (case g2 => rfl); (case g3 => rfl); (case g4 => rfl); (case g5 => rfl)))
      intro w3 hb3 hz3 hr3
      have t1 : w3.cell? ⟨w.heap.size + 1, 0, none⟩ = some (.slice (some ⟨b', off', none⟩) T.length cu) := by rw [(bcell hb3).1 _ _ y1]; exact t1
      have hbw3 : b' < w3.heap.size := by omega
      have y1 : w.heap.size + 1 < w3.heap.size := by omega
      have RNG3 : RowKit.Hid (w3.rangeAt b' (off' + j * 34) ds) := Lib.hid (fun i v hv => by rw [(bcell hb3).1 _ _ hbw']; exact RNG'.out i v hv)
      have HB3 := Lib.hid hb3
      have HR3 := Lib.hid hr3
      clear hb3 hr3 RNG RNG' y0 t0
      go_wp2_with (first | ((with_reducible refine wpList_load_node ?g1 (.tmp 31) ?g2 b' (off' + j * 34) ?g3 ds LEN'.out RNG3.out ?_); (case g1 => rfl); (case g2 => rfl); (case g3 => rfl)) | ((with_reducible refine wpList_store_node ?g1 (.tmp 7) (.tmp 32) ?g2 _ _ ds ?g3 ?g4 ?g5 LEN'.out ONE'.out ?_); (case g1 => rfl); (case g2 => rfl); (case g3 => rfl); (case g4 => rfl); (case g5 => rfl)))
      intro w4 hb4 hz4 hr4
      have HA : RowKit.Hid (∀ i, i < 34 → w4.cell? ⟨wr.heap.size, i, none⟩ = (ndV x kv cv)[i]?) := Lib.hid (fun i hi => by
        have hl : i < cs.length := by rw [LEN.out]; exact hi
        rw [(bcell hb4).1 _ _ hz3, ← HCS.out, List.getElem?_eq_getElem hl]
        have := HR3.out i cs[i] (List.getElem?_eq_getElem hl)
        rwa [Nat.zero_add] at this)
      have HB : RowKit.Hid (∀ i, i < 34 → w4.cell? ⟨w3.heap.size, i, none⟩ = (ndV x kv' cv')[i]?) := Lib.hid (fun i hi => by
        have hl : i < ds.length := by rw [LEN'.out]; exact hi
        rw [← HDS.out, List.getElem?_eq_getElem hl]
        have := hr4 i ds[i] (List.getElem?_eq_getElem hl)
        rwa [Nat.zero_add] at this)
      have HB4 := Lib.hid (below_via hb4 HB3.out)
      have hz5 : wr.heap.size < w4.heap.size := by have := HB4.out.size; omega
      obtain ⟨ga, hga⟩ : ∃ g, g = wr.heap.size := ⟨_, rfl⟩
      obtain ⟨gb, hgb⟩ : ∃ g, g = w3.heap.size := ⟨_, rfl⟩
      rw [← hga] at HA hz5
      rw [← hgb] at HB hz4
      have hgaw : ga < w4.heap.size := hz5
      have hgbw : gb < w4.heap.size := hz4
      rw [← hga, ← hgb]
      have HGA := Lib.hid hga
      clear hb4 hr4 HR3 RNG3 hga hgb t1 y1 hz3 hz4 hz5 hbw3
      have a0 : w4.cell? ⟨ga, 0, none⟩ = some (.int .i8 x.kind) := HA.out 0 (by omega)
      have b0 : w4.cell? ⟨gb, 0, none⟩ = some (.int .i8 x.kind) := HB.out 0 (by omega)
      have a1 : w4.cell? ⟨ga, 1, none⟩ = some (.string x.id) := HA.out 1 (by omega)
      have b1 : w4.cell? ⟨gb, 1, none⟩ = some (.string x.id) := HB.out 1 (by omega)
      have a2 : w4.cell? ⟨ga, 2, none⟩ = some (.string x.cls) := HA.out 2 (by omega)
      have b2 : w4.cell? ⟨gb, 2, none⟩ = some (.string x.cls) := HB.out 2 (by omega)
      have a4 : w4.cell? ⟨ga, 4, none⟩ = some (.int .i8 x.iw.k) := HA.out 4 (by omega)
      have b4 : w4.cell? ⟨gb, 4, none⟩ = some (.int .i8 x.iw.k) := HB.out 4 (by omega)
      have a5 : w4.cell? ⟨ga, 5, none⟩ = some (.int .i64 x.iw.n) := HA.out 5 (by omega)
      have b5 : w4.cell? ⟨gb, 5, none⟩ = some (.int .i64 x.iw.n) := HB.out 5 (by omega)
      have a6 : w4.cell? ⟨ga, 6, none⟩ = some (.int .i64 x.iw.d) := HA.out 6 (by omega)
      have b6 : w4.cell? ⟨gb, 6, none⟩ = some (.int .i64 x.iw.d) := HB.out 6 (by omega)
      have a7 : w4.cell? ⟨ga, 7, none⟩ = some (.int .i64 x.iw.lo) := HA.out 7 (by omega)
      have b7 : w4.cell? ⟨gb, 7, none⟩ = some (.int .i64 x.iw.lo) := HB.out 7 (by omega)
      have a8 : w4.cell? ⟨ga, 8, none⟩ = some (.int .i64 x.iw.hi) := HA.out 8 (by omega)
      have b8 : w4.cell? ⟨gb, 8, none⟩ = some (.int .i64 x.iw.hi) := HB.out 8 (by omega)
      have a9 : w4.cell? ⟨ga, 9, none⟩ = some (.int .i8 x.ih.k) := HA.out 9 (by omega)
      have b9 : w4.cell? ⟨gb, 9, none⟩ = some (.int .i8 x.ih.k) := HB.out 9 (by omega)
      have a10 : w4.cell? ⟨ga, 10, none⟩ = some (.int .i64 x.ih.n) := HA.out 10 (by omega)
      have b10 : w4.cell? ⟨gb, 10, none⟩ = some (.int .i64 x.ih.n) := HB.out 10 (by omega)
      have a11 : w4.cell? ⟨ga, 11, none⟩ = some (.int .i64 x.ih.d) := HA.out 11 (by omega)
      have b11 : w4.cell? ⟨gb, 11, none⟩ = some (.int .i64 x.ih.d) := HB.out 11 (by omega)
      have a12 : w4.cell? ⟨ga, 12, none⟩ = some (.int .i64 x.ih.lo) := HA.out 12 (by omega)
      have b12 : w4.cell? ⟨gb, 12, none⟩ = some (.int .i64 x.ih.lo) := HB.out 12 (by omega)
      have a13 : w4.cell? ⟨ga, 13, none⟩ = some (.int .i64 x.ih.hi) := HA.out 13 (by omega)
      have b13 : w4.cell? ⟨gb, 13, none⟩ = some (.int .i64 x.ih.hi) := HB.out 13 (by omega)
      have a14 : w4.cell? ⟨ga, 14, none⟩ = some (.int .i64 x.gap) := HA.out 14 (by omega)
      have b14 : w4.cell? ⟨gb, 14, none⟩ = some (.int .i64 x.gap) := HB.out 14 (by omega)
      have a15 : w4.cell? ⟨ga, 15, none⟩ = some (.int .i64 x.p0) := HA.out 15 (by omega)
      have b15 : w4.cell? ⟨gb, 15, none⟩ = some (.int .i64 x.p0) := HB.out 15 (by omega)
      have a16 : w4.cell? ⟨ga, 16, none⟩ = some (.int .i64 x.p1) := HA.out 16 (by omega)
      have b16 : w4.cell? ⟨gb, 16, none⟩ = some (.int .i64 x.p1) := HB.out 16 (by omega)
      have a17 : w4.cell? ⟨ga, 17, none⟩ = some (.int .i64 x.p2) := HA.out 17 (by omega)
      have b17 : w4.cell? ⟨gb, 17, none⟩ = some (.int .i64 x.p2) := HB.out 17 (by omega)
      have a18 : w4.cell? ⟨ga, 18, none⟩ = some (.int .i64 x.p3) := HA.out 18 (by omega)
      have b18 : w4.cell? ⟨gb, 18, none⟩ = some (.int .i64 x.p3) := HB.out 18 (by omega)
      have a22 : w4.cell? ⟨ga, 22, none⟩ = some (.string x.text) := HA.out 22 (by omega)
      have b22 : w4.cell? ⟨gb, 22, none⟩ = some (.string x.text) := HB.out 22 (by omega)
      have a24 : w4.cell? ⟨ga, 24, none⟩ = some (.int .i32 x.fg) := HA.out 24 (by omega)
      have b24 : w4.cell? ⟨gb, 24, none⟩ = some (.int .i32 x.fg) := HB.out 24 (by omega)
      have a25 : w4.cell? ⟨ga, 25, none⟩ = some (.int .i32 x.bg) := HA.out 25 (by omega)
      have b25 : w4.cell? ⟨gb, 25, none⟩ = some (.int .i32 x.bg) := HB.out 25 (by omega)
      have a26 : w4.cell? ⟨ga, 26, none⟩ = some (.int .u8 x.add) := HA.out 26 (by omega)
      have b26 : w4.cell? ⟨gb, 26, none⟩ = some (.int .u8 x.add) := HB.out 26 (by omega)
      have a27 : w4.cell? ⟨ga, 27, none⟩ = some (.int .u8 x.drop) := HA.out 27 (by omega)
      have b27 : w4.cell? ⟨gb, 27, none⟩ = some (.int .u8 x.drop) := HB.out 27 (by omega)
      have a29 : w4.cell? ⟨ga, 29, none⟩ = some (.int .i64 x.x0) := HA.out 29 (by omega)
      have b29 : w4.cell? ⟨gb, 29, none⟩ = some (.int .i64 x.x0) := HB.out 29 (by omega)
      have a30 : w4.cell? ⟨ga, 30, none⟩ = some (.int .i64 x.x1) := HA.out 30 (by omega)
      have b30 : w4.cell? ⟨gb, 30, none⟩ = some (.int .i64 x.x1) := HB.out 30 (by omega)
      have a31 : w4.cell? ⟨ga, 31, none⟩ = some (.int .i64 x.x2) := HA.out 31 (by omega)
      have b31 : w4.cell? ⟨gb, 31, none⟩ = some (.int .i64 x.x2) := HB.out 31 (by omega)
      have a32 : w4.cell? ⟨ga, 32, none⟩ = some (.int .i64 x.x3) := HA.out 32 (by omega)
      have b32 : w4.cell? ⟨gb, 32, none⟩ = some (.int .i64 x.x3) := HB.out 32 (by omega)
      have a33 : w4.cell? ⟨ga, 33, none⟩ = some (.int .u8 x.flags) := HA.out 33 (by omega)
      have b33 : w4.cell? ⟨gb, 33, none⟩ = some (.int .u8 x.flags) := HB.out 33 (by omega)
      obtain ⟨pc, cc, rfl, hl2, hm2, -, -⟩ := HQ.out
      obtain ⟨pc', cc', rfl, hl2', hm2', -, -⟩ := HQ'.out
      have hcl : x.cols.length ≤ 9223372036854775807 := by omega
      clear hl2 hm2 hl2' hm2'
      go_upto_region 10 with (fail)
      clear a0 b0 a1 b1 a2 b2 a4 b4 a5 b5 a6 b6 a7 b7 a8 b8 a9 b9 a10 b10 a11 b11 a12 b12 a13 b13 a14 b14 a15 b15 a16 b16 a17 b17 a18 b18 a22 b22 a24 b24 a25 b25 a26 b26 a27 b27 a29 b29 a30 b30 a31 b31 a32 b32 a33 b33
      have a19 : w4.cell? ⟨ga, 19, none⟩ = some (.int .i8 x.border) := HA.out 19 (by omega)
      have b19 : w4.cell? ⟨gb, 19, none⟩ = some (.int .i8 x.border) := HB.out 19 (by omega)
      have a20 : w4.cell? ⟨ga, 20, none⟩ = some (.int .i8 x.align) := HA.out 20 (by omega)
      have b20 : w4.cell? ⟨gb, 20, none⟩ = some (.int .i8 x.align) := HB.out 20 (by omega)
      have a21 : w4.cell? ⟨ga, 21, none⟩ = some (.int .i8 x.cross) := HA.out 21 (by omega)
      have b21 : w4.cell? ⟨gb, 21, none⟩ = some (.int .i8 x.cross) := HB.out 21 (by omega)
      have a23 : w4.cell? ⟨ga, 23, none⟩ = some (.int .i8 x.wrap) := HA.out 23 (by omega)
      have b23 : w4.cell? ⟨gb, 23, none⟩ = some (.int .i8 x.wrap) := HB.out 23 (by omega)
      have a3 : w4.cell? ⟨ga, 3, none⟩ = some kv := HA.out 3 (by omega)
      have b3 : w4.cell? ⟨gb, 3, none⟩ = some kv' := HB.out 3 (by omega)
      go_wp2_with fail
      refine (same_Ints_any _ _ x.kids _ (HK.out.later HB4.out (Nat.le_refl _)) (HK'.out.later HB4.out (Nat.le_refl _))).mono ?_
      rintro e w5 ⟨rfl, hb5⟩
      have HB5 := Lib.hid hb5
      have zA : ga < w5.heap.size := by have := hb5.size; omega
      have zB : gb < w5.heap.size := by have := hb5.size; omega
      have CA : RowKit.Hid (w5.cell? ⟨ga, 28, none⟩ = some (.slice pc x.cols.length cc)) := Lib.hid (by rw [(bcell hb5).1 _ _ hgaw]; exact HA.out 28 (by omega))
      have CB : RowKit.Hid (w5.cell? ⟨gb, 28, none⟩ = some (.slice pc' x.cols.length cc')) := Lib.hid (by rw [(bcell hb5).1 _ _ hgbw]; exact HB.out 28 (by omega))
      have QA := Lib.hid (HQ.out.later (below_via hb5 HB4.out) (Nat.le_refl _))
      have QB := Lib.hid (HQ'.out.later (below_via hb5 HB4.out) (Nat.le_refl _))
      have BF5 := Lib.hid (below_via (below_via hb5 HB4.out) BW.out)
      have a28 := CA.out
      have b28 := CB.out
      clear hb5
      clear a19 b19 a20 b20 a21 b21 a23 b23
      clear a3 b3
      obtain ⟨wo, rfl⟩ : ∃ wo : World, wo = wr := ⟨_, rfl⟩
      go_wp2
      go_loopw [8] (fun i wq => ∃ k : Nat, k ≤ x.cols.length ∧ i = .int .i64 k ∧ RowKit.Hid (Below w5.heap.size w5 wq)) (fun i _ => x.cols.length - (intOf i).toNat)
      case atStart => exact ⟨0, Nat.zero_le _, rfl, Lib.hid (Below.refl _ _)⟩
      case round =>
        obtain ⟨k, hk, rfl, BQ⟩ := hrel
        have SQ := BQ.out.size
        have a28 : wr.cell? ⟨ga, 28, none⟩ = some (.slice pc x.cols.length cc) := by rw [(bcell BQ.out).1 _ _ zA]; exact CA.out
        have b28 : wr.cell? ⟨gb, 28, none⟩ = some (.slice pc' x.cols.length cc') := by rw [(bcell BQ.out).1 _ _ zB]; exact CB.out
        have y0 : ga < wr.heap.size := by omega
        have y1 : gb < wr.heap.size := by omega
        by_cases hlt : k < x.cols.length
        · have hki : (k : Int) < (x.cols.length : Int) := by omega
          obtain ⟨_, _, eq1, _, _, _, hcc⟩ := QA.out
          injection eq1 with eq1 _ eq2
          subst eq1 eq2
          obtain ⟨_, _, eq1, _, _, _, hdd⟩ := QB.out
          injection eq1 with eq1 _ eq2
          subst eq1 eq2
          obtain ⟨b, off, rfl, hb, hcc⟩ := hcc (by omega)
          obtain ⟨b', off', rfl, hb', hdd⟩ := hdd (by omega)
          have hbw : b < wr.heap.size := by omega
          have hbw' : b' < wr.heap.size := by omega
          have hcc := hcc k hlt
          have hdd := hdd k hlt
          generalize x.cols.getD k zIt = it at hcc hdd
          have i0 : wr.cell? ⟨b, off + k * 5, none⟩ = some (.int .i8 it.k) := by rw [(bcell BQ.out).1 _ _ hb]; exact hcc 0 (by omega)
          have j0 : wr.cell? ⟨b', off' + k * 5, none⟩ = some (.int .i8 it.k) := by rw [(bcell BQ.out).1 _ _ hb']; exact hdd 0 (by omega)
          have i1 : wr.cell? ⟨b, off + k * 5 + 1, none⟩ = some (.int .i64 it.n) := by rw [(bcell BQ.out).1 _ _ hb]; exact hcc 1 (by omega)
          have j1 : wr.cell? ⟨b', off' + k * 5 + 1, none⟩ = some (.int .i64 it.n) := by rw [(bcell BQ.out).1 _ _ hb']; exact hdd 1 (by omega)
          have i2 : wr.cell? ⟨b, off + k * 5 + 2, none⟩ = some (.int .i64 it.d) := by rw [(bcell BQ.out).1 _ _ hb]; exact hcc 2 (by omega)
          have j2 : wr.cell? ⟨b', off' + k * 5 + 2, none⟩ = some (.int .i64 it.d) := by rw [(bcell BQ.out).1 _ _ hb']; exact hdd 2 (by omega)
          have i3 : wr.cell? ⟨b, off + k * 5 + 3, none⟩ = some (.int .i64 it.lo) := by rw [(bcell BQ.out).1 _ _ hb]; exact hcc 3 (by omega)
          have j3 : wr.cell? ⟨b', off' + k * 5 + 3, none⟩ = some (.int .i64 it.lo) := by rw [(bcell BQ.out).1 _ _ hb']; exact hdd 3 (by omega)
          have i4 : wr.cell? ⟨b, off + k * 5 + 4, none⟩ = some (.int .i64 it.hi) := by rw [(bcell BQ.out).1 _ _ hb]; exact hcc 4 (by omega)
          have j4 : wr.cell? ⟨b', off' + k * 5 + 4, none⟩ = some (.int .i64 it.hi) := by rw [(bcell BQ.out).1 _ _ hb']; exact hdd 4 (by omega)
          clear hcc hdd
          go_upto_region 15 with (fail)
          go_quiet (fail)
          all_goals go_wp2
          go_roundw
          case rel => exact ⟨k + 1, by omega, by go_num, Lib.hid (below_drewN_ BQ.out _)⟩
          case measure => simp [intOf]; omega
        · obtain rfl : k = x.cols.length := by omega
          have BF6 := Lib.hid (below_via BQ.out BF5.out)
          clear hlt hk SQ
          go_wp2
          go_roundw
          case rel => exact ⟨j + 1, by omega, by go_num, BF6⟩
          case measure => simp [intOf]; omega
    · obtain rfl : j = T.length := by omega
      have BF := Lib.hid (below_via BW.out HB1.out)
      clear SW
      go_wp2
      go_ret
      exact ⟨rfl, BF.out⟩
end Go.Proofs.Ytcihihncgpddfaa
