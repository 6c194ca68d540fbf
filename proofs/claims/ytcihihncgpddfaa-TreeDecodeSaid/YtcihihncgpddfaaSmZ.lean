/- SmZ: SmA SmB SmC in one text. -/
import Derived.Test.YtcihihncgpddfaaLntA
import Derived.Deep.WholeRow
import Derived.Outline
import Derived.Laws.StructEq
import Derived.Test.YtcihihncgpddfaaTreV
import Derived.Test.YtcihihncgpddfaaHeld
namespace Go.Proofs.Ytcihihncgpddfaa
open Go.RowKit Go.Deep
set_option linter.unusedVariables false
set_option linter.unusedSimpArgs false

section
variable {P : Program}
theorem run_eq_four (w : World) (t e : TypeId) (K : IntKind) (ht : P.underlying t = some (.array 4 e)) (he : P.underlying e = some (.int K)) (hsz : ∀ w, (sizeOf e).run P w = .ok 1 w) (a b c d a' b' c' d' : Int) :
    (Op.equalIn 10000 t (.agg #[.int K a, .int K b, .int K c, .int K d]) (.agg #[.int K a', .int K b', .int K c', .int K d'])).run P w = .ok (a == a' && b == b' && c == c' && d == d') w := by
  rw [show (10000 : Nat) = 9998 + 2 by rfl, Op.equalIn]
  simp only [Sem.run_bind, run_underlying ht, Result.andThen_ok, hsz, Std.Legacy.Range.forIn_eq_forIn_range', Std.Legacy.Range.size, Nat.sub_zero, Nat.add_sub_cancel, Nat.div_one]
  rw [show List.range' 0 4 1 = [0, 1, 2, 3] by rfl]
  have pp : ∀ (x y z v : Int) (i : Nat), i < 4 → (part e #[.int K x, .int K y, .int K z, .int K v] i).run P w = .ok (#[Value.int K x, .int K y, .int K z, .int K v].getD i undef) w := by
    intro x y z v i hi
    simp [part, isAgg, run_underlying he]
    match i, hi with
    | 0, _ => rfl
    | 1, _ => rfl
    | 2, _ => rfl
    | 3, _ => rfl
  have pe : ∀ (x y : Int), (Op.equalIn (9998 + 1) e (.int K x) (.int K y)).run P w = .ok (x == y) w := fun x y => run_equalIn_int w 9998 e K K x y he
  have q0 := fun x y z v => pp x y z v 0 (by omega)
  have q1 := fun x y z v => pp x y z v 1 (by omega)
  have q2 := fun x y z v => pp x y z v 2 (by omega)
  have q3 := fun x y z v => pp x y z v 3 (by omega)
  simp at q0 q1 q2 q3
  cases h1 : (a == a') <;> cases h2 : (b == b') <;> cases h3 : (c == c') <;> cases h4 : (d == d') <;> simp [List.forIn_cons, Sem.run_bind, q0, q1, q2, q3, pe, h1, h2, h3, h4]
end
theorem eqFour (w : World) (a b c d a' b' c' d' : Int) : (Op.equalIn 10000 58 (.agg #[.int .i64 a, .int .i64 b, .int .i64 c, .int .i64 d]) (.agg #[.int .i64 a', .int .i64 b', .int .i64 c', .int .i64 d'])).run Try.prog w = .ok (a == a' && b == b' && c == c' && d == d') w :=
  run_eq_four w _ 3 .i64 Try.underlying58 Try.underlying3 (fun _ => by kernel_rfl) a b c d a' b' c' d'

theorem below_drewN_ {B : Nat} {a w : World} (h : Below B a w) (n : Nat) : Below B a (w.drewN n) := ⟨h.os, h.tape, h.output, h.size, h.block⟩
set_option maxRecDepth 100000 in
set_option maxHeartbeats 4000000 in
theorem same_Ints_any (v v' : Value) (L : List Int) (w : World) (h : IntsAt w v L) (h' : IntsAt w v' L) : Calls Try.prog 35 #[v, v'] w fun e w' => e = .returned (.bool true) ∧ Below w.heap.size w w' := by
  obtain ⟨p, c, rfl, hl, hm, _, hc⟩ := h
  obtain ⟨p', c', rfl, hl', hm', _, hc'⟩ := h'
  have hn : L.length ≤ 9223372036854775807 := by omega
  have HC := Lib.hid hc
  have HD := Lib.hid hc'
  clear hc hc'
  go_enter Try.func35, Try.ntmps35
  go_wp2
  go_loopw [5] (fun i wr => ∃ k : Nat, k ≤ L.length ∧ i = .int .i64 k ∧ Below w.heap.size w wr) (fun i _ => L.length - (intOf i).toNat)
  case atStart => exact ⟨0, Nat.zero_le _, rfl, Below.refl _ _⟩
  case round =>
    obtain ⟨k, hk, rfl, BW⟩ := hrel
    have SW := BW.size
    by_cases hlt : k < L.length
    · have hki : (k : Int) < (L.length : Int) := by omega
      obtain ⟨b, off, rfl, hb, hcc⟩ := HC.out (by omega)
      obtain ⟨b', off', rfl, hb', hcc'⟩ := HD.out (by omega)
      have c1 := hcc k hlt
      have c2 := hcc' k hlt
      rw [← (bcell BW).1 _ _ hb] at c1
      rw [← (bcell BW).1 _ _ hb'] at c2
      have hbw : b < wr.heap.size := by omega
      have hbw' : b' < wr.heap.size := by omega
      clear hcc hcc'
      generalize L.getD k 0 = x at c1 c2
      go_upto_region 6 with (fail)
      go_quiet (fail)
      all_goals go_wp2
      go_roundw
      case rel => exact ⟨k + 1, by omega, by go_num, below_drewN_ BW _⟩
      case measure => simp [intOf]; omega
    · obtain rfl : k = L.length := by omega
      clear hlt hk
      go_wp2
      go_ret
      exact ⟨rfl, BW⟩

theorem wpList_store_nodeB {ops : Array Oper} {rest : List Oper} {op : Oper} {a : Act} {w : World} {Q : Exit → Act → World → Prop} (hgd : op.guard = none) (x y : Operand) (ho : op.op = .store 64 x y) (zs : Array Value) (ty' : TypeId) (cs : List Value) (hx : a.eval x = .pointer (some ⟨w.heap.size, 0, none⟩)) (hy : a.eval y = .agg cs.toArray) (hz : zs.size = 34) (hl : cs.length = 34) (h1 : ∀ v ∈ cs, v.oneCell' = true)
    (h : ∀ w3 : World, RowKit.Hid (w3 = w.alloc (.cells cs.toArray ty')) → wpList Try.prog ops Q rest (a.put op.dst undef) w3) : wpList Try.prog ops Q (op :: rest) a (w.alloc (.cells zs ty')) := by
  refine wpList_store_row hgd _ x y ho w.heap.size cs.toArray hx hy ty' zs (heap_alloc_new _ _) (by rw [infoN]; simp [hl]) (by simp [hz, hl]) (all_oneCell_toArray h1) ?_
  rw [World.setRow_alloc_new]
  exact h _ (Lib.hid rfl)
set_option maxRecDepth 100000 in
set_option maxHeartbeats 16000000 in
theorem law_same_any (pt pu : Option Addr) (ct cu : Nat) (T : List Nd) (w : World) (hT : TreeAt w (.slice pt T.length ct) T) (hU : TreeAt w (.slice pu T.length cu) T) : Calls Try.prog 28 #[.agg #[.slice pt T.length ct], .agg #[.slice pu T.length cu]] w fun e w' => e = .returned (.bool true) ∧ Below w.heap.size w w' := by
  have eq4 := eqFour
  have hlen := hT.len
  obtain ⟨_, _, p, c, e, _, _, hn⟩ := hT
  injection e with e1 _ e3
  subst e1 e3
  obtain ⟨_, _, p, c, e, _, _, hm⟩ := hU
  injection e with e1 _ e3
  subst e1 e3
  obtain ⟨W1, hW1⟩ : ∃ x, x = (w.alloc (.cells #[.slice pt T.length ct] 24)).alloc (.cells #[.slice pu T.length cu] 24) := ⟨_, rfl⟩
  have B1 : Below w.heap.size w W1 := by rw [hW1]; exact below_al (below_al (Below.refl _ _) _) _
  have t0 : W1.cell? ⟨w.heap.size, 0, none⟩ = some (.slice pt T.length ct) := by rw [hW1]; simp [go_sem]
  have t1 : W1.cell? ⟨w.heap.size + 1, 0, none⟩ = some (.slice pu T.length cu) := by rw [hW1]; simp [go_sem]
  have z1 : w.heap.size + 1 < W1.heap.size := by rw [hW1]; simp
  have z0 : w.heap.size < W1.heap.size := by omega
  have HN := Lib.hid hn
  have HM := Lib.hid hm
  have HB1 := Lib.hid B1
  have HT0 := Lib.hid t0
  have HT1 := Lib.hid t1
  clear hn hm B1
  go_enter Try.func28, Try.ntmps28
  go_upto_region 1 with (fail)
  rw [← hW1]
  clear hW1
  go_wp2
  go_loopw [5] (fun iv wr => ∃ j : Nat, j ≤ T.length ∧ iv = .int .i64 j ∧ RowKit.Hid (Below W1.heap.size W1 wr)) (fun iv _ => T.length - (intOf iv).toNat)
  case atStart => exact ⟨0, Nat.zero_le _, rfl, Lib.hid (Below.refl _ _)⟩
  case round =>
    clear t0 t1
    obtain ⟨j, hj, rfl, BW⟩ := hrel
    have SW := BW.out.size
    have t0 : wr.cell? ⟨w.heap.size, 0, none⟩ = some (.slice pt T.length ct) := by rw [(bcell BW.out).1 _ _ z0]; exact HT0.out
    have t1 : wr.cell? ⟨w.heap.size + 1, 0, none⟩ = some (.slice pu T.length cu) := by rw [(bcell BW.out).1 _ _ z1]; exact HT1.out
    have y0 : w.heap.size < wr.heap.size := by omega
    have y1 : w.heap.size + 1 < wr.heap.size := by omega
    by_cases hlt : j < T.length
    · have hji : (j : Int) < (T.length : Int) := by omega
      obtain ⟨b, off, rfl, hb, hn⟩ := HN.out (by omega)
      obtain ⟨b', off', rfl, hb', hm⟩ := HM.out (by omega)
      have BWW := Lib.hid (below_via BW.out HB1.out)
      have hbw : b < wr.heap.size := by have := BWW.out.size; omega
      have hbw' : b' < wr.heap.size := by have := BWW.out.size; omega
      obtain ⟨kv, cv, hk, hq, hc⟩ := (hn j hlt).later BWW.out (Nat.le_refl _) hb
      obtain ⟨kv', cv', hk', hq', hc'⟩ := (hm j hlt).later BWW.out (Nat.le_refl _) hb'
      clear hn hm
      generalize T.getD j zNd = x at hk hq hc hk' hq' hc'
      have RNG0 := nd_range hc
      have ONE0 := ndV_one hk hq
      have LEN0 := ndV_len x kv cv
      have RNG1 := nd_range hc'
      have ONE1 := ndV_one hk' hq'
      have LEN1 := ndV_len x kv' cv'
      obtain ⟨cs, hcs⟩ : ∃ cs, cs = ndV x kv cv := ⟨_, rfl⟩
      obtain ⟨ds, hds⟩ : ∃ cs, cs = ndV x kv' cv' := ⟨_, rfl⟩
      rw [← hcs] at RNG0 ONE0 LEN0
      rw [← hds] at RNG1 ONE1 LEN1
      have RNG := Lib.hid RNG0
      have ONE := Lib.hid ONE0
      have LEN := Lib.hid LEN0
      have RNG' := Lib.hid RNG1
      have ONE' := Lib.hid ONE1
      have LEN' := Lib.hid LEN1
      have HK := Lib.hid hk
      have HQ := Lib.hid hq
      have HK' := Lib.hid hk'
      have HQ' := Lib.hid hq'
      have HCS := Lib.hid hcs
      have HDS := Lib.hid hds
      clear hc hc' RNG0 ONE0 LEN0 RNG1 ONE1 LEN1 hk hq hk' hq' hcs hds
      go_wp2_with (first | ((with_reducible refine wpList_load_node ?g1 (.tmp 26) ?g2 b (off + j * 34) ?g3 cs LEN.out RNG.out ?_); (case g1 => rfl); (case g2 => rfl); (case g3 => rfl)) | ((with_reducible refine wpList_store_node ?g1 (.tmp 6) (.tmp 27) ?g2 _ _ cs ?g3 ?g4 ?g5 LEN.out ONE.out ?_); (case g1 => rfl); (case g2 => rfl); (case g3 => rfl); (case g4 => rfl); (case g5 => rfl)))
      intro w3 hb3 hz3 hr3
      have t1 : w3.cell? ⟨w.heap.size + 1, 0, none⟩ = some (.slice (some ⟨b', off', none⟩) T.length cu) := by rw [(bcell hb3).1 _ _ y1]; exact t1
      have hbw3 : b' < w3.heap.size := by omega
      have y1 : w.heap.size + 1 < w3.heap.size := by omega
      have RNG3 : RowKit.Hid (w3.rangeAt b' (off' + j * 34) ds) := Lib.hid (fun i v hv => by rw [(bcell hb3).1 _ _ hbw']; exact RNG'.out i v hv)
      have HB3 := Lib.hid hb3
      have HR3 := Lib.hid hr3
      clear hb3 hr3 RNG RNG' y0 t0
      go_wp2_with (first | ((with_reducible refine wpList_load_node ?g1 (.tmp 31) ?g2 b' (off' + j * 34) ?g3 ds LEN'.out RNG3.out ?_); (case g1 => rfl); (case g2 => rfl); (case g3 => rfl)) | ((with_reducible refine wpList_store_node ?g1 (.tmp 7) (.tmp 32) ?g2 _ _ ds ?g3 ?g4 ?g5 LEN'.out ONE'.out ?_); (case g1 => rfl); (case g2 => rfl); (case g3 => rfl); (case g4 => rfl); (case g5 => rfl)))
      intro w4 hb4 hz4 hr4
      have HA : RowKit.Hid (∀ i, i < 34 → w4.cell? ⟨wr.heap.size, i, none⟩ = (ndV x kv cv)[i]?) := Lib.hid (fun i hi => by
        have hl : i < cs.length := by rw [LEN.out]; exact hi
        rw [(bcell hb4).1 _ _ hz3, ← HCS.out, List.getElem?_eq_getElem hl]
        have := HR3.out i cs[i] (List.getElem?_eq_getElem hl)
        rwa [Nat.zero_add] at this)
      have HB : RowKit.Hid (∀ i, i < 34 → w4.cell? ⟨w3.heap.size, i, none⟩ = (ndV x kv' cv')[i]?) := Lib.hid (fun i hi => by
        have hl : i < ds.length := by rw [LEN'.out]; exact hi
        rw [← HDS.out, List.getElem?_eq_getElem hl]
        have := hr4 i ds[i] (List.getElem?_eq_getElem hl)
        rwa [Nat.zero_add] at this)
      have HB4 := Lib.hid (below_via hb4 HB3.out)
      have hz5 : wr.heap.size < w4.heap.size := by have := HB4.out.size; omega
      obtain ⟨ga, hga⟩ : ∃ g, g = wr.heap.size := ⟨_, rfl⟩
      obtain ⟨gb, hgb⟩ : ∃ g, g = w3.heap.size := ⟨_, rfl⟩
      rw [← hga] at HA hz5
      rw [← hgb] at HB hz4
      have hgaw : ga < w4.heap.size := hz5
      have hgbw : gb < w4.heap.size := hz4
      rw [← hga, ← hgb]
      have HGA := Lib.hid hga
      clear hb4 hr4 HR3 RNG3 hga hgb t1 y1 hz3 hz4 hz5 hbw3
      have a0 : w4.cell? ⟨ga, 0, none⟩ = some (.int .i8 x.kind) := HA.out 0 (by omega)
      have b0 : w4.cell? ⟨gb, 0, none⟩ = some (.int .i8 x.kind) := HB.out 0 (by omega)
      have a1 : w4.cell? ⟨ga, 1, none⟩ = some (.string x.id) := HA.out 1 (by omega)
      have b1 : w4.cell? ⟨gb, 1, none⟩ = some (.string x.id) := HB.out 1 (by omega)
      have a2 : w4.cell? ⟨ga, 2, none⟩ = some (.string x.cls) := HA.out 2 (by omega)
      have b2 : w4.cell? ⟨gb, 2, none⟩ = some (.string x.cls) := HB.out 2 (by omega)
      have a4 : w4.cell? ⟨ga, 4, none⟩ = some (.int .i8 x.iw.k) := HA.out 4 (by omega)
      have b4 : w4.cell? ⟨gb, 4, none⟩ = some (.int .i8 x.iw.k) := HB.out 4 (by omega)
      have a5 : w4.cell? ⟨ga, 5, none⟩ = some (.int .i64 x.iw.n) := HA.out 5 (by omega)
      have b5 : w4.cell? ⟨gb, 5, none⟩ = some (.int .i64 x.iw.n) := HB.out 5 (by omega)
      have a6 : w4.cell? ⟨ga, 6, none⟩ = some (.int .i64 x.iw.d) := HA.out 6 (by omega)
      have b6 : w4.cell? ⟨gb, 6, none⟩ = some (.int .i64 x.iw.d) := HB.out 6 (by omega)
      have a7 : w4.cell? ⟨ga, 7, none⟩ = some (.int .i64 x.iw.lo) := HA.out 7 (by omega)
      have b7 : w4.cell? ⟨gb, 7, none⟩ = some (.int .i64 x.iw.lo) := HB.out 7 (by omega)
      have a8 : w4.cell? ⟨ga, 8, none⟩ = some (.int .i64 x.iw.hi) := HA.out 8 (by omega)
      have b8 : w4.cell? ⟨gb, 8, none⟩ = some (.int .i64 x.iw.hi) := HB.out 8 (by omega)
      have a9 : w4.cell? ⟨ga, 9, none⟩ = some (.int .i8 x.ih.k) := HA.out 9 (by omega)
      have b9 : w4.cell? ⟨gb, 9, none⟩ = some (.int .i8 x.ih.k) := HB.out 9 (by omega)
      have a10 : w4.cell? ⟨ga, 10, none⟩ = some (.int .i64 x.ih.n) := HA.out 10 (by omega)
      have b10 : w4.cell? ⟨gb, 10, none⟩ = some (.int .i64 x.ih.n) := HB.out 10 (by omega)
      have a11 : w4.cell? ⟨ga, 11, none⟩ = some (.int .i64 x.ih.d) := HA.out 11 (by omega)
      have b11 : w4.cell? ⟨gb, 11, none⟩ = some (.int .i64 x.ih.d) := HB.out 11 (by omega)
      have a12 : w4.cell? ⟨ga, 12, none⟩ = some (.int .i64 x.ih.lo) := HA.out 12 (by omega)
      have b12 : w4.cell? ⟨gb, 12, none⟩ = some (.int .i64 x.ih.lo) := HB.out 12 (by omega)
      have a13 : w4.cell? ⟨ga, 13, none⟩ = some (.int .i64 x.ih.hi) := HA.out 13 (by omega)
      have b13 : w4.cell? ⟨gb, 13, none⟩ = some (.int .i64 x.ih.hi) := HB.out 13 (by omega)
      have a14 : w4.cell? ⟨ga, 14, none⟩ = some (.int .i64 x.gap) := HA.out 14 (by omega)
      have b14 : w4.cell? ⟨gb, 14, none⟩ = some (.int .i64 x.gap) := HB.out 14 (by omega)
      have a15 : w4.cell? ⟨ga, 15, none⟩ = some (.int .i64 x.p0) := HA.out 15 (by omega)
      have b15 : w4.cell? ⟨gb, 15, none⟩ = some (.int .i64 x.p0) := HB.out 15 (by omega)
      have a16 : w4.cell? ⟨ga, 16, none⟩ = some (.int .i64 x.p1) := HA.out 16 (by omega)
      have b16 : w4.cell? ⟨gb, 16, none⟩ = some (.int .i64 x.p1) := HB.out 16 (by omega)
      have a17 : w4.cell? ⟨ga, 17, none⟩ = some (.int .i64 x.p2) := HA.out 17 (by omega)
      have b17 : w4.cell? ⟨gb, 17, none⟩ = some (.int .i64 x.p2) := HB.out 17 (by omega)
      have a18 : w4.cell? ⟨ga, 18, none⟩ = some (.int .i64 x.p3) := HA.out 18 (by omega)
      have b18 : w4.cell? ⟨gb, 18, none⟩ = some (.int .i64 x.p3) := HB.out 18 (by omega)
      have a22 : w4.cell? ⟨ga, 22, none⟩ = some (.string x.text) := HA.out 22 (by omega)
      have b22 : w4.cell? ⟨gb, 22, none⟩ = some (.string x.text) := HB.out 22 (by omega)
      have a24 : w4.cell? ⟨ga, 24, none⟩ = some (.int .i32 x.fg) := HA.out 24 (by omega)
      have b24 : w4.cell? ⟨gb, 24, none⟩ = some (.int .i32 x.fg) := HB.out 24 (by omega)
      have a25 : w4.cell? ⟨ga, 25, none⟩ = some (.int .i32 x.bg) := HA.out 25 (by omega)
      have b25 : w4.cell? ⟨gb, 25, none⟩ = some (.int .i32 x.bg) := HB.out 25 (by omega)
      have a26 : w4.cell? ⟨ga, 26, none⟩ = some (.int .u8 x.add) := HA.out 26 (by omega)
      have b26 : w4.cell? ⟨gb, 26, none⟩ = some (.int .u8 x.add) := HB.out 26 (by omega)
      have a27 : w4.cell? ⟨ga, 27, none⟩ = some (.int .u8 x.drop) := HA.out 27 (by omega)
      have b27 : w4.cell? ⟨gb, 27, none⟩ = some (.int .u8 x.drop) := HB.out 27 (by omega)
      have a29 : w4.cell? ⟨ga, 29, none⟩ = some (.int .i64 x.x0) := HA.out 29 (by omega)
      have b29 : w4.cell? ⟨gb, 29, none⟩ = some (.int .i64 x.x0) := HB.out 29 (by omega)
      have a30 : w4.cell? ⟨ga, 30, none⟩ = some (.int .i64 x.x1) := HA.out 30 (by omega)
      have b30 : w4.cell? ⟨gb, 30, none⟩ = some (.int .i64 x.x1) := HB.out 30 (by omega)
      have a31 : w4.cell? ⟨ga, 31, none⟩ = some (.int .i64 x.x2) := HA.out 31 (by omega)
      have b31 : w4.cell? ⟨gb, 31, none⟩ = some (.int .i64 x.x2) := HB.out 31 (by omega)
      have a32 : w4.cell? ⟨ga, 32, none⟩ = some (.int .i64 x.x3) := HA.out 32 (by omega)
      have b32 : w4.cell? ⟨gb, 32, none⟩ = some (.int .i64 x.x3) := HB.out 32 (by omega)
      have a33 : w4.cell? ⟨ga, 33, none⟩ = some (.int .u8 x.flags) := HA.out 33 (by omega)
      have b33 : w4.cell? ⟨gb, 33, none⟩ = some (.int .u8 x.flags) := HB.out 33 (by omega)
      obtain ⟨pc, cc, rfl, hl2, hm2, -, -⟩ := HQ.out
      obtain ⟨pc', cc', rfl, hl2', hm2', -, -⟩ := HQ'.out
      have hcl : x.cols.length ≤ 9223372036854775807 := by omega
      clear hl2 hm2 hl2' hm2'
      go_upto_region 10 with (fail)
      clear a0 b0 a1 b1 a2 b2 a4 b4 a5 b5 a6 b6 a7 b7 a8 b8 a9 b9 a10 b10 a11 b11 a12 b12 a13 b13 a14 b14 a15 b15 a16 b16 a17 b17 a18 b18 a22 b22 a24 b24 a25 b25 a26 b26 a27 b27 a29 b29 a30 b30 a31 b31 a32 b32 a33 b33
      have a19 : w4.cell? ⟨ga, 19, none⟩ = some (.int .i8 x.border) := HA.out 19 (by omega)
      have b19 : w4.cell? ⟨gb, 19, none⟩ = some (.int .i8 x.border) := HB.out 19 (by omega)
      have a20 : w4.cell? ⟨ga, 20, none⟩ = some (.int .i8 x.align) := HA.out 20 (by omega)
      have b20 : w4.cell? ⟨gb, 20, none⟩ = some (.int .i8 x.align) := HB.out 20 (by omega)
      have a21 : w4.cell? ⟨ga, 21, none⟩ = some (.int .i8 x.cross) := HA.out 21 (by omega)
      have b21 : w4.cell? ⟨gb, 21, none⟩ = some (.int .i8 x.cross) := HB.out 21 (by omega)
      have a23 : w4.cell? ⟨ga, 23, none⟩ = some (.int .i8 x.wrap) := HA.out 23 (by omega)
      have b23 : w4.cell? ⟨gb, 23, none⟩ = some (.int .i8 x.wrap) := HB.out 23 (by omega)
      have a3 : w4.cell? ⟨ga, 3, none⟩ = some kv := HA.out 3 (by omega)
      have b3 : w4.cell? ⟨gb, 3, none⟩ = some kv' := HB.out 3 (by omega)
      go_wp2_with fail
      refine (same_Ints_any _ _ x.kids _ (HK.out.later HB4.out (Nat.le_refl _)) (HK'.out.later HB4.out (Nat.le_refl _))).mono ?_
      rintro e w5 ⟨rfl, hb5⟩
      have HB5 := Lib.hid hb5
      have zA : ga < w5.heap.size := by have := hb5.size; omega
      have zB : gb < w5.heap.size := by have := hb5.size; omega
      have CA : RowKit.Hid (w5.cell? ⟨ga, 28, none⟩ = some (.slice pc x.cols.length cc)) := Lib.hid (by rw [(bcell hb5).1 _ _ hgaw]; exact HA.out 28 (by omega))
      have CB : RowKit.Hid (w5.cell? ⟨gb, 28, none⟩ = some (.slice pc' x.cols.length cc')) := Lib.hid (by rw [(bcell hb5).1 _ _ hgbw]; exact HB.out 28 (by omega))
      have QA := Lib.hid (HQ.out.later (below_via hb5 HB4.out) (Nat.le_refl _))
      have QB := Lib.hid (HQ'.out.later (below_via hb5 HB4.out) (Nat.le_refl _))
      have BF5 := Lib.hid (below_via (below_via hb5 HB4.out) BW.out)
      have a28 := CA.out
      have b28 := CB.out
      clear hb5
      clear a19 b19 a20 b20 a21 b21 a23 b23
      clear a3 b3
      obtain ⟨wo, rfl⟩ : ∃ wo : World, wo = wr := ⟨_, rfl⟩
      go_wp2
      go_loopw [8] (fun i wq => ∃ k : Nat, k ≤ x.cols.length ∧ i = .int .i64 k ∧ RowKit.Hid (Below w5.heap.size w5 wq)) (fun i _ => x.cols.length - (intOf i).toNat)
      case atStart => exact ⟨0, Nat.zero_le _, rfl, Lib.hid (Below.refl _ _)⟩
      case round =>
        obtain ⟨k, hk, rfl, BQ⟩ := hrel
        have SQ := BQ.out.size
        have a28 : wr.cell? ⟨ga, 28, none⟩ = some (.slice pc x.cols.length cc) := by rw [(bcell BQ.out).1 _ _ zA]; exact CA.out
        have b28 : wr.cell? ⟨gb, 28, none⟩ = some (.slice pc' x.cols.length cc') := by rw [(bcell BQ.out).1 _ _ zB]; exact CB.out
        have y0 : ga < wr.heap.size := by omega
        have y1 : gb < wr.heap.size := by omega
        by_cases hlt : k < x.cols.length
        · have hki : (k : Int) < (x.cols.length : Int) := by omega
          obtain ⟨_, _, eq1, _, _, _, hcc⟩ := QA.out
          injection eq1 with eq1 _ eq2
          subst eq1 eq2
          obtain ⟨_, _, eq1, _, _, _, hdd⟩ := QB.out
          injection eq1 with eq1 _ eq2
          subst eq1 eq2
          obtain ⟨b, off, rfl, hb, hcc⟩ := hcc (by omega)
          obtain ⟨b', off', rfl, hb', hdd⟩ := hdd (by omega)
          have hbw : b < wr.heap.size := by omega
          have hbw' : b' < wr.heap.size := by omega
          have hcc := hcc k hlt
          have hdd := hdd k hlt
          generalize x.cols.getD k zIt = it at hcc hdd
          have i0 : wr.cell? ⟨b, off + k * 5, none⟩ = some (.int .i8 it.k) := by rw [(bcell BQ.out).1 _ _ hb]; exact hcc 0 (by omega)
          have j0 : wr.cell? ⟨b', off' + k * 5, none⟩ = some (.int .i8 it.k) := by rw [(bcell BQ.out).1 _ _ hb']; exact hdd 0 (by omega)
          have i1 : wr.cell? ⟨b, off + k * 5 + 1, none⟩ = some (.int .i64 it.n) := by rw [(bcell BQ.out).1 _ _ hb]; exact hcc 1 (by omega)
          have j1 : wr.cell? ⟨b', off' + k * 5 + 1, none⟩ = some (.int .i64 it.n) := by rw [(bcell BQ.out).1 _ _ hb']; exact hdd 1 (by omega)
          have i2 : wr.cell? ⟨b, off + k * 5 + 2, none⟩ = some (.int .i64 it.d) := by rw [(bcell BQ.out).1 _ _ hb]; exact hcc 2 (by omega)
          have j2 : wr.cell? ⟨b', off' + k * 5 + 2, none⟩ = some (.int .i64 it.d) := by rw [(bcell BQ.out).1 _ _ hb']; exact hdd 2 (by omega)
          have i3 : wr.cell? ⟨b, off + k * 5 + 3, none⟩ = some (.int .i64 it.lo) := by rw [(bcell BQ.out).1 _ _ hb]; exact hcc 3 (by omega)
          have j3 : wr.cell? ⟨b', off' + k * 5 + 3, none⟩ = some (.int .i64 it.lo) := by rw [(bcell BQ.out).1 _ _ hb']; exact hdd 3 (by omega)
          have i4 : wr.cell? ⟨b, off + k * 5 + 4, none⟩ = some (.int .i64 it.hi) := by rw [(bcell BQ.out).1 _ _ hb]; exact hcc 4 (by omega)
          have j4 : wr.cell? ⟨b', off' + k * 5 + 4, none⟩ = some (.int .i64 it.hi) := by rw [(bcell BQ.out).1 _ _ hb']; exact hdd 4 (by omega)
          clear hcc hdd
          go_upto_region 15 with (fail)
          go_quiet (fail)
          all_goals go_wp2
          go_roundw
          case rel => exact ⟨k + 1, by omega, by go_num, Lib.hid (below_drewN_ BQ.out _)⟩
          case measure => simp [intOf]; omega
        · obtain rfl : k = x.cols.length := by omega
          have BF6 := Lib.hid (below_via BQ.out BF5.out)
          clear hlt hk SQ
          go_wp2
          go_roundw
          case rel => exact ⟨j + 1, by omega, by go_num, BF6⟩
          case measure => simp [intOf]; omega
    · obtain rfl : j = T.length := by omega
      have BF := Lib.hid (below_via BW.out HB1.out)
      clear SW
      go_wp2
      go_ret
      exact ⟨rfl, BF.out⟩
end Go.Proofs.Ytcihihncgpddfaa
namespace Go.Proofs.Ytcihihncgpddfaa
open Go.RowKit Go.Deep
set_option linter.unusedVariables false
set_option linter.unusedSimpArgs false

def wgt (x : Nd) : Nat := 1 + x.id.size + x.cls.size + x.text.size + x.kids.length + x.cols.length
def sumW (T : List Nd) : Nat := (T.map wgt).sum
theorem sumW_snoc {T : List Nd} {k : Nat} (h : k < T.length) : sumW (T.take (k + 1)) = sumW (T.take k) + wgt (T.getD k zNd) := by
  unfold sumW
  rw [List.take_succ_eq_append_getElem h, List.map_append, List.sum_append, List.getD_eq_getElem?_getD, List.getElem?_eq_getElem h]
  simp
theorem sumW_le (T : List Nd) (k : Nat) : sumW (T.take k) ≤ sumW T := by
  have e : sumW T = sumW (T.take k) + sumW (T.drop k) := by
    unfold sumW
    rw [← List.sum_append, ← List.map_append, List.take_append_drop]
  omega
theorem sumW_mem {T : List Nd} : ∀ {x : Nd}, x ∈ T → wgt x ≤ sumW T := by
  induction T with
  | nil => intro x h; cases h
  | cons a T ih =>
    intro x h
    have e : sumW (a :: T) = wgt a + sumW T := by simp [sumW]
    rcases List.mem_cons.1 h with rfl | h
    · omega
    · have := ih h; omega
theorem sumW_len (T : List Nd) : T.length ≤ sumW T := by
  induction T with
  | nil => exact Nat.zero_le _
  | cons a T ih =>
    have e : sumW (a :: T) = wgt a + sumW T := by simp [sumW]
    have : 1 ≤ wgt a := by unfold wgt; omega
    simp only [List.length_cons]; omega
set_option maxRecDepth 100000 in
set_option maxHeartbeats 8000000 in
theorem beyond_any (p : Option Addr) (c : Nat) (T : List Nd) (w : World) (hT : TreeAt w (.slice p T.length c) T) (hD : ∀ x ∈ T, NdDeep x) : Calls Try.prog 13 #[.agg #[.slice p T.length c]] w fun e w' => e = .returned (.bool (decide (134217728 < sumW T))) ∧ Below w.heap.size w w' := by
  have hlen := hT.len
  obtain ⟨_, _, p1, c1, e, _, _, hn⟩ := hT
  injection e with e1 _ e3
  subst e1 e3
  obtain ⟨W1, hW1⟩ : ∃ x, x = w.alloc (.cells #[.slice p T.length c] 24) := ⟨_, rfl⟩
  have B1 : Below w.heap.size w W1 := by rw [hW1]; exact below_al (Below.refl _ _) _
  have t0 : W1.cell? ⟨w.heap.size, 0, none⟩ = some (.slice p T.length c) := by rw [hW1]; simp [go_sem]
  have z0 : w.heap.size < W1.heap.size := by rw [hW1]; simp
  have HN := Lib.hid hn
  have HB1 := Lib.hid B1
  have HT0 := Lib.hid t0
  have HD := Lib.hid hD
  obtain ⟨r, hr⟩ : ∃ r, r = decide (134217728 < sumW T) := ⟨_, rfl⟩
  rw [← hr]
  have HR := Lib.hid hr
  clear hn B1 hD hr
  go_enter Try.func13, Try.ntmps13
  go_upto_region 1 with (fail)
  rw [← hW1]
  clear hW1
  go_wp2
  go_loopw [3, 4] (fun nv iv wr => ∃ j m : Nat, j ≤ T.length ∧ iv = .int .i64 j ∧ nv = .int .i64 m ∧ RowKit.Hid (m = sumW (T.take j)) ∧ m ≤ 134217728 ∧ RowKit.Hid (Below W1.heap.size W1 wr)) (fun _ iv _ => T.length - (intOf iv).toNat)
  case atStart => exact ⟨0, 0, Nat.zero_le _, rfl, rfl, Lib.hid rfl, by omega, Lib.hid (Below.refl _ _)⟩
  case round =>
    clear t0
    obtain ⟨j, m, hj, rfl, rfl, HS, hm, BW⟩ := hrel
    have SW := BW.out.size
    have t0 : wr.cell? ⟨w.heap.size, 0, none⟩ = some (.slice p T.length c) := by rw [(bcell BW.out).1 _ _ z0]; exact HT0.out
    have y0 : w.heap.size < wr.heap.size := by omega
    by_cases hlt : j < T.length
    · have hji : (j : Int) < (T.length : Int) := by omega
      obtain ⟨b, off, rfl, hb, hn⟩ := HN.out (by omega)
      have BWW := Lib.hid (below_via BW.out HB1.out)
      have hbw : b < wr.heap.size := by have := BWW.out.size; omega
      obtain ⟨kv, cv, hk, hq, hc⟩ := (hn j hlt).later BWW.out (Nat.le_refl _) hb
      have hdx : NdDeep (T.getD j zNd) := HD.out _ (by rw [List.getD_eq_getElem?_getD, List.getElem?_eq_getElem hlt]; exact List.getElem_mem hlt)
      have hsn := sumW_snoc hlt
      clear hn
      generalize T.getD j zNd = x at hk hq hc hdx hsn
      have RNG0 := nd_range hc
      have ONE0 := ndV_one hk hq
      have LEN0 := ndV_len x kv cv
      obtain ⟨pk, ck, rfl, -⟩ := hk
      obtain ⟨pc, cc, rfl, -⟩ := hq
      obtain ⟨cs, hcs⟩ : ∃ cs, cs = ndV x (.slice pk x.kids.length ck) (.slice pc x.cols.length cc) := ⟨_, rfl⟩
      rw [← hcs] at RNG0 ONE0 LEN0
      have RNG := Lib.hid RNG0
      have ONE := Lib.hid ONE0
      have LEN := Lib.hid LEN0
      have HCS := Lib.hid hcs
      have d1 := hdx.kids
      have d2 := hdx.cols
      have d3 := hdx.id
      have d4 := hdx.cls
      have d5 := hdx.text
      have HSN := Lib.hid hsn
      clear hc RNG0 ONE0 LEN0 hcs hdx hsn
      go_wp2_with (first | ((with_reducible refine wpList_load_node ?g1 (.tmp 16) ?g2 b (off + j * 34) ?g3 cs LEN.out RNG.out ?_); (case g1 => rfl); (case g2 => rfl); (case g3 => rfl)) | ((with_reducible refine wpList_store_node ?g1 (.tmp 5) (.tmp 17) ?g2 _ _ cs ?g3 ?g4 ?g5 LEN.out ONE.out ?_); (case g1 => rfl); (case g2 => rfl); (case g3 => rfl); (case g4 => rfl); (case g5 => rfl)))
      intro w3 hb3 hz3 hr3
      have a1 : w3.cell? ⟨wr.heap.size, 1, none⟩ = some (.string x.id) := by have := hr3 1 (.string x.id) (by rw [HCS.out]; rfl); rwa [Nat.zero_add] at this
      have a2 : w3.cell? ⟨wr.heap.size, 2, none⟩ = some (.string x.cls) := by have := hr3 2 (.string x.cls) (by rw [HCS.out]; rfl); rwa [Nat.zero_add] at this
      have a22 : w3.cell? ⟨wr.heap.size, 22, none⟩ = some (.string x.text) := by have := hr3 22 (.string x.text) (by rw [HCS.out]; rfl); rwa [Nat.zero_add] at this
      have a3 : w3.cell? ⟨wr.heap.size, 3, none⟩ = some (.slice pk x.kids.length ck) := by have := hr3 3 (.slice pk x.kids.length ck) (by rw [HCS.out]; rfl); rwa [Nat.zero_add] at this
      have a28 : w3.cell? ⟨wr.heap.size, 28, none⟩ = some (.slice pc x.cols.length cc) := by have := hr3 28 (.slice pc x.cols.length cc) (by rw [HCS.out]; rfl); rwa [Nat.zero_add] at this
      have BF := Lib.hid (below_via hb3 BW.out)
      clear hr3 hb3
      by_cases hbig : 134217728 < m + wgt x
      · have HBIG := Lib.hid hbig
        have hgt : (134217728 : Int) < (m : Int) + 1 + (x.id.size : Int) + (x.cls.size : Int) + (x.text.size : Int) + (x.kids.length : Int) + (x.cols.length : Int) := by unfold wgt at hbig; omega
        have HRT := Lib.hid (show r = true by
          rw [HR.out, decide_eq_true_eq]
          have h1 := sumW_le T (j + 1)
          rw [HSN.out, ← HS.out] at h1
          have := HBIG.out
          omega)
        clear hbig
        go_wp2
        go_ret
        exact ⟨ret_bool HRT.out.symm, below_via BF.out HB1.out⟩
      · have hle : m + wgt x ≤ 134217728 := by omega
        have hgt : ¬ (134217728 : Int) < (m : Int) + 1 + (x.id.size : Int) + (x.cls.size : Int) + (x.text.size : Int) + (x.kids.length : Int) + (x.cols.length : Int) := by unfold wgt at hbig; omega
        have hgt2 : ((m : Int) + 1 + (x.id.size : Int) + (x.cls.size : Int) + (x.text.size : Int) + (x.kids.length : Int) + (x.cols.length : Int)) = ((m + wgt x : Nat) : Int) := by unfold wgt; omega
        have HLE := Lib.hid hle
        have HG2 := Lib.hid hgt2
        have HS2 := Lib.hid (show m + wgt x = sumW (T.take (j + 1)) by rw [HSN.out, ← HS.out])
        clear hbig hle hgt2
        go_wp2
        go_roundw
        case rel => exact ⟨j + 1, m + wgt x, by omega, by go_num, by rw [HG2.out], HS2, HLE.out, BF⟩
        case measure => simp [intOf]; omega
    · obtain rfl : j = T.length := by omega
      have BF := Lib.hid (below_via BW.out HB1.out)
      have HRT := Lib.hid (show r = false by
        rw [HR.out, decide_eq_false_iff_not]
        have := HS.out
        rw [List.take_length] at this
        omega)
      clear SW
      go_wp2
      go_ret
      exact ⟨ret_bool HRT.out.symm, BF.out⟩
end Go.Proofs.Ytcihihncgpddfaa
namespace Go.Proofs.Ytcihihncgpddfaa
open Go.RowKit Go.Deep
set_option linter.unusedVariables false
set_option linter.unusedSimpArgs false

set_option maxRecDepth 100000 in
set_option maxHeartbeats 4000000 in
theorem ref_ints_any (v v' : Value) (L : List Int) (w : World) (h : IntsAt w v L) (h' : IntsAt w v' L) : Calls Try.prog 109 #[v, v'] w fun e w' => e = .returned (.bool true) ∧ Below w.heap.size w w' := by
  obtain ⟨p, c, rfl, hl, hm, _, hc⟩ := h
  obtain ⟨p', c', rfl, hl', hm', _, hc'⟩ := h'
  have hn : L.length ≤ 9223372036854775807 := by omega
  have HC := Lib.hid hc
  have HD := Lib.hid hc'
  clear hc hc'
  go_enter Try.func109, Try.ntmps109
  go_wp2
  go_loopw [5] (fun i wr => ∃ k : Nat, k ≤ L.length ∧ i = .int .i64 k ∧ Below w.heap.size w wr) (fun i _ => L.length - (intOf i).toNat)
  case atStart => exact ⟨0, Nat.zero_le _, rfl, Below.refl _ _⟩
  case round =>
    obtain ⟨k, hk, rfl, BW⟩ := hrel
    have SW := BW.size
    by_cases hlt : k < L.length
    · have hki : (k : Int) < (L.length : Int) := by omega
      obtain ⟨b, off, rfl, hb, hcc⟩ := HC.out (by omega)
      obtain ⟨b', off', rfl, hb', hcc'⟩ := HD.out (by omega)
      have c1 := hcc k hlt
      have c2 := hcc' k hlt
      rw [← (bcell BW).1 _ _ hb] at c1
      rw [← (bcell BW).1 _ _ hb'] at c2
      have hbw : b < wr.heap.size := by omega
      have hbw' : b' < wr.heap.size := by omega
      clear hcc hcc'
      generalize L.getD k 0 = x at c1 c2
      go_upto_region 6 with (fail)
      go_quiet (fail)
      all_goals go_wp2
      go_roundw
      case rel => exact ⟨k + 1, by omega, by go_num, below_drewN_ BW _⟩
      case measure => simp [intOf]; omega
    · obtain rfl : k = L.length := by omega
      clear hlt hk
      go_wp2
      go_ret
      exact ⟨rfl, BW⟩

set_option maxRecDepth 100000 in
set_option maxHeartbeats 16000000 in
theorem ref_SameNode_any (x : Nd) (kv cv kv' cv' : Value) (w : World) (hk : IntsAt w kv x.kids) (hq : ItsAt w cv x.cols) (hk' : IntsAt w kv' x.kids) (hq' : ItsAt w cv' x.cols) : Calls Try.prog 57 #[.agg (ndV x kv cv).toArray, .agg (ndV x kv' cv').toArray] w fun e w' => e = .returned (.bool true) ∧ Below w.heap.size w w' := by
  have eq4 := eqFour
  have HK := Lib.hid hk
  have HQ := Lib.hid hq
  have HK' := Lib.hid hk'
  have HQ' := Lib.hid hq'
  obtain ⟨pc, cc, rfl, hl2, hm2, -, -⟩ := hq
  obtain ⟨pc', cc', rfl, hl2', hm2', -, -⟩ := hq'
  have hcl : x.cols.length ≤ 9223372036854775807 := by omega
  obtain ⟨cs, hcs⟩ : ∃ cs, cs = ndV x kv (.slice pc x.cols.length cc) := ⟨_, rfl⟩
  obtain ⟨ds, hds⟩ : ∃ cs, cs = ndV x kv' (.slice pc' x.cols.length cc') := ⟨_, rfl⟩
  rw [← hcs, ← hds]
  have HCS := Lib.hid hcs
  have HDS := Lib.hid hds
  clear hk hk' hl2 hm2 hl2' hm2'
  have a0 : cs[0]? = some (.int .i8 x.kind) := by rw [hcs]; rfl
  have b0 : ds[0]? = some (.int .i8 x.kind) := by rw [hds]; rfl
  have a1 : cs[1]? = some (.string x.id) := by rw [hcs]; rfl
  have b1 : ds[1]? = some (.string x.id) := by rw [hds]; rfl
  have a2 : cs[2]? = some (.string x.cls) := by rw [hcs]; rfl
  have b2 : ds[2]? = some (.string x.cls) := by rw [hds]; rfl
  have a22 : cs[22]? = some (.string x.text) := by rw [hcs]; rfl
  have b22 : ds[22]? = some (.string x.text) := by rw [hds]; rfl
  have a4 : cs[4]? = some (.int .i8 x.iw.k) := by rw [hcs]; rfl
  have b4 : ds[4]? = some (.int .i8 x.iw.k) := by rw [hds]; rfl
  have a5 : cs[5]? = some (.int .i64 x.iw.n) := by rw [hcs]; rfl
  have b5 : ds[5]? = some (.int .i64 x.iw.n) := by rw [hds]; rfl
  have a6 : cs[6]? = some (.int .i64 x.iw.d) := by rw [hcs]; rfl
  have b6 : ds[6]? = some (.int .i64 x.iw.d) := by rw [hds]; rfl
  have a7 : cs[7]? = some (.int .i64 x.iw.lo) := by rw [hcs]; rfl
  have b7 : ds[7]? = some (.int .i64 x.iw.lo) := by rw [hds]; rfl
  have a8 : cs[8]? = some (.int .i64 x.iw.hi) := by rw [hcs]; rfl
  have b8 : ds[8]? = some (.int .i64 x.iw.hi) := by rw [hds]; rfl
  have a9 : cs[9]? = some (.int .i8 x.ih.k) := by rw [hcs]; rfl
  have b9 : ds[9]? = some (.int .i8 x.ih.k) := by rw [hds]; rfl
  have a10 : cs[10]? = some (.int .i64 x.ih.n) := by rw [hcs]; rfl
  have b10 : ds[10]? = some (.int .i64 x.ih.n) := by rw [hds]; rfl
  have a11 : cs[11]? = some (.int .i64 x.ih.d) := by rw [hcs]; rfl
  have b11 : ds[11]? = some (.int .i64 x.ih.d) := by rw [hds]; rfl
  have a12 : cs[12]? = some (.int .i64 x.ih.lo) := by rw [hcs]; rfl
  have b12 : ds[12]? = some (.int .i64 x.ih.lo) := by rw [hds]; rfl
  have a13 : cs[13]? = some (.int .i64 x.ih.hi) := by rw [hcs]; rfl
  have b13 : ds[13]? = some (.int .i64 x.ih.hi) := by rw [hds]; rfl
  have a14 : cs[14]? = some (.int .i64 x.gap) := by rw [hcs]; rfl
  have b14 : ds[14]? = some (.int .i64 x.gap) := by rw [hds]; rfl
  have a15 : cs[15]? = some (.int .i64 x.p0) := by rw [hcs]; rfl
  have b15 : ds[15]? = some (.int .i64 x.p0) := by rw [hds]; rfl
  have a16 : cs[16]? = some (.int .i64 x.p1) := by rw [hcs]; rfl
  have b16 : ds[16]? = some (.int .i64 x.p1) := by rw [hds]; rfl
  have a17 : cs[17]? = some (.int .i64 x.p2) := by rw [hcs]; rfl
  have b17 : ds[17]? = some (.int .i64 x.p2) := by rw [hds]; rfl
  have a18 : cs[18]? = some (.int .i64 x.p3) := by rw [hcs]; rfl
  have b18 : ds[18]? = some (.int .i64 x.p3) := by rw [hds]; rfl
  have a24 : cs[24]? = some (.int .i32 x.fg) := by rw [hcs]; rfl
  have b24 : ds[24]? = some (.int .i32 x.fg) := by rw [hds]; rfl
  have a25 : cs[25]? = some (.int .i32 x.bg) := by rw [hcs]; rfl
  have b25 : ds[25]? = some (.int .i32 x.bg) := by rw [hds]; rfl
  have a26 : cs[26]? = some (.int .u8 x.add) := by rw [hcs]; rfl
  have b26 : ds[26]? = some (.int .u8 x.add) := by rw [hds]; rfl
  have a27 : cs[27]? = some (.int .u8 x.drop) := by rw [hcs]; rfl
  have b27 : ds[27]? = some (.int .u8 x.drop) := by rw [hds]; rfl
  have a29 : cs[29]? = some (.int .i64 x.x0) := by rw [hcs]; rfl
  have b29 : ds[29]? = some (.int .i64 x.x0) := by rw [hds]; rfl
  have a30 : cs[30]? = some (.int .i64 x.x1) := by rw [hcs]; rfl
  have b30 : ds[30]? = some (.int .i64 x.x1) := by rw [hds]; rfl
  have a31 : cs[31]? = some (.int .i64 x.x2) := by rw [hcs]; rfl
  have b31 : ds[31]? = some (.int .i64 x.x2) := by rw [hds]; rfl
  have a32 : cs[32]? = some (.int .i64 x.x3) := by rw [hcs]; rfl
  have b32 : ds[32]? = some (.int .i64 x.x3) := by rw [hds]; rfl
  have a33 : cs[33]? = some (.int .u8 x.flags) := by rw [hcs]; rfl
  have b33 : ds[33]? = some (.int .u8 x.flags) := by rw [hds]; rfl
  have a28 : cs[28]? = some (.slice pc x.cols.length cc) := by rw [hcs]; rfl
  have b28 : ds[28]? = some (.slice pc' x.cols.length cc') := by rw [hds]; rfl
  clear hcs hds
  go_enter Try.func57, Try.ntmps57
  go_upto_region 3 with (fail)
  clear a0 b0 a1 b1 a2 b2 a22 b22 a4 b4 a5 b5 a6 b6 a7 b7 a8 b8 a9 b9 a10 b10 a11 b11 a12 b12 a13 b13 a14 b14 a15 b15 a16 b16 a17 b17 a18 b18 a24 b24 a25 b25 a26 b26 a27 b27 a29 b29 a30 b30 a31 b31 a32 b32 a33 b33 a28 b28
  obtain ⟨w3, hw3⟩ : ∃ x, x = w.alloc (.cells cs.toArray 64) := ⟨_, rfl⟩
  have s3 : w3.heap.size = w.heap.size + 1 := by rw [hw3]; simp
  obtain ⟨w0, hw0⟩ : ∃ x, x = w3.alloc (.cells ds.toArray 64) := ⟨_, rfl⟩
  rw [← hw3, ← hw0, ← s3]
  have HA : RowKit.Hid (∀ j, j < 34 → w0.cell? ⟨w.heap.size, j, none⟩ = (ndV x kv (.slice pc x.cols.length cc))[j]?) := Lib.hid (fun j hj => by
    rw [hw0, hw3, HCS.out, cell_of_row _ w.heap.size j _ 64 (0, 0) (heap_alloc2_old _ _ _)]
    simp)
  have HB : RowKit.Hid (∀ j, j < 34 → w0.cell? ⟨w3.heap.size, j, none⟩ = (ndV x kv' (.slice pc' x.cols.length cc'))[j]?) := Lib.hid (fun j hj => by
    rw [hw0, HDS.out, cell_of_row _ w3.heap.size j _ 64 (0, 0) (heap_alloc_new _ _)]
    simp)
  have HB0 : RowKit.Hid (Below w.heap.size w w0) := Lib.hid (by rw [hw0, hw3]; exact below_al (below_al (Below.refl _ _) _) _)
  have hz0 : w.heap.size < w0.heap.size := by rw [hw0]; simp; omega
  have hz1 : w3.heap.size < w0.heap.size := by rw [hw0]; simp
  obtain ⟨ga, hga⟩ : ∃ g, g = w.heap.size := ⟨_, rfl⟩
  obtain ⟨gb, hgb⟩ : ∃ g, g = w3.heap.size := ⟨_, rfl⟩
  rw [← hga] at HA hz0
  rw [← hgb] at HB hz1
  rw [← hga, ← hgb]
  clear hw3 hw0 s3 hga hgb HCS HDS
  have a28 : w0.cell? ⟨ga, 28, none⟩ = some (.slice pc x.cols.length cc) := HA.out 28 (by omega)
  have b28 : w0.cell? ⟨gb, 28, none⟩ = some (.slice pc' x.cols.length cc') := HB.out 28 (by omega)
  go_wp2
  go_loopw [5] (fun i wr => ∃ k : Nat, k ≤ x.cols.length ∧ i = .int .i64 k ∧ RowKit.Hid (Below w0.heap.size w0 wr)) (fun i _ => x.cols.length - (intOf i).toNat)
  case atStart => exact ⟨0, Nat.zero_le _, rfl, Lib.hid (Below.refl _ _)⟩
  case round =>
    obtain ⟨k, hk, rfl, BQ⟩ := hrel
    have SQ := BQ.out.size
    clear a28 b28
    have a28 : wr.cell? ⟨ga, 28, none⟩ = some (.slice pc x.cols.length cc) := by rw [(bcell BQ.out).1 _ _ hz0]; exact HA.out 28 (by omega)
    have b28 : wr.cell? ⟨gb, 28, none⟩ = some (.slice pc' x.cols.length cc') := by rw [(bcell BQ.out).1 _ _ hz1]; exact HB.out 28 (by omega)
    have y0 : ga < wr.heap.size := by omega
    have y1 : gb < wr.heap.size := by omega
    by_cases hlt : k < x.cols.length
    · have hki : (k : Int) < (x.cols.length : Int) := by omega
      obtain ⟨_, _, eq1, _, _, _, hcc⟩ := HQ.out.later HB0.out (Nat.le_refl _)
      injection eq1 with eq1 _ eq2
      subst eq1 eq2
      obtain ⟨_, _, eq1, _, _, _, hdd⟩ := HQ'.out.later HB0.out (Nat.le_refl _)
      injection eq1 with eq1 _ eq2
      subst eq1 eq2
      obtain ⟨b, off, rfl, hb, hcc⟩ := hcc (by omega)
      obtain ⟨b', off', rfl, hb', hdd⟩ := hdd (by omega)
      have hbw : b < wr.heap.size := by omega
      have hbw' : b' < wr.heap.size := by omega
      have hcc := hcc k hlt
      have hdd := hdd k hlt
      generalize x.cols.getD k zIt = it at hcc hdd
      have i0 : wr.cell? ⟨b, off + k * 5, none⟩ = some (.int .i8 it.k) := by rw [(bcell BQ.out).1 _ _ hb]; exact hcc 0 (by omega)
      have j0 : wr.cell? ⟨b', off' + k * 5, none⟩ = some (.int .i8 it.k) := by rw [(bcell BQ.out).1 _ _ hb']; exact hdd 0 (by omega)
      have i1 : wr.cell? ⟨b, off + k * 5 + 1, none⟩ = some (.int .i64 it.n) := by rw [(bcell BQ.out).1 _ _ hb]; exact hcc 1 (by omega)
      have j1 : wr.cell? ⟨b', off' + k * 5 + 1, none⟩ = some (.int .i64 it.n) := by rw [(bcell BQ.out).1 _ _ hb']; exact hdd 1 (by omega)
      have i2 : wr.cell? ⟨b, off + k * 5 + 2, none⟩ = some (.int .i64 it.d) := by rw [(bcell BQ.out).1 _ _ hb]; exact hcc 2 (by omega)
      have j2 : wr.cell? ⟨b', off' + k * 5 + 2, none⟩ = some (.int .i64 it.d) := by rw [(bcell BQ.out).1 _ _ hb']; exact hdd 2 (by omega)
      have i3 : wr.cell? ⟨b, off + k * 5 + 3, none⟩ = some (.int .i64 it.lo) := by rw [(bcell BQ.out).1 _ _ hb]; exact hcc 3 (by omega)
      have j3 : wr.cell? ⟨b', off' + k * 5 + 3, none⟩ = some (.int .i64 it.lo) := by rw [(bcell BQ.out).1 _ _ hb']; exact hdd 3 (by omega)
      have i4 : wr.cell? ⟨b, off + k * 5 + 4, none⟩ = some (.int .i64 it.hi) := by rw [(bcell BQ.out).1 _ _ hb]; exact hcc 4 (by omega)
      have j4 : wr.cell? ⟨b', off' + k * 5 + 4, none⟩ = some (.int .i64 it.hi) := by rw [(bcell BQ.out).1 _ _ hb']; exact hdd 4 (by omega)
      clear hcc hdd
      go_upto_region 6 with (fail)
      go_quiet (fail)
      all_goals go_wp2
      go_roundw
      case rel => exact ⟨k + 1, by omega, by go_num, Lib.hid (below_drewN_ BQ.out _)⟩
      case measure => simp [intOf]; omega
    · obtain rfl : k = x.cols.length := by omega
      have a3 : wr.cell? ⟨ga, 3, none⟩ = some kv := by rw [(bcell BQ.out).1 _ _ hz0]; exact HA.out 3 (by omega)
      have b3 : wr.cell? ⟨gb, 3, none⟩ = some kv' := by rw [(bcell BQ.out).1 _ _ hz1]; exact HB.out 3 (by omega)
      have BW := Lib.hid (below_via BQ.out HB0.out)
      clear hlt hk SQ
      go_wp2_with fail
      refine (ref_ints_any _ _ x.kids _ (HK.out.later BW.out (Nat.le_refl _)) (HK'.out.later BW.out (Nat.le_refl _))).mono ?_
      rintro e w5 ⟨rfl, hb5⟩
      have HB5 := Lib.hid (below_via hb5 BQ.out)
      have HF := Lib.hid (below_via hb5 BW.out)
      have zA : ga < w5.heap.size := by have := hb5.size; omega
      have zB : gb < w5.heap.size := by have := hb5.size; omega
      clear hb5 a3 b3
      have a19 : w5.cell? ⟨ga, 19, none⟩ = some (.int .i8 x.border) := by rw [(bcell HB5.out).1 _ _ hz0]; exact HA.out 19 (by omega)
      have b19 : w5.cell? ⟨gb, 19, none⟩ = some (.int .i8 x.border) := by rw [(bcell HB5.out).1 _ _ hz1]; exact HB.out 19 (by omega)
      have a20 : w5.cell? ⟨ga, 20, none⟩ = some (.int .i8 x.align) := by rw [(bcell HB5.out).1 _ _ hz0]; exact HA.out 20 (by omega)
      have b20 : w5.cell? ⟨gb, 20, none⟩ = some (.int .i8 x.align) := by rw [(bcell HB5.out).1 _ _ hz1]; exact HB.out 20 (by omega)
      have a21 : w5.cell? ⟨ga, 21, none⟩ = some (.int .i8 x.cross) := by rw [(bcell HB5.out).1 _ _ hz0]; exact HA.out 21 (by omega)
      have b21 : w5.cell? ⟨gb, 21, none⟩ = some (.int .i8 x.cross) := by rw [(bcell HB5.out).1 _ _ hz1]; exact HB.out 21 (by omega)
      have a23 : w5.cell? ⟨ga, 23, none⟩ = some (.int .i8 x.wrap) := by rw [(bcell HB5.out).1 _ _ hz0]; exact HA.out 23 (by omega)
      have b23 : w5.cell? ⟨gb, 23, none⟩ = some (.int .i8 x.wrap) := by rw [(bcell HB5.out).1 _ _ hz1]; exact HB.out 23 (by omega)
      have a33 : w5.cell? ⟨ga, 33, none⟩ = some (.int .u8 x.flags) := by rw [(bcell HB5.out).1 _ _ hz0]; exact HA.out 33 (by omega)
      have b33 : w5.cell? ⟨gb, 33, none⟩ = some (.int .u8 x.flags) := by rw [(bcell HB5.out).1 _ _ hz1]; exact HB.out 33 (by omega)
      go_wp2
      go_ret
      exact ⟨rfl, HF.out⟩
set_option maxRecDepth 100000 in
set_option maxHeartbeats 16000000 in
theorem ref_Same_any (pt pu : Option Addr) (ct cu : Nat) (T : List Nd) (w : World) (hT : TreeAt w (.slice pt T.length ct) T) (hU : TreeAt w (.slice pu T.length cu) T) : Calls Try.prog 23 #[.agg #[.slice pt T.length ct], .agg #[.slice pu T.length cu]] w fun e w' => e = .returned (.bool true) ∧ Below w.heap.size w w' := by
  have hlen := hT.len
  obtain ⟨_, _, p, c, e, _, _, hn⟩ := hT
  injection e with e1 _ e3
  subst e1 e3
  obtain ⟨_, _, p, c, e, _, _, hm⟩ := hU
  injection e with e1 _ e3
  subst e1 e3
  obtain ⟨W1, hW1⟩ : ∃ x, x = (w.alloc (.cells #[.slice pt T.length ct] 24)).alloc (.cells #[.slice pu T.length cu] 24) := ⟨_, rfl⟩
  have B1 : Below w.heap.size w W1 := by rw [hW1]; exact below_al (below_al (Below.refl _ _) _) _
  have t0 : W1.cell? ⟨w.heap.size, 0, none⟩ = some (.slice pt T.length ct) := by rw [hW1]; simp [go_sem]
  have t1 : W1.cell? ⟨w.heap.size + 1, 0, none⟩ = some (.slice pu T.length cu) := by rw [hW1]; simp [go_sem]
  have z1 : w.heap.size + 1 < W1.heap.size := by rw [hW1]; simp
  have z0 : w.heap.size < W1.heap.size := by omega
  have HN := Lib.hid hn
  have HM := Lib.hid hm
  have HB1 := Lib.hid B1
  have HT0 := Lib.hid t0
  have HT1 := Lib.hid t1
  clear hn hm B1
  go_enter Try.func23, Try.ntmps23
  go_upto_region 1 with (fail)
  rw [← hW1]
  clear hW1
  go_wp2
  go_loopw [5] (fun iv wr => ∃ j : Nat, j ≤ T.length ∧ iv = .int .i64 j ∧ RowKit.Hid (Below W1.heap.size W1 wr)) (fun iv _ => T.length - (intOf iv).toNat)
  case atStart => exact ⟨0, Nat.zero_le _, rfl, Lib.hid (Below.refl _ _)⟩
  case round =>
    clear t0 t1
    obtain ⟨j, hj, rfl, BW⟩ := hrel
    have SW := BW.out.size
    have t0 : wr.cell? ⟨w.heap.size, 0, none⟩ = some (.slice pt T.length ct) := by rw [(bcell BW.out).1 _ _ z0]; exact HT0.out
    have t1 : wr.cell? ⟨w.heap.size + 1, 0, none⟩ = some (.slice pu T.length cu) := by rw [(bcell BW.out).1 _ _ z1]; exact HT1.out
    have y0 : w.heap.size < wr.heap.size := by omega
    have y1 : w.heap.size + 1 < wr.heap.size := by omega
    by_cases hlt : j < T.length
    · have hji : (j : Int) < (T.length : Int) := by omega
      obtain ⟨b, off, rfl, hb, hn⟩ := HN.out (by omega)
      obtain ⟨b', off', rfl, hb', hm⟩ := HM.out (by omega)
      have BWW := Lib.hid (below_via BW.out HB1.out)
      have hbw : b < wr.heap.size := by have := BWW.out.size; omega
      have hbw' : b' < wr.heap.size := by have := BWW.out.size; omega
      obtain ⟨kv, cv, hk, hq, hc⟩ := (hn j hlt).later BWW.out (Nat.le_refl _) hb
      obtain ⟨kv', cv', hk', hq', hc'⟩ := (hm j hlt).later BWW.out (Nat.le_refl _) hb'
      clear hn hm
      generalize T.getD j zNd = x at hk hq hc hk' hq' hc'
      have RNG := nd_range hc
      have LEN := ndV_len x kv cv
      have RNG' := nd_range hc'
      have LEN' := ndV_len x kv' cv'
      obtain ⟨ns, hcs⟩ : ∃ cs, cs = ndV x kv cv := ⟨_, rfl⟩
      obtain ⟨ms, hds⟩ : ∃ cs, cs = ndV x kv' cv' := ⟨_, rfl⟩
      rw [← hcs] at RNG LEN
      rw [← hds] at RNG' LEN'
      have HNS := Lib.hid hcs
      have HMS := Lib.hid hds
      have HRN := Lib.hid RNG
      have HRM := Lib.hid RNG'
      have HK := Lib.hid hk
      have HQ := Lib.hid hq
      have HK' := Lib.hid hk'
      have HQ' := Lib.hid hq'
      have LN1 := Lib.hid (show (Try.prog.info? 64).map (·.size) = some ns.length by rw [LEN]; exact infoN)
      have LN2 := Lib.hid (show (Try.prog.info? 64).map (·.size) = some ms.length by rw [LEN']; exact infoN)
      clear hc hc' hcs hds RNG RNG' LEN LEN' hk hq hk' hq'
      go_upto_region 6 with (fail)
      have BWD := Lib.hid BW
      have HF0 := Lib.hid (fun w' (h : Below wr.heap.size wr w') => show w'.cell? ⟨w.heap.size, 0, none⟩ = some (.slice (some ⟨b, off, none⟩) T.length ct) by rw [(bcell h).1 _ _ y0]; exact t0)
      have HF1 := Lib.hid (fun w' (h : Below wr.heap.size wr w') => show w'.cell? ⟨w.heap.size + 1, 0, none⟩ = some (.slice (some ⟨b', off', none⟩) T.length cu) by rw [(bcell h).1 _ _ y1]; exact t1)
      have HR1 := Lib.hid (fun w' (h : Below wr.heap.size wr w') => show w'.rangeAt b (off + j * 34) ns from fun i u hu => by rw [(bcell h).1 _ _ hbw]; exact HRN.out i u hu)
      have HR2 := Lib.hid (fun w' (h : Below wr.heap.size wr w') => show w'.rangeAt b' (off' + j * 34) ms from fun i u hu => by rw [(bcell h).1 _ _ hbw']; exact HRM.out i u hu)
      have CALL : RowKit.Hid (∀ W, Below wr.heap.size wr W → Calls Try.prog 57 #[.agg ns.toArray, .agg ms.toArray] W fun e w' => e = .returned (.bool true) ∧ Below W.heap.size W w') := Lib.hid (by
        rw [HNS.out, HMS.out]
        intro W hS
        exact ref_SameNode_any x _ _ _ _ W (HK.out.later hS (Nat.le_refl _)) (HQ.out.later hS (Nat.le_refl _)) (HK'.out.later hS (Nat.le_refl _)) (HQ'.out.later hS (Nat.le_refl _)))
      clear t0 t1
      refine wp_region_noPanic ?_
      refine wp_region_lexH (fun w' => Below wr.heap.size wr w') (by kernel_rfl) (by kernel_rfl) (fun _ _ _ _ _ h => h) (Below.drew (Below.refl _ _)) ?_
      apply lexH_run (by rfl)
      · (intro w h; clear h; go_simp; try rfl)
      (try simp only [Act.put, List.setIfInBounds_toArray, List.set_cons_zero, List.set_cons_succ])
      apply lexH_run (by rfl)
      · (intro w h; have FK := And.intro (HF0.out w h) (HF1.out w h); clear h; go_split_ands; go_simp; try rfl)
      (try simp only [Act.put, List.setIfInBounds_toArray, List.set_cons_zero, List.set_cons_succ])
      apply lexH_run (by rfl)
      · (intro w h; clear h; go_simp; try rfl)
      (try simp only [Act.put, List.setIfInBounds_toArray, List.set_cons_zero, List.set_cons_succ])
      apply lexH_run (by rfl)
      · (intro w h; clear h; go_simp; try rfl)
      (try simp only [Act.put, List.setIfInBounds_toArray, List.set_cons_zero, List.set_cons_succ])
      refine lexH_load (by rfl) 64 (.tmp 23) rfl b (off + j * 34) rfl ns _ (fun w h => HR1.out w h) Try.underlying64 rfl LN1.out ?_
      (try simp only [Act.put, List.setIfInBounds_toArray, List.set_cons_zero, List.set_cons_succ])
      apply lexH_run (by rfl)
      · (intro w h; clear h; go_simp; try rfl)
      (try simp only [Act.put, List.setIfInBounds_toArray, List.set_cons_zero, List.set_cons_succ])
      apply lexH_run (by rfl)
      · (intro w h; have FK := And.intro (HF0.out w h) (HF1.out w h); clear h; go_split_ands; go_simp; try rfl)
      (try simp only [Act.put, List.setIfInBounds_toArray, List.set_cons_zero, List.set_cons_succ])
      apply lexH_run (by rfl)
      · (intro w h; clear h; go_simp; try rfl)
      (try simp only [Act.put, List.setIfInBounds_toArray, List.set_cons_zero, List.set_cons_succ])
      apply lexH_run (by rfl)
      · (intro w h; clear h; go_simp; try rfl)
      (try simp only [Act.put, List.setIfInBounds_toArray, List.set_cons_zero, List.set_cons_succ])
      refine lexH_load (by rfl) 64 (.tmp 28) rfl b' (off' + j * 34) rfl ms _ (fun w h => HR2.out w h) Try.underlying64 rfl LN2.out ?_
      (try simp only [Act.put, List.setIfInBounds_toArray, List.set_cons_zero, List.set_cons_succ])
      refine lexH_call (by kernel_rfl) (by rfl) (by go_simp; first | exact ⟨rfl, rfl⟩ | rfl) ?_
      intro hS
      refine (CALL.out _ hS).mono ?_
      rintro e w5 ⟨rfl, hb5⟩
      have hb5 := below_via hb5 hS
      refine ⟨_, rfl, hb5, ?_⟩
      clear hS
      (try simp only [Act.put, List.setIfInBounds_toArray, List.set_cons_zero, List.set_cons_succ])
      apply lexH_run (by rfl)
      · (intro w h; clear h; go_simp; try rfl)
      (try simp only [Act.put, List.setIfInBounds_toArray, List.set_cons_zero, List.set_cons_succ])
      apply lexH_nil
      refine NoPanic.normal ?_
      have BF := Lib.hid (below_via hb5 BW.out)
      clear hb5
      go_wp2
      go_roundw
      case rel => exact ⟨j + 1, by omega, by go_num, BF⟩
      case measure => simp [intOf]; omega
    · obtain rfl : j = T.length := by omega
      have BF := Lib.hid (below_via BW.out HB1.out)
      clear SW
      go_wp2
      go_ret
      exact ⟨rfl, BF.out⟩
end Go.Proofs.Ytcihihncgpddfaa
