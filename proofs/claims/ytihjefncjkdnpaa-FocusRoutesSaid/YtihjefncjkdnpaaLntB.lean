/- Two lists of ints, two nodes that are the same: the laws' own comparisons. -/
import Derived.Test.YtihjefncjkdnpaaLntA
import Derived.Outline
import Derived.Laws.StructEq
namespace Go.Proofs.Ytihjefncjkdnpaa
open Go.RowKit Go.Deep
set_option linter.unusedVariables false
set_option linter.unusedSimpArgs false

section
variable {P : Program}
theorem run_eq_four (w : World) (t e : TypeId) (K : IntKind) (ht : P.underlying t = some (.array 4 e)) (he : P.underlying e = some (.int K)) (hsz : ∀ w, (sizeOf e).run P w = .ok 1 w) (a b c d a' b' c' d' : Int) :
    (Op.equalIn 10000 t (.agg #[.int K a, .int K b, .int K c, .int K d]) (.agg #[.int K a', .int K b', .int K c', .int K d'])).run P w = .ok (a == a' && b == b' && c == c' && d == d') w := by
  rw [show (10000 : Nat) = 9998 + 2 by rfl, Op.equalIn]
  simp only [Sem.run_bind, run_underlying ht, Result.andThen_ok, hsz, Std.Legacy.Range.forIn_eq_forIn_range', Std.Legacy.Range.size, Nat.sub_zero, Nat.add_sub_cancel, Nat.div_one]
  rw [show List.range' 0 4 1 = [0, 1, 2, 3] by rfl]
  have pp : ∀ (x y z v : Int) (i : Nat), i < 4 → (part e #[.int K x, .int K y, .int K z, .int K v] i).run P w = .ok (#[Value.int K x, .int K y, .int K z, .int K v].getD i undef) w := by
    intro x y z v i hi
    simp [part, isAgg, run_underlying he]
    match i, hi with
    | 0, _ => rfl
    | 1, _ => rfl
    | 2, _ => rfl
    | 3, _ => rfl
  have pe : ∀ (x y : Int), (Op.equalIn (9998 + 1) e (.int K x) (.int K y)).run P w = .ok (x == y) w := fun x y => run_equalIn_int w 9998 e K K x y he
  have q0 := fun x y z v => pp x y z v 0 (by omega)
  have q1 := fun x y z v => pp x y z v 1 (by omega)
  have q2 := fun x y z v => pp x y z v 2 (by omega)
  have q3 := fun x y z v => pp x y z v 3 (by omega)
  simp at q0 q1 q2 q3
  cases h1 : (a == a') <;> cases h2 : (b == b') <;> cases h3 : (c == c') <;> cases h4 : (d == d') <;> simp [List.forIn_cons, Sem.run_bind, q0, q1, q2, q3, pe, h1, h2, h3, h4]
end
theorem eqFour (w : World) (a b c d a' b' c' d' : Int) : (Op.equalIn 10000 47 (.agg #[.int .i64 a, .int .i64 b, .int .i64 c, .int .i64 d]) (.agg #[.int .i64 a', .int .i64 b', .int .i64 c', .int .i64 d'])).run Try.prog w = .ok (a == a' && b == b' && c == c' && d == d') w :=
  run_eq_four w _ 3 .i64 Try.underlying47 Try.underlying3 (fun _ => by kernel_rfl) a b c d a' b' c' d'

theorem below_drewN_ {B : Nat} {a w : World} (h : Below B a w) (n : Nat) : Below B a (w.drewN n) := ⟨h.os, h.tape, h.output, h.size, h.block⟩
set_option maxRecDepth 100000 in
set_option maxHeartbeats 4000000 in
theorem same_Ints_any (v v' : Value) (L : List Int) (w : World) (h : IntsAt w v L) (h' : IntsAt w v' L) : Calls Try.prog 13 #[v, v'] w fun e w' => e = .returned (.bool true) ∧ Below w.heap.size w w' := by
  obtain ⟨p, c, rfl, hl, hm, _, hc⟩ := h
  obtain ⟨p', c', rfl, hl', hm', _, hc'⟩ := h'
  have hn : L.length ≤ 9223372036854775807 := by omega
  have HC := Lib.hid hc
  have HD := Lib.hid hc'
  clear hc hc'
  go_enter Try.func13, Try.ntmps13
  go_wp2
  go_loopw [13] (fun i wr => ∃ k : Nat, k ≤ L.length ∧ i = .int .i64 k ∧ Below w.heap.size w wr) (fun i _ => L.length - (intOf i).toNat)
  case atStart => exact ⟨0, Nat.zero_le _, rfl, Below.refl _ _⟩
  case round =>
    obtain ⟨k, hk, rfl, BW⟩ := hrel
    have SW := BW.size
    by_cases hlt : k < L.length
    · have hki : (k : Int) < (L.length : Int) := by omega
      obtain ⟨b, off, rfl, hb, hcc⟩ := HC.out (by omega)
      obtain ⟨b', off', rfl, hb', hcc'⟩ := HD.out (by omega)
      have c1 := hcc k hlt
      have c2 := hcc' k hlt
      rw [← (bcell BW).1 _ _ hb] at c1
      rw [← (bcell BW).1 _ _ hb'] at c2
      have hbw : b < wr.heap.size := by omega
      have hbw' : b' < wr.heap.size := by omega
      clear hcc hcc'
      generalize L.getD k 0 = x at c1 c2
      go_upto_region 6 with (fail)
      go_quiet (fail)
      all_goals go_wp2
      go_roundw
      case rel => exact ⟨k + 1, by omega, by go_num, below_drewN_ BW _⟩
      case measure => simp [intOf]; omega
    · obtain rfl : k = L.length := by omega
      clear hlt hk
      go_wp2
      go_ret
      exact ⟨rfl, BW⟩

set_option maxRecDepth 100000 in
set_option maxHeartbeats 16000000 in
theorem same_Node_any (x : Nd) (kv cv kv' cv' : Value) (w : World) (hk : IntsAt w kv x.kids) (hq : ItsAt w cv x.cols) (hk' : IntsAt w kv' x.kids) (hq' : ItsAt w cv' x.cols) : Calls Try.prog 43 #[.agg (ndV x kv cv).toArray, .agg (ndV x kv' cv').toArray] w fun e w' => e = .returned (.bool true) ∧ Below w.heap.size w w' := by
  have eq4 := eqFour
  obtain ⟨cs, hcs⟩ : ∃ cs, cs = ndV x kv cv := ⟨_, rfl⟩
  obtain ⟨cs', hcs'⟩ : ∃ cs, cs = ndV x kv' cv' := ⟨_, rfl⟩
  obtain ⟨w0, hw0⟩ : ∃ w0, w0 = (w.alloc (.cells cs.toArray 53)).alloc (.cells cs'.toArray 53) := ⟨_, rfl⟩
  have hA : ∀ j, j < 34 → w0.cell? ⟨w.heap.size, j, none⟩ = (ndV x kv cv)[j]? := fun j hj => by
    rw [hw0, hcs, cell_of_row _ w.heap.size j (ndV x kv cv).toArray 53 (0, 0) (heap_alloc2_old _ _ _)]
    simp
  have hB : ∀ j, j < 34 → w0.cell? ⟨w.heap.size + 1, j, none⟩ = (ndV x kv' cv')[j]? := fun j hj => by
    rw [hw0, hcs', cell_of_row _ (w.heap.size + 1) j (ndV x kv' cv').toArray 53 (0, 0) (heap_alloc2_new _ _ _)]
    simp
  have B0 : Below w.heap.size w w0 := by rw [hw0]; exact below_al (below_al (Below.refl _ _) _) _
  have hz : w.heap.size + 1 < w0.heap.size := by rw [hw0]; simp
  have hz0 : w.heap.size < w0.heap.size := by omega
  have hk0 := Lib.hid (hk.later B0 (Nat.le_refl _))
  have hk0' := Lib.hid (hk'.later B0 (Nat.le_refl _))
  have hq0 := hq.later B0 (Nat.le_refl _)
  have hq0' := hq'.later B0 (Nat.le_refl _)
  clear hk hk' hq hq'
  have HKA := hk0
  have HKB := hk0'
  obtain ⟨p, c, rfl, hl, hm, _, _⟩ := hk0.out
  obtain ⟨p', c', rfl, hl', hm', _, _⟩ := hk0'.out
  obtain ⟨q, d, rfl, hl2, hm2, _, hc⟩ := hq0
  obtain ⟨q', d', rfl, hl2', hm2', _, hc'⟩ := hq0'
  have hn : x.cols.length ≤ 9223372036854775807 := by omega
  have HC := Lib.hid hc
  have HD := Lib.hid hc'
  have HA := Lib.hid hA
  have HB := Lib.hid hB
  rw [← hcs, ← hcs']
  have HW0 := Lib.hid hw0
  clear hw0 hc hc' hA hB hk0 hk0' hl hl' hm hm' hl2 hl2' hm2 hm2' hcs hcs'
  go_enter Try.func43, Try.ntmps43
  go_upto_region 1 with (fail)
  rw [← HW0.out]
  have a0 : w0.cell? ⟨w.heap.size, 0, none⟩ = some (.int .i8 x.kind) := HA.out 0 (by omega)
  have a1 : w0.cell? ⟨w.heap.size, 1, none⟩ = some (.string x.id) := HA.out 1 (by omega)
  have a2 : w0.cell? ⟨w.heap.size, 2, none⟩ = some (.string x.cls) := HA.out 2 (by omega)
  have a4 : w0.cell? ⟨w.heap.size, 4, none⟩ = some (.int .i8 x.iw.k) := HA.out 4 (by omega)
  have a5 : w0.cell? ⟨w.heap.size, 5, none⟩ = some (.int .i64 x.iw.n) := HA.out 5 (by omega)
  have a6 : w0.cell? ⟨w.heap.size, 6, none⟩ = some (.int .i64 x.iw.d) := HA.out 6 (by omega)
  have a7 : w0.cell? ⟨w.heap.size, 7, none⟩ = some (.int .i64 x.iw.lo) := HA.out 7 (by omega)
  have a8 : w0.cell? ⟨w.heap.size, 8, none⟩ = some (.int .i64 x.iw.hi) := HA.out 8 (by omega)
  have a9 : w0.cell? ⟨w.heap.size, 9, none⟩ = some (.int .i8 x.ih.k) := HA.out 9 (by omega)
  have a10 : w0.cell? ⟨w.heap.size, 10, none⟩ = some (.int .i64 x.ih.n) := HA.out 10 (by omega)
  have a11 : w0.cell? ⟨w.heap.size, 11, none⟩ = some (.int .i64 x.ih.d) := HA.out 11 (by omega)
  have a12 : w0.cell? ⟨w.heap.size, 12, none⟩ = some (.int .i64 x.ih.lo) := HA.out 12 (by omega)
  have a13 : w0.cell? ⟨w.heap.size, 13, none⟩ = some (.int .i64 x.ih.hi) := HA.out 13 (by omega)
  have a14 : w0.cell? ⟨w.heap.size, 14, none⟩ = some (.int .i64 x.gap) := HA.out 14 (by omega)
  have a15 : w0.cell? ⟨w.heap.size, 15, none⟩ = some (.int .i64 x.p0) := HA.out 15 (by omega)
  have a16 : w0.cell? ⟨w.heap.size, 16, none⟩ = some (.int .i64 x.p1) := HA.out 16 (by omega)
  have a17 : w0.cell? ⟨w.heap.size, 17, none⟩ = some (.int .i64 x.p2) := HA.out 17 (by omega)
  have a18 : w0.cell? ⟨w.heap.size, 18, none⟩ = some (.int .i64 x.p3) := HA.out 18 (by omega)
  have a19 : w0.cell? ⟨w.heap.size, 19, none⟩ = some (.int .i8 x.border) := HA.out 19 (by omega)
  have b0 : w0.cell? ⟨w.heap.size + 1, 0, none⟩ = some (.int .i8 x.kind) := HB.out 0 (by omega)
  have b1 : w0.cell? ⟨w.heap.size + 1, 1, none⟩ = some (.string x.id) := HB.out 1 (by omega)
  have b2 : w0.cell? ⟨w.heap.size + 1, 2, none⟩ = some (.string x.cls) := HB.out 2 (by omega)
  have b4 : w0.cell? ⟨w.heap.size + 1, 4, none⟩ = some (.int .i8 x.iw.k) := HB.out 4 (by omega)
  have b5 : w0.cell? ⟨w.heap.size + 1, 5, none⟩ = some (.int .i64 x.iw.n) := HB.out 5 (by omega)
  have b6 : w0.cell? ⟨w.heap.size + 1, 6, none⟩ = some (.int .i64 x.iw.d) := HB.out 6 (by omega)
  have b7 : w0.cell? ⟨w.heap.size + 1, 7, none⟩ = some (.int .i64 x.iw.lo) := HB.out 7 (by omega)
  have b8 : w0.cell? ⟨w.heap.size + 1, 8, none⟩ = some (.int .i64 x.iw.hi) := HB.out 8 (by omega)
  have b9 : w0.cell? ⟨w.heap.size + 1, 9, none⟩ = some (.int .i8 x.ih.k) := HB.out 9 (by omega)
  have b10 : w0.cell? ⟨w.heap.size + 1, 10, none⟩ = some (.int .i64 x.ih.n) := HB.out 10 (by omega)
  have b11 : w0.cell? ⟨w.heap.size + 1, 11, none⟩ = some (.int .i64 x.ih.d) := HB.out 11 (by omega)
  have b12 : w0.cell? ⟨w.heap.size + 1, 12, none⟩ = some (.int .i64 x.ih.lo) := HB.out 12 (by omega)
  have b13 : w0.cell? ⟨w.heap.size + 1, 13, none⟩ = some (.int .i64 x.ih.hi) := HB.out 13 (by omega)
  have b14 : w0.cell? ⟨w.heap.size + 1, 14, none⟩ = some (.int .i64 x.gap) := HB.out 14 (by omega)
  have b15 : w0.cell? ⟨w.heap.size + 1, 15, none⟩ = some (.int .i64 x.p0) := HB.out 15 (by omega)
  have b16 : w0.cell? ⟨w.heap.size + 1, 16, none⟩ = some (.int .i64 x.p1) := HB.out 16 (by omega)
  have b17 : w0.cell? ⟨w.heap.size + 1, 17, none⟩ = some (.int .i64 x.p2) := HB.out 17 (by omega)
  have b18 : w0.cell? ⟨w.heap.size + 1, 18, none⟩ = some (.int .i64 x.p3) := HB.out 18 (by omega)
  have b19 : w0.cell? ⟨w.heap.size + 1, 19, none⟩ = some (.int .i8 x.border) := HB.out 19 (by omega)
  go_upto_region 2 with (fail)
  clear a0 b0 a1 b1 a2 b2 a4 b4 a5 b5 a6 b6 a7 b7 a8 b8 a9 b9 a10 b10 a11 b11 a12 b12 a13 b13 a14 b14 a15 b15 a16 b16 a17 b17 a18 b18 a19 b19
  have a20 : w0.cell? ⟨w.heap.size, 20, none⟩ = some (.int .i8 x.align) := HA.out 20 (by omega)
  have a21 : w0.cell? ⟨w.heap.size, 21, none⟩ = some (.int .i8 x.cross) := HA.out 21 (by omega)
  have a22 : w0.cell? ⟨w.heap.size, 22, none⟩ = some (.string x.text) := HA.out 22 (by omega)
  have a23 : w0.cell? ⟨w.heap.size, 23, none⟩ = some (.int .i8 x.wrap) := HA.out 23 (by omega)
  have a24 : w0.cell? ⟨w.heap.size, 24, none⟩ = some (.int .i32 x.fg) := HA.out 24 (by omega)
  have a25 : w0.cell? ⟨w.heap.size, 25, none⟩ = some (.int .i32 x.bg) := HA.out 25 (by omega)
  have a26 : w0.cell? ⟨w.heap.size, 26, none⟩ = some (.int .u8 x.add) := HA.out 26 (by omega)
  have a27 : w0.cell? ⟨w.heap.size, 27, none⟩ = some (.int .u8 x.drop) := HA.out 27 (by omega)
  have a29 : w0.cell? ⟨w.heap.size, 29, none⟩ = some (.int .i64 x.x0) := HA.out 29 (by omega)
  have a30 : w0.cell? ⟨w.heap.size, 30, none⟩ = some (.int .i64 x.x1) := HA.out 30 (by omega)
  have a31 : w0.cell? ⟨w.heap.size, 31, none⟩ = some (.int .i64 x.x2) := HA.out 31 (by omega)
  have a32 : w0.cell? ⟨w.heap.size, 32, none⟩ = some (.int .i64 x.x3) := HA.out 32 (by omega)
  have a33 : w0.cell? ⟨w.heap.size, 33, none⟩ = some (.int .u8 x.flags) := HA.out 33 (by omega)
  have b20 : w0.cell? ⟨w.heap.size + 1, 20, none⟩ = some (.int .i8 x.align) := HB.out 20 (by omega)
  have b21 : w0.cell? ⟨w.heap.size + 1, 21, none⟩ = some (.int .i8 x.cross) := HB.out 21 (by omega)
  have b22 : w0.cell? ⟨w.heap.size + 1, 22, none⟩ = some (.string x.text) := HB.out 22 (by omega)
  have b23 : w0.cell? ⟨w.heap.size + 1, 23, none⟩ = some (.int .i8 x.wrap) := HB.out 23 (by omega)
  have b24 : w0.cell? ⟨w.heap.size + 1, 24, none⟩ = some (.int .i32 x.fg) := HB.out 24 (by omega)
  have b25 : w0.cell? ⟨w.heap.size + 1, 25, none⟩ = some (.int .i32 x.bg) := HB.out 25 (by omega)
  have b26 : w0.cell? ⟨w.heap.size + 1, 26, none⟩ = some (.int .u8 x.add) := HB.out 26 (by omega)
  have b27 : w0.cell? ⟨w.heap.size + 1, 27, none⟩ = some (.int .u8 x.drop) := HB.out 27 (by omega)
  have b29 : w0.cell? ⟨w.heap.size + 1, 29, none⟩ = some (.int .i64 x.x0) := HB.out 29 (by omega)
  have b30 : w0.cell? ⟨w.heap.size + 1, 30, none⟩ = some (.int .i64 x.x1) := HB.out 30 (by omega)
  have b31 : w0.cell? ⟨w.heap.size + 1, 31, none⟩ = some (.int .i64 x.x2) := HB.out 31 (by omega)
  have b32 : w0.cell? ⟨w.heap.size + 1, 32, none⟩ = some (.int .i64 x.x3) := HB.out 32 (by omega)
  have b33 : w0.cell? ⟨w.heap.size + 1, 33, none⟩ = some (.int .u8 x.flags) := HB.out 33 (by omega)
  go_upto_region 3 with (fail)
  clear a20 b20 a21 b21 a22 b22 a23 b23 a24 b24 a25 b25 a26 b26 a27 b27 a29 b29 a30 b30 a31 b31 a32 b32 a33 b33
  have a28 : w0.cell? ⟨w.heap.size, 28, none⟩ = some (.slice q x.cols.length d) := HA.out 28 (by omega)
  have b28 : w0.cell? ⟨w.heap.size + 1, 28, none⟩ = some (.slice q' x.cols.length d') := HB.out 28 (by omega)
  go_wp2
  go_loopw [127] (fun i wr => ∃ k : Nat, k ≤ x.cols.length ∧ i = .int .i64 k ∧ Below w0.heap.size w0 wr) (fun i _ => x.cols.length - (intOf i).toNat)
  case atStart => exact ⟨0, Nat.zero_le _, rfl, Below.refl _ _⟩
  case round =>
    obtain ⟨k, hk, rfl, BW⟩ := hrel
    have SW := BW.size
    have a28 : wr.cell? ⟨w.heap.size, 28, none⟩ = some (.slice q x.cols.length d) := by rw [(bcell BW).1 _ _ hz0]; exact HA.out 28 (by omega)
    have b28 : wr.cell? ⟨w.heap.size + 1, 28, none⟩ = some (.slice q' x.cols.length d') := by rw [(bcell BW).1 _ _ hz]; exact HB.out 28 (by omega)
    have z0 : w.heap.size < wr.heap.size := by omega
    have z1 : w.heap.size + 1 < wr.heap.size := by omega
    by_cases hlt : k < x.cols.length
    · have hki : (k : Int) < (x.cols.length : Int) := by omega
      obtain ⟨b, off, rfl, hb, hcc⟩ := HC.out (by omega)
      obtain ⟨b', off', rfl, hb', hcc'⟩ := HD.out (by omega)
      have hbw : b < wr.heap.size := by omega
      have hbw' : b' < wr.heap.size := by omega
      generalize hit : x.cols.getD k zIt = it at *
      have hcc := hcc k hlt
      have hcc' := hcc' k hlt
      rw [hit] at hcc hcc'
      clear hit
      have i0 : wr.cell? ⟨b, off + k * 5, none⟩ = some (.int .i8 it.k) := by rw [(bcell BW).1 _ _ hb]; exact hcc 0 (by omega)
      have j0 : wr.cell? ⟨b', off' + k * 5, none⟩ = some (.int .i8 it.k) := by rw [(bcell BW).1 _ _ hb']; exact hcc' 0 (by omega)
      have i1 : wr.cell? ⟨b, off + k * 5 + 1, none⟩ = some (.int .i64 it.n) := by rw [(bcell BW).1 _ _ hb]; exact hcc 1 (by omega)
      have j1 : wr.cell? ⟨b', off' + k * 5 + 1, none⟩ = some (.int .i64 it.n) := by rw [(bcell BW).1 _ _ hb']; exact hcc' 1 (by omega)
      have i2 : wr.cell? ⟨b, off + k * 5 + 2, none⟩ = some (.int .i64 it.d) := by rw [(bcell BW).1 _ _ hb]; exact hcc 2 (by omega)
      have j2 : wr.cell? ⟨b', off' + k * 5 + 2, none⟩ = some (.int .i64 it.d) := by rw [(bcell BW).1 _ _ hb']; exact hcc' 2 (by omega)
      have i3 : wr.cell? ⟨b, off + k * 5 + 3, none⟩ = some (.int .i64 it.lo) := by rw [(bcell BW).1 _ _ hb]; exact hcc 3 (by omega)
      have j3 : wr.cell? ⟨b', off' + k * 5 + 3, none⟩ = some (.int .i64 it.lo) := by rw [(bcell BW).1 _ _ hb']; exact hcc' 3 (by omega)
      have i4 : wr.cell? ⟨b, off + k * 5 + 4, none⟩ = some (.int .i64 it.hi) := by rw [(bcell BW).1 _ _ hb]; exact hcc 4 (by omega)
      have j4 : wr.cell? ⟨b', off' + k * 5 + 4, none⟩ = some (.int .i64 it.hi) := by rw [(bcell BW).1 _ _ hb']; exact hcc' 4 (by omega)
      clear hcc hcc'
      go_upto_region 8 with (fail)
      go_quiet (fail)
      all_goals go_wp2
      go_roundw
      case rel => exact ⟨k + 1, by omega, by go_num, below_drewN_ BW _⟩
      case measure => simp [intOf]; omega
    · obtain rfl : k = x.cols.length := by omega
      have a3 : wr.cell? ⟨w.heap.size, 3, none⟩ = some (.slice p x.kids.length c) := by rw [(bcell BW).1 _ _ hz0]; exact HA.out 3 (by omega)
      have b3 : wr.cell? ⟨w.heap.size + 1, 3, none⟩ = some (.slice p' x.kids.length c') := by rw [(bcell BW).1 _ _ hz]; exact HB.out 3 (by omega)
      have KA := Lib.hid (HKA.out.later BW (Nat.le_refl _))
      have KB := Lib.hid (HKB.out.later BW (Nat.le_refl _))
      clear hlt hk
      go_wp2_with fail
      refine (same_Ints_any _ _ x.kids _ KA.out KB.out).mono ?_
      rintro e w2 ⟨rfl, hb2⟩
      have BF : Below w.heap.size w w2 := below_via hb2 (below_via BW B0)
      clear hb2 BW
      go_wp2
      go_ret
      exact ⟨rfl, BF⟩
end Go.Proofs.Ytihjefncjkdnpaa
