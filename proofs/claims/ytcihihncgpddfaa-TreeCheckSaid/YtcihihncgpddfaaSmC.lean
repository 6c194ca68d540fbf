/- Layer 10: the reference's Same: two trees that are the same: true. -/
import Derived.Test.YtcihihncgpddfaaSmA
import Derived.Test.YtcihihncgpddfaaHeld
namespace Go.Proofs.Ytcihihncgpddfaa
open Go.RowKit Go.Deep
set_option linter.unusedVariables false
set_option linter.unusedSimpArgs false

set_option maxRecDepth 100000 in
set_option maxHeartbeats 4000000 in
theorem ref_ints_any (v v' : Value) (L : List Int) (w : World) (h : IntsAt w v L) (h' : IntsAt w v' L) : Calls Try.prog 109 #[v, v'] w fun e w' => e = .returned (.bool true) ∧ Below w.heap.size w w' := by
  obtain ⟨p, c, rfl, hl, hm, _, hc⟩ := h
  obtain ⟨p', c', rfl, hl', hm', _, hc'⟩ := h'
  have hn : L.length ≤ 9223372036854775807 := by omega
  have HC := Lib.hid hc
  have HD := Lib.hid hc'
  clear hc hc'
  go_enter Try.func109, Try.ntmps109
  go_wp2
  go_loopw [5] (fun i wr => ∃ k : Nat, k ≤ L.length ∧ i = .int .i64 k ∧ Below w.heap.size w wr) (fun i _ => L.length - (intOf i).toNat)
  case atStart => exact ⟨0, Nat.zero_le _, rfl, Below.refl _ _⟩
  case round =>
    obtain ⟨k, hk, rfl, BW⟩ := hrel
    have SW := BW.size
    by_cases hlt : k < L.length
    · have hki : (k : Int) < (L.length : Int) := by omega
      obtain ⟨b, off, rfl, hb, hcc⟩ := HC.out (by omega)
      obtain ⟨b', off', rfl, hb', hcc'⟩ := HD.out (by omega)
      have c1 := hcc k hlt
      have c2 := hcc' k hlt
      rw [← (bcell BW).1 _ _ hb] at c1
      rw [← (bcell BW).1 _ _ hb'] at c2
      have hbw : b < wr.heap.size := by omega
      have hbw' : b' < wr.heap.size := by omega
      clear hcc hcc'
      generalize L.getD k 0 = x at c1 c2
      go_upto_region 6 with (fail)
      go_quiet (fail)
      all_goals go_wp2
      go_roundw
      case rel => exact ⟨k + 1, by omega, by go_num, below_drewN_ BW _⟩
      case measure => simp [intOf]; omega
    · obtain rfl : k = L.length := by omega
      clear hlt hk
      go_wp2
      go_ret
      exact ⟨rfl, BW⟩

set_option maxRecDepth 100000 in
set_option maxHeartbeats 16000000 in
theorem ref_SameNode_any (x : Nd) (kv cv kv' cv' : Value) (w : World) (hk : IntsAt w kv x.kids) (hq : ItsAt w cv x.cols) (hk' : IntsAt w kv' x.kids) (hq' : ItsAt w cv' x.cols) : Calls Try.prog 57 #[.agg (ndV x kv cv).toArray, .agg (ndV x kv' cv').toArray] w fun e w' => e = .returned (.bool true) ∧ Below w.heap.size w w' := by
  have eq4 := eqFour
  have HK := Lib.hid hk
  have HQ := Lib.hid hq
  have HK' := Lib.hid hk'
  have HQ' := Lib.hid hq'
  obtain ⟨pc, cc, rfl, hl2, hm2, -, -⟩ := hq
  obtain ⟨pc', cc', rfl, hl2', hm2', -, -⟩ := hq'
  have hcl : x.cols.length ≤ 9223372036854775807 := by omega
  obtain ⟨cs, hcs⟩ : ∃ cs, cs = ndV x kv (.slice pc x.cols.length cc) := ⟨_, rfl⟩
  obtain ⟨ds, hds⟩ : ∃ cs, cs = ndV x kv' (.slice pc' x.cols.length cc') := ⟨_, rfl⟩
  rw [← hcs, ← hds]
  have HCS := Lib.hid hcs
  have HDS := Lib.hid hds
  clear hk hk' hl2 hm2 hl2' hm2'
  have a0 : cs[0]? = some (.int .i8 x.kind) := by rw [hcs]; rfl
  have b0 : ds[0]? = some (.int .i8 x.kind) := by rw [hds]; rfl
  have a1 : cs[1]? = some (.string x.id) := by rw [hcs]; rfl
  have b1 : ds[1]? = some (.string x.id) := by rw [hds]; rfl
  have a2 : cs[2]? = some (.string x.cls) := by rw [hcs]; rfl
  have b2 : ds[2]? = some (.string x.cls) := by rw [hds]; rfl
  have a22 : cs[22]? = some (.string x.text) := by rw [hcs]; rfl
  have b22 : ds[22]? = some (.string x.text) := by rw [hds]; rfl
  have a4 : cs[4]? = some (.int .i8 x.iw.k) := by rw [hcs]; rfl
  have b4 : ds[4]? = some (.int .i8 x.iw.k) := by rw [hds]; rfl
  have a5 : cs[5]? = some (.int .i64 x.iw.n) := by rw [hcs]; rfl
  have b5 : ds[5]? = some (.int .i64 x.iw.n) := by rw [hds]; rfl
  have a6 : cs[6]? = some (.int .i64 x.iw.d) := by rw [hcs]; rfl
  have b6 : ds[6]? = some (.int .i64 x.iw.d) := by rw [hds]; rfl
  have a7 : cs[7]? = some (.int .i64 x.iw.lo) := by rw [hcs]; rfl
  have b7 : ds[7]? = some (.int .i64 x.iw.lo) := by rw [hds]; rfl
  have a8 : cs[8]? = some (.int .i64 x.iw.hi) := by rw [hcs]; rfl
  have b8 : ds[8]? = some (.int .i64 x.iw.hi) := by rw [hds]; rfl
  have a9 : cs[9]? = some (.int .i8 x.ih.k) := by rw [hcs]; rfl
  have b9 : ds[9]? = some (.int .i8 x.ih.k) := by rw [hds]; rfl
  have a10 : cs[10]? = some (.int .i64 x.ih.n) := by rw [hcs]; rfl
  have b10 : ds[10]? = some (.int .i64 x.ih.n) := by rw [hds]; rfl
  have a11 : cs[11]? = some (.int .i64 x.ih.d) := by rw [hcs]; rfl
  have b11 : ds[11]? = some (.int .i64 x.ih.d) := by rw [hds]; rfl
  have a12 : cs[12]? = some (.int .i64 x.ih.lo) := by rw [hcs]; rfl
  have b12 : ds[12]? = some (.int .i64 x.ih.lo) := by rw [hds]; rfl
  have a13 : cs[13]? = some (.int .i64 x.ih.hi) := by rw [hcs]; rfl
  have b13 : ds[13]? = some (.int .i64 x.ih.hi) := by rw [hds]; rfl
  have a14 : cs[14]? = some (.int .i64 x.gap) := by rw [hcs]; rfl
  have b14 : ds[14]? = some (.int .i64 x.gap) := by rw [hds]; rfl
  have a15 : cs[15]? = some (.int .i64 x.p0) := by rw [hcs]; rfl
  have b15 : ds[15]? = some (.int .i64 x.p0) := by rw [hds]; rfl
  have a16 : cs[16]? = some (.int .i64 x.p1) := by rw [hcs]; rfl
  have b16 : ds[16]? = some (.int .i64 x.p1) := by rw [hds]; rfl
  have a17 : cs[17]? = some (.int .i64 x.p2) := by rw [hcs]; rfl
  have b17 : ds[17]? = some (.int .i64 x.p2) := by rw [hds]; rfl
  have a18 : cs[18]? = some (.int .i64 x.p3) := by rw [hcs]; rfl
  have b18 : ds[18]? = some (.int .i64 x.p3) := by rw [hds]; rfl
  have a24 : cs[24]? = some (.int .i32 x.fg) := by rw [hcs]; rfl
  have b24 : ds[24]? = some (.int .i32 x.fg) := by rw [hds]; rfl
  have a25 : cs[25]? = some (.int .i32 x.bg) := by rw [hcs]; rfl
  have b25 : ds[25]? = some (.int .i32 x.bg) := by rw [hds]; rfl
  have a26 : cs[26]? = some (.int .u8 x.add) := by rw [hcs]; rfl
  have b26 : ds[26]? = some (.int .u8 x.add) := by rw [hds]; rfl
  have a27 : cs[27]? = some (.int .u8 x.drop) := by rw [hcs]; rfl
  have b27 : ds[27]? = some (.int .u8 x.drop) := by rw [hds]; rfl
  have a29 : cs[29]? = some (.int .i64 x.x0) := by rw [hcs]; rfl
  have b29 : ds[29]? = some (.int .i64 x.x0) := by rw [hds]; rfl
  have a30 : cs[30]? = some (.int .i64 x.x1) := by rw [hcs]; rfl
  have b30 : ds[30]? = some (.int .i64 x.x1) := by rw [hds]; rfl
  have a31 : cs[31]? = some (.int .i64 x.x2) := by rw [hcs]; rfl
  have b31 : ds[31]? = some (.int .i64 x.x2) := by rw [hds]; rfl
  have a32 : cs[32]? = some (.int .i64 x.x3) := by rw [hcs]; rfl
  have b32 : ds[32]? = some (.int .i64 x.x3) := by rw [hds]; rfl
  have a33 : cs[33]? = some (.int .u8 x.flags) := by rw [hcs]; rfl
  have b33 : ds[33]? = some (.int .u8 x.flags) := by rw [hds]; rfl
  have a28 : cs[28]? = some (.slice pc x.cols.length cc) := by rw [hcs]; rfl
  have b28 : ds[28]? = some (.slice pc' x.cols.length cc') := by rw [hds]; rfl
  clear hcs hds
  go_enter Try.func57, Try.ntmps57
  go_upto_region 3 with (fail)
  clear a0 b0 a1 b1 a2 b2 a22 b22 a4 b4 a5 b5 a6 b6 a7 b7 a8 b8 a9 b9 a10 b10 a11 b11 a12 b12 a13 b13 a14 b14 a15 b15 a16 b16 a17 b17 a18 b18 a24 b24 a25 b25 a26 b26 a27 b27 a29 b29 a30 b30 a31 b31 a32 b32 a33 b33 a28 b28
  obtain ⟨w3, hw3⟩ : ∃ x, x = w.alloc (.cells cs.toArray 64) := ⟨_, rfl⟩
  have s3 : w3.heap.size = w.heap.size + 1 := by rw [hw3]; simp
  obtain ⟨w0, hw0⟩ : ∃ x, x = w3.alloc (.cells ds.toArray 64) := ⟨_, rfl⟩
  rw [← hw3, ← hw0, ← s3]
  have HA : RowKit.Hid (∀ j, j < 34 → w0.cell? ⟨w.heap.size, j, none⟩ = (ndV x kv (.slice pc x.cols.length cc))[j]?) := Lib.hid (fun j hj => by
    rw [hw0, hw3, HCS.out, cell_of_row _ w.heap.size j _ 64 (0, 0) (heap_alloc2_old _ _ _)]
    simp)
  have HB : RowKit.Hid (∀ j, j < 34 → w0.cell? ⟨w3.heap.size, j, none⟩ = (ndV x kv' (.slice pc' x.cols.length cc'))[j]?) := Lib.hid (fun j hj => by
    rw [hw0, HDS.out, cell_of_row _ w3.heap.size j _ 64 (0, 0) (heap_alloc_new _ _)]
    simp)
  have HB0 : RowKit.Hid (Below w.heap.size w w0) := Lib.hid (by rw [hw0, hw3]; exact below_al (below_al (Below.refl _ _) _) _)
  have hz0 : w.heap.size < w0.heap.size := by rw [hw0]; simp; omega
  have hz1 : w3.heap.size < w0.heap.size := by rw [hw0]; simp
  obtain ⟨ga, hga⟩ : ∃ g, g = w.heap.size := ⟨_, rfl⟩
  obtain ⟨gb, hgb⟩ : ∃ g, g = w3.heap.size := ⟨_, rfl⟩
  rw [← hga] at HA hz0
  rw [← hgb] at HB hz1
  rw [← hga, ← hgb]
  clear hw3 hw0 s3 hga hgb HCS HDS
  have a28 : w0.cell? ⟨ga, 28, none⟩ = some (.slice pc x.cols.length cc) := HA.out 28 (by omega)
  have b28 : w0.cell? ⟨gb, 28, none⟩ = some (.slice pc' x.cols.length cc') := HB.out 28 (by omega)
  go_wp2
  go_loopw [5] (fun i wr => ∃ k : Nat, k ≤ x.cols.length ∧ i = .int .i64 k ∧ RowKit.Hid (Below w0.heap.size w0 wr)) (fun i _ => x.cols.length - (intOf i).toNat)
  case atStart => exact ⟨0, Nat.zero_le _, rfl, Lib.hid (Below.refl _ _)⟩
  case round =>
    obtain ⟨k, hk, rfl, BQ⟩ := hrel
    have SQ := BQ.out.size
    clear a28 b28
    have a28 : wr.cell? ⟨ga, 28, none⟩ = some (.slice pc x.cols.length cc) := by rw [(bcell BQ.out).1 _ _ hz0]; exact HA.out 28 (by omega)
    have b28 : wr.cell? ⟨gb, 28, none⟩ = some (.slice pc' x.cols.length cc') := by rw [(bcell BQ.out).1 _ _ hz1]; exact HB.out 28 (by omega)
    have y0 : ga < wr.heap.size := by omega
    have y1 : gb < wr.heap.size := by omega
    by_cases hlt : k < x.cols.length
    · have hki : (k : Int) < (x.cols.length : Int) := by omega
      obtain ⟨_, _, eq1, _, _, _, hcc⟩ := HQ.out.later HB0.out (Nat.le_refl _)
      injection eq1 with eq1 _ eq2
      subst eq1 eq2
      obtain ⟨_, _, eq1, _, _, _, hdd⟩ := HQ'.out.later HB0.out (Nat.le_refl _)
      injection eq1 with eq1 _ eq2
      subst eq1 eq2
      obtain ⟨b, off, rfl, hb, hcc⟩ := hcc (by omega)
      obtain ⟨b', off', rfl, hb', hdd⟩ := hdd (by omega)
      have hbw : b < wr.heap.size := by omega
      have hbw' : b' < wr.heap.size := by omega
      have hcc := hcc k hlt
      have hdd := hdd k hlt
      generalize x.cols.getD k zIt = it at hcc hdd
      have i0 : wr.cell? ⟨b, off + k * 5, none⟩ = some (.int .i8 it.k) := by rw [(bcell BQ.out).1 _ _ hb]; exact hcc 0 (by omega)
      have j0 : wr.cell? ⟨b', off' + k * 5, none⟩ = some (.int .i8 it.k) := by rw [(bcell BQ.out).1 _ _ hb']; exact hdd 0 (by omega)
      have i1 : wr.cell? ⟨b, off + k * 5 + 1, none⟩ = some (.int .i64 it.n) := by rw [(bcell BQ.out).1 _ _ hb]; exact hcc 1 (by omega)
      have j1 : wr.cell? ⟨b', off' + k * 5 + 1, none⟩ = some (.int .i64 it.n) := by rw [(bcell BQ.out).1 _ _ hb']; exact hdd 1 (by omega)
      have i2 : wr.cell? ⟨b, off + k * 5 + 2, none⟩ = some (.int .i64 it.d) := by rw [(bcell BQ.out).1 _ _ hb]; exact hcc 2 (by omega)
      have j2 : wr.cell? ⟨b', off' + k * 5 + 2, none⟩ = some (.int .i64 it.d) := by rw [(bcell BQ.out).1 _ _ hb']; exact hdd 2 (by omega)
      have i3 : wr.cell? ⟨b, off + k * 5 + 3, none⟩ = some (.int .i64 it.lo) := by rw [(bcell BQ.out).1 _ _ hb]; exact hcc 3 (by omega)
      have j3 : wr.cell? ⟨b', off' + k * 5 + 3, none⟩ = some (.int .i64 it.lo) := by rw [(bcell BQ.out).1 _ _ hb']; exact hdd 3 (by omega)
      have i4 : wr.cell? ⟨b, off + k * 5 + 4, none⟩ = some (.int .i64 it.hi) := by rw [(bcell BQ.out).1 _ _ hb]; exact hcc 4 (by omega)
      have j4 : wr.cell? ⟨b', off' + k * 5 + 4, none⟩ = some (.int .i64 it.hi) := by rw [(bcell BQ.out).1 _ _ hb']; exact hdd 4 (by omega)
      clear hcc hdd
      go_upto_region 6 with (fail)
      go_quiet (fail)
      all_goals go_wp2
      go_roundw
      case rel => exact ⟨k + 1, by omega, by go_num, Lib.hid (below_drewN_ BQ.out _)⟩
      case measure => simp [intOf]; omega
    · obtain rfl : k = x.cols.length := by omega
      have a3 : wr.cell? ⟨ga, 3, none⟩ = some kv := by rw [(bcell BQ.out).1 _ _ hz0]; exact HA.out 3 (by omega)
      have b3 : wr.cell? ⟨gb, 3, none⟩ = some kv' := by rw [(bcell BQ.out).1 _ _ hz1]; exact HB.out 3 (by omega)
      have BW := Lib.hid (below_via BQ.out HB0.out)
      clear hlt hk SQ
      go_wp2_with fail
      refine (ref_ints_any _ _ x.kids _ (HK.out.later BW.out (Nat.le_refl _)) (HK'.out.later BW.out (Nat.le_refl _))).mono ?_
      rintro e w5 ⟨rfl, hb5⟩
      have HB5 := Lib.hid (below_via hb5 BQ.out)
      have HF := Lib.hid (below_via hb5 BW.out)
      have zA : ga < w5.heap.size := by have := hb5.size; omega
      have zB : gb < w5.heap.size := by have := hb5.size; omega
      clear hb5 a3 b3
      have a19 : w5.cell? ⟨ga, 19, none⟩ = some (.int .i8 x.border) := by rw [(bcell HB5.out).1 _ _ hz0]; exact HA.out 19 (by omega)
      have b19 : w5.cell? ⟨gb, 19, none⟩ = some (.int .i8 x.border) := by rw [(bcell HB5.out).1 _ _ hz1]; exact HB.out 19 (by omega)
      have a20 : w5.cell? ⟨ga, 20, none⟩ = some (.int .i8 x.align) := by rw [(bcell HB5.out).1 _ _ hz0]; exact HA.out 20 (by omega)
      have b20 : w5.cell? ⟨gb, 20, none⟩ = some (.int .i8 x.align) := by rw [(bcell HB5.out).1 _ _ hz1]; exact HB.out 20 (by omega)
      have a21 : w5.cell? ⟨ga, 21, none⟩ = some (.int .i8 x.cross) := by rw [(bcell HB5.out).1 _ _ hz0]; exact HA.out 21 (by omega)
      have b21 : w5.cell? ⟨gb, 21, none⟩ = some (.int .i8 x.cross) := by rw [(bcell HB5.out).1 _ _ hz1]; exact HB.out 21 (by omega)
      have a23 : w5.cell? ⟨ga, 23, none⟩ = some (.int .i8 x.wrap) := by rw [(bcell HB5.out).1 _ _ hz0]; exact HA.out 23 (by omega)
      have b23 : w5.cell? ⟨gb, 23, none⟩ = some (.int .i8 x.wrap) := by rw [(bcell HB5.out).1 _ _ hz1]; exact HB.out 23 (by omega)
      have a33 : w5.cell? ⟨ga, 33, none⟩ = some (.int .u8 x.flags) := by rw [(bcell HB5.out).1 _ _ hz0]; exact HA.out 33 (by omega)
      have b33 : w5.cell? ⟨gb, 33, none⟩ = some (.int .u8 x.flags) := by rw [(bcell HB5.out).1 _ _ hz1]; exact HB.out 33 (by omega)
      go_wp2
      go_ret
      exact ⟨rfl, HF.out⟩
set_option maxRecDepth 100000 in
set_option maxHeartbeats 16000000 in
theorem ref_Same_any (pt pu : Option Addr) (ct cu : Nat) (T : List Nd) (w : World) (hT : TreeAt w (.slice pt T.length ct) T) (hU : TreeAt w (.slice pu T.length cu) T) : Calls Try.prog 23 #[.agg #[.slice pt T.length ct], .agg #[.slice pu T.length cu]] w fun e w' => e = .returned (.bool true) ∧ Below w.heap.size w w' := by
  have hlen := hT.len
  obtain ⟨_, _, p, c, e, _, _, hn⟩ := hT
  injection e with e1 _ e3
  subst e1 e3
  obtain ⟨_, _, p, c, e, _, _, hm⟩ := hU
  injection e with e1 _ e3
  subst e1 e3
  obtain ⟨W1, hW1⟩ : ∃ x, x = (w.alloc (.cells #[.slice pt T.length ct] 24)).alloc (.cells #[.slice pu T.length cu] 24) := ⟨_, rfl⟩
  have B1 : Below w.heap.size w W1 := by rw [hW1]; exact below_al (below_al (Below.refl _ _) _) _
  have t0 : W1.cell? ⟨w.heap.size, 0, none⟩ = some (.slice pt T.length ct) := by rw [hW1]; simp [go_sem]
  have t1 : W1.cell? ⟨w.heap.size + 1, 0, none⟩ = some (.slice pu T.length cu) := by rw [hW1]; simp [go_sem]
  have z1 : w.heap.size + 1 < W1.heap.size := by rw [hW1]; simp
  have z0 : w.heap.size < W1.heap.size := by omega
  have HN := Lib.hid hn
  have HM := Lib.hid hm
  have HB1 := Lib.hid B1
  have HT0 := Lib.hid t0
  have HT1 := Lib.hid t1
  clear hn hm B1
  go_enter Try.func23, Try.ntmps23
  go_upto_region 1 with (fail)
  rw [← hW1]
  clear hW1
  go_wp2
  go_loopw [5] (fun iv wr => ∃ j : Nat, j ≤ T.length ∧ iv = .int .i64 j ∧ RowKit.Hid (Below W1.heap.size W1 wr)) (fun iv _ => T.length - (intOf iv).toNat)
  case atStart => exact ⟨0, Nat.zero_le _, rfl, Lib.hid (Below.refl _ _)⟩
  case round =>
    clear t0 t1
    obtain ⟨j, hj, rfl, BW⟩ := hrel
    have SW := BW.out.size
    have t0 : wr.cell? ⟨w.heap.size, 0, none⟩ = some (.slice pt T.length ct) := by rw [(bcell BW.out).1 _ _ z0]; exact HT0.out
    have t1 : wr.cell? ⟨w.heap.size + 1, 0, none⟩ = some (.slice pu T.length cu) := by rw [(bcell BW.out).1 _ _ z1]; exact HT1.out
    have y0 : w.heap.size < wr.heap.size := by omega
    have y1 : w.heap.size + 1 < wr.heap.size := by omega
    by_cases hlt : j < T.length
    · have hji : (j : Int) < (T.length : Int) := by omega
      obtain ⟨b, off, rfl, hb, hn⟩ := HN.out (by omega)
      obtain ⟨b', off', rfl, hb', hm⟩ := HM.out (by omega)
      have BWW := Lib.hid (below_via BW.out HB1.out)
      have hbw : b < wr.heap.size := by have := BWW.out.size; omega
      have hbw' : b' < wr.heap.size := by have := BWW.out.size; omega
      obtain ⟨kv, cv, hk, hq, hc⟩ := (hn j hlt).later BWW.out (Nat.le_refl _) hb
      obtain ⟨kv', cv', hk', hq', hc'⟩ := (hm j hlt).later BWW.out (Nat.le_refl _) hb'
      clear hn hm
      generalize T.getD j zNd = x at hk hq hc hk' hq' hc'
      have RNG := nd_range hc
      have LEN := ndV_len x kv cv
      have RNG' := nd_range hc'
      have LEN' := ndV_len x kv' cv'
      obtain ⟨ns, hcs⟩ : ∃ cs, cs = ndV x kv cv := ⟨_, rfl⟩
      obtain ⟨ms, hds⟩ : ∃ cs, cs = ndV x kv' cv' := ⟨_, rfl⟩
      rw [← hcs] at RNG LEN
      rw [← hds] at RNG' LEN'
      have HNS := Lib.hid hcs
      have HMS := Lib.hid hds
      have HRN := Lib.hid RNG
      have HRM := Lib.hid RNG'
      have HK := Lib.hid hk
      have HQ := Lib.hid hq
      have HK' := Lib.hid hk'
      have HQ' := Lib.hid hq'
      have LN1 := Lib.hid (show (Try.prog.info? 64).map (·.size) = some ns.length by rw [LEN]; exact infoN)
      have LN2 := Lib.hid (show (Try.prog.info? 64).map (·.size) = some ms.length by rw [LEN']; exact infoN)
      clear hc hc' hcs hds RNG RNG' LEN LEN' hk hq hk' hq'
      go_upto_region 6 with (fail)
      have BWD := Lib.hid BW
      have HF0 := Lib.hid (fun w' (h : Below wr.heap.size wr w') => show w'.cell? ⟨w.heap.size, 0, none⟩ = some (.slice (some ⟨b, off, none⟩) T.length ct) by rw [(bcell h).1 _ _ y0]; exact t0)
      have HF1 := Lib.hid (fun w' (h : Below wr.heap.size wr w') => show w'.cell? ⟨w.heap.size + 1, 0, none⟩ = some (.slice (some ⟨b', off', none⟩) T.length cu) by rw [(bcell h).1 _ _ y1]; exact t1)
      have HR1 := Lib.hid (fun w' (h : Below wr.heap.size wr w') => show w'.rangeAt b (off + j * 34) ns from fun i u hu => by rw [(bcell h).1 _ _ hbw]; exact HRN.out i u hu)
      have HR2 := Lib.hid (fun w' (h : Below wr.heap.size wr w') => show w'.rangeAt b' (off' + j * 34) ms from fun i u hu => by rw [(bcell h).1 _ _ hbw']; exact HRM.out i u hu)
      have CALL : RowKit.Hid (∀ W, Below wr.heap.size wr W → Calls Try.prog 57 #[.agg ns.toArray, .agg ms.toArray] W fun e w' => e = .returned (.bool true) ∧ Below W.heap.size W w') := Lib.hid (by
        rw [HNS.out, HMS.out]
        intro W hS
        exact ref_SameNode_any x _ _ _ _ W (HK.out.later hS (Nat.le_refl _)) (HQ.out.later hS (Nat.le_refl _)) (HK'.out.later hS (Nat.le_refl _)) (HQ'.out.later hS (Nat.le_refl _)))
      clear t0 t1
      refine wp_region_noPanic ?_
      refine wp_region_lexH (fun w' => Below wr.heap.size wr w') (by kernel_rfl) (by kernel_rfl) (fun _ _ _ _ _ h => h) (Below.drew (Below.refl _ _)) ?_
      apply lexH_run (by rfl)
      · (intro w h; clear h; go_simp; try rfl)
      (try simp only [Act.put, List.setIfInBounds_toArray, List.set_cons_zero, List.set_cons_succ])
      apply lexH_run (by rfl)
      · (intro w h; have FK := And.intro (HF0.out w h) (HF1.out w h); clear h; go_split_ands; go_simp; try rfl)
      (try simp only [Act.put, List.setIfInBounds_toArray, List.set_cons_zero, List.set_cons_succ])
      apply lexH_run (by rfl)
      · (intro w h; clear h; go_simp; try rfl)
      (try simp only [Act.put, List.setIfInBounds_toArray, List.set_cons_zero, List.set_cons_succ])
      apply lexH_run (by rfl)
      · (intro w h; clear h; go_simp; try rfl)
      (try simp only [Act.put, List.setIfInBounds_toArray, List.set_cons_zero, List.set_cons_succ])
      refine lexH_load (by rfl) 64 (.tmp 23) rfl b (off + j * 34) rfl ns _ (fun w h => HR1.out w h) Try.underlying64 rfl LN1.out ?_
      (try simp only [Act.put, List.setIfInBounds_toArray, List.set_cons_zero, List.set_cons_succ])
      apply lexH_run (by rfl)
      · (intro w h; clear h; go_simp; try rfl)
      (try simp only [Act.put, List.setIfInBounds_toArray, List.set_cons_zero, List.set_cons_succ])
      apply lexH_run (by rfl)
      · (intro w h; have FK := And.intro (HF0.out w h) (HF1.out w h); clear h; go_split_ands; go_simp; try rfl)
      (try simp only [Act.put, List.setIfInBounds_toArray, List.set_cons_zero, List.set_cons_succ])
      apply lexH_run (by rfl)
      · (intro w h; clear h; go_simp; try rfl)
      (try simp only [Act.put, List.setIfInBounds_toArray, List.set_cons_zero, List.set_cons_succ])
      apply lexH_run (by rfl)
      · (intro w h; clear h; go_simp; try rfl)
      (try simp only [Act.put, List.setIfInBounds_toArray, List.set_cons_zero, List.set_cons_succ])
      refine lexH_load (by rfl) 64 (.tmp 28) rfl b' (off' + j * 34) rfl ms _ (fun w h => HR2.out w h) Try.underlying64 rfl LN2.out ?_
      (try simp only [Act.put, List.setIfInBounds_toArray, List.set_cons_zero, List.set_cons_succ])
      refine lexH_call (by kernel_rfl) (by rfl) (by go_simp; first | exact ⟨rfl, rfl⟩ | rfl) ?_
      intro hS
      refine (CALL.out _ hS).mono ?_
      rintro e w5 ⟨rfl, hb5⟩
      have hb5 := below_via hb5 hS
      refine ⟨_, rfl, hb5, ?_⟩
      clear hS
      (try simp only [Act.put, List.setIfInBounds_toArray, List.set_cons_zero, List.set_cons_succ])
      apply lexH_run (by rfl)
      · (intro w h; clear h; go_simp; try rfl)
      (try simp only [Act.put, List.setIfInBounds_toArray, List.set_cons_zero, List.set_cons_succ])
      apply lexH_nil
      refine NoPanic.normal ?_
      have BF := Lib.hid (below_via hb5 BW.out)
      clear hb5
      go_wp2
      go_roundw
      case rel => exact ⟨j + 1, by omega, by go_num, BF⟩
      case measure => simp [intOf]; omega
    · obtain rfl : j = T.length := by omega
      have BF := Lib.hid (below_via BW.out HB1.out)
      clear SW
      go_wp2
      go_ret
      exact ⟨rfl, BF.out⟩
end Go.Proofs.Ytcihihncgpddfaa
