/- Layer 13: Merge. -/
import Derived.Test.YtebalohoblaedaaGlyI
import Derived.Lib.Bytealg
namespace Go.Proofs.Ytebalohoblaedaa
open Go.RowKit
set_option linter.unusedVariables false
set_option linter.unusedSimpArgs false

theorem quiet_left {P : Program} {f : FuncId} {args : Array Value} {w : World} {n : Nat} {v : Value}
    (h : Calls P f args (w.drewN n) fun e w' => e = .returned v ∧ w.drewN n = w') : Calls P f args (w.drewN n) fun e w'' => e = .returned v ∧ ∃ m, w'' = w.drewN m :=
  h.mono fun _ _ ⟨he, hm⟩ => ⟨he, n, hm.symm⟩
theorem below_drewN {B : Nat} {a w : World} (h : Below B a w) (n : Nat) : Below B a (w.drewN n) := ⟨h.os, h.tape, h.output, h.size, h.block⟩
/-- how strong a kind of line is -/
def rnk (x : Int) : Int := if x = 1 then 2 else if x = 2 then 3 else if x = 3 then 4 else if x = 4 then 1 else 0
set_option maxRecDepth 100000 in
theorem sidx (s : ByteArray) (c : Int) (w : World) : Calls Try.prog 52 #[.string s, .int .u8 c] w fun e w' => e = .returned (.int .i64 (Lib.indexByte s.data.toList c.toNat.toUInt8)) ∧ w = w' := by
  go_enter Try.func52, Try.ntmps52
  go_wp2
  rw [run_callFunc_extern Try.func59 (by kernel_rfl) (by kernel_rfl) (by kernel_rfl) (e := Extern.BytealgIndexByte.indexByte) (by kernel_rfl), Lib.run_indexByteString]
  simp only [Result.andThen]
  rw [Oper.upon_value]
  go_wp2
  go_ret
  exact ⟨rfl, rfl⟩
theorem idx_rnk (x : Int) : Lib.indexByte [45, 82, 76, 72, 68] (letN x).toNat.toUInt8 = rnk x := by
  unfold letN rnk
  split
  · decide
  split
  · decide
  split
  · decide
  split
  · decide
  · decide
theorem idx_any (x : Int) (w : World) : Calls Try.prog 42 #[.string ⟨#[45, 82, 76, 72, 68]⟩, .int .u8 (letN x)] w fun e w' => e = .returned (.int .i64 (rnk x)) ∧ w = w' := by
  rw [← idx_rnk]
  go_enter Try.func42, Try.ntmps42
  go_wp2_with (go_at_call 52; refine (sidx _ _ _).mono ?_; rintro e w' ⟨rfl, rfl⟩)
  go_ret
  exact ⟨rfl, rfl⟩
set_option maxHeartbeats 4000000 in
theorem strength_any (x : Int) (w : World) : Calls Try.prog 41 #[.int .i8 x] w fun e w' => e = .returned (.int .i64 (rnk x)) ∧ Below w.heap.size w w' := by
  generalize hq : rnk x = q
  have HQ := Lib.hid hq
  clear hq
  by_cases h0 : x = 0
  · subst h0
    go_enter Try.func41, Try.ntmps41
    go_wp2
    refine wp_loop_rounds 6 ?_
    rw [rounds_succ]
    go_wp2
    go_ret
    exact ⟨by rw [← HQ.out]; rfl, by go_grown⟩
  by_cases h4 : x = 4
  · subst h4
    go_enter Try.func41, Try.ntmps41
    go_wp2
    refine wp_loop_rounds 6 ?_
    rw [rounds_succ]
    go_wp2
    rw [rounds_succ]
    go_wp2
    go_ret
    exact ⟨by rw [← HQ.out]; rfl, by go_grown⟩
  by_cases h1 : x = 1
  · subst h1
    go_enter Try.func41, Try.ntmps41
    go_wp2
    refine wp_loop_rounds 6 ?_
    rw [rounds_succ]
    go_wp2
    rw [rounds_succ]
    go_wp2
    rw [rounds_succ]
    go_wp2
    go_ret
    exact ⟨by rw [← HQ.out]; rfl, by go_grown⟩
  by_cases h2 : x = 2
  · subst h2
    go_enter Try.func41, Try.ntmps41
    go_wp2
    refine wp_loop_rounds 6 ?_
    rw [rounds_succ]
    go_wp2
    rw [rounds_succ]
    go_wp2
    rw [rounds_succ]
    go_wp2
    rw [rounds_succ]
    go_wp2
    go_ret
    exact ⟨by rw [← HQ.out]; rfl, by go_grown⟩
  by_cases h3 : x = 3
  · subst h3
    go_enter Try.func41, Try.ntmps41
    go_wp2
    refine wp_loop_rounds 6 ?_
    rw [rounds_succ]
    go_wp2
    rw [rounds_succ]
    go_wp2
    rw [rounds_succ]
    go_wp2
    rw [rounds_succ]
    go_wp2
    rw [rounds_succ]
    go_wp2
    go_ret
    exact ⟨by rw [← HQ.out]; rfl, by go_grown⟩
  have E : RowKit.Hid (q = 0) := Lib.hid (by rw [← HQ.out]; unfold rnk; rw [if_neg h1, if_neg h2, if_neg h3, if_neg h4])
  have g0 : (0 == x) = false := by simp; omega
  have g1 : (1 == x) = false := by simp; omega
  have g2 : (2 == x) = false := by simp; omega
  have g3 : (3 == x) = false := by simp; omega
  have g4 : (4 == x) = false := by simp; omega
  clear h0 h1 h2 h3 h4 HQ
  go_enter Try.func41, Try.ntmps41
  go_wp2
  refine wp_loop_rounds 6 ?_
  iterate 6
    rw [rounds_succ]
    go_wp2
  go_ret
  exact ⟨by rw [E.out]; rfl, by go_grown⟩

theorem idxA0 (w : World) (a b c d : Int) : (Instr.index 25 (.agg #[.int .i8 a, .int .i8 b, .int .i8 c, .int .i8 d]) (.int .i64 0)).run Try.prog w = .ok (.int .i8 a) w := by kernel_rfl
theorem idxA1 (w : World) (a b c d : Int) : (Instr.index 25 (.agg #[.int .i8 a, .int .i8 b, .int .i8 c, .int .i8 d]) (.int .i64 1)).run Try.prog w = .ok (.int .i8 b) w := by kernel_rfl
theorem idxA2 (w : World) (a b c d : Int) : (Instr.index 25 (.agg #[.int .i8 a, .int .i8 b, .int .i8 c, .int .i8 d]) (.int .i64 2)).run Try.prog w = .ok (.int .i8 c) w := by kernel_rfl
theorem idxA3 (w : World) (a b c d : Int) : (Instr.index 25 (.agg #[.int .i8 a, .int .i8 b, .int .i8 c, .int .i8 d]) (.int .i64 3)).run Try.prog w = .ok (.int .i8 d) w := by kernel_rfl
/-- arms that lie in memory one behind the other -/
def ArmsAt (w : World) (b off : Nat) (L : List A4) : Prop := ∀ i, i < L.length → w.cell? ⟨b, off + i * 4, none⟩ = some (.int .i8 (L.getD i zA).u) ∧ w.cell? ⟨b, off + i * 4 + 1, none⟩ = some (.int .i8 (L.getD i zA).r) ∧ w.cell? ⟨b, off + i * 4 + 2, none⟩ = some (.int .i8 (L.getD i zA).d) ∧ w.cell? ⟨b, off + i * 4 + 3, none⟩ = some (.int .i8 (L.getD i zA).l)
theorem ArmsAt.later {w wr : World} {b off : Nat} {L : List A4} {B : Nat} (h : ArmsAt w b off L) (hb : Below B w wr) (hB : b < B) : ArmsAt wr b off L := by
  intro i hi
  obtain ⟨h0, h1, h2, h3⟩ := h i hi
  obtain ⟨hc, hf⟩ := bcell hb
  exact ⟨by rw [hc _ _ hB]; exact h0, by rw [hc _ _ hB]; exact h1, by rw [hc _ _ hB]; exact h2, by rw [hc _ _ hB]; exact h3⟩
/-- what a slice's address holds -/
def SlA (w : World) (p : Option Addr) (L : List A4) : Prop := L.length ≠ 0 → ∃ b off, p = some ⟨b, off, none⟩ ∧ b < w.heap.size ∧ ArmsAt w b off L
theorem SlA.later {w wr : World} {p : Option Addr} {L : List A4} (h : SlA w p L) (hb : Below w.heap.size w wr) : SlA wr p L := by
  intro h0
  obtain ⟨b, off, rfl, h1, h2⟩ := h h0
  exact ⟨b, off, rfl, Nat.lt_of_lt_of_le h1 hb.size, h2.later hb h1⟩
def mst (x : A4) (o : A4) (i : Nat) : A4 := if rnk (o.get i) < rnk (x.get i) then o.put i (x.get i) else o
def mrg (o a : A4) : A4 := it (mst (cntA a)) o 4
/-- the strongest arms -/
def mergeA (L : List A4) : A4 := L.foldl mrg zA
def macc (L : List A4) (k : Nat) : A4 := (L.take k).foldl mrg zA
theorem macc_succ (L : List A4) (k : Nat) (h : k < L.length) : macc L (k + 1) = mrg (macc L k) (L.getD k zA) := by
  unfold macc
  rw [List.take_succ_eq_append_getElem h, List.foldl_append]
  simp [List.getD_eq_getElem?_getD, h]
theorem macc_all (L : List A4) : macc L L.length = mergeA L := by unfold macc mergeA; rw [List.take_length]

set_option maxRecDepth 100000 in
set_option maxHeartbeats 16000000 in
theorem merge_any (p : Option Addr) (len cap : Nat) (L : List A4) (w : World) (hL : L.length = len) (hlen : len ≤ 140737488351232) (hp : SlA w p L) : Calls Try.prog 20 #[.slice p len cap] w fun e w' => e = .returned (.agg #[.int .i8 ((mergeA L).u), .int .i8 ((mergeA L).r), .int .i8 ((mergeA L).d), .int .i8 ((mergeA L).l)]) ∧ Below w.heap.size w w' := by
  have Z : RowKit.Hid (mergeA L = macc L len) := Lib.hid (by rw [← hL]; exact (macc_all L).symm)
  generalize mergeA L = z at Z ⊢
  have HC := Lib.hid hp
  have HL := Lib.hid hL
  clear hp hL
  go_enter Try.func20, Try.ntmps20
  go_wp2
  go_loopw [5, 6, 7, 10] (fun _ _ _ i wr => ∃ k : Nat, k ≤ len ∧ i = .int .i64 k ∧ (w.heap.size < wr.heap.size ∧ w.heap.size + 1 < wr.heap.size ∧ wr.cell? ⟨w.heap.size, 0, none⟩ = some (.int .i8 0) ∧ wr.cell? ⟨w.heap.size, 1, none⟩ = some (.int .i8 0) ∧ wr.cell? ⟨w.heap.size, 2, none⟩ = some (.int .i8 0) ∧ wr.cell? ⟨w.heap.size, 3, none⟩ = some (.int .i8 0) ∧ wr.frozen? ⟨w.heap.size, 0, none⟩ = false ∧ wr.frozen? ⟨w.heap.size, 1, none⟩ = false ∧ wr.frozen? ⟨w.heap.size, 2, none⟩ = false ∧ wr.frozen? ⟨w.heap.size, 3, none⟩ = false ∧ wr.frozen? ⟨w.heap.size + 1, 0, none⟩ = false ∧ wr.frozen? ⟨w.heap.size + 1, 1, none⟩ = false ∧ wr.frozen? ⟨w.heap.size + 1, 2, none⟩ = false ∧ wr.frozen? ⟨w.heap.size + 1, 3, none⟩ = false) ∧ RowKit.Hid (wr.cell? ⟨w.heap.size + 1, 0, none⟩ = some (.int .i8 (macc L k).u) ∧ wr.cell? ⟨w.heap.size + 1, 1, none⟩ = some (.int .i8 (macc L k).r) ∧ wr.cell? ⟨w.heap.size + 1, 2, none⟩ = some (.int .i8 (macc L k).d) ∧ wr.cell? ⟨w.heap.size + 1, 3, none⟩ = some (.int .i8 (macc L k).l)) ∧ Below w.heap.size w wr) (fun _ _ _ i _ => len - (intOf i).toNat)
  case atStart => exact ⟨0, by omega, rfl, by simp [go_sem], Lib.hid (by simp [go_sem, macc, zA]), by go_grown⟩
  case round =>
    rename_i wr
    obtain ⟨m, hm, rfl, hsz, hcs, BW⟩ := hrel
    by_cases hlt : m < len
    · obtain ⟨b, off, rfl, hbw, hcl⟩ := HC.out (by rw [HL.out]; omega)
      obtain ⟨l0, l1, l2, l3⟩ := (hcl.later BW hbw) m (by rw [HL.out]; exact hlt)
      have EM := Lib.hid (macc_succ L m (by rw [HL.out]; exact hlt))
      generalize L.getD m zA = a at l0 l1 l2 l3 EM
      generalize macc L m = o at EM hcs
      obtain ⟨a0, a1, a2, a3⟩ := a
      simp only [] at l0 l1 l2 l3
      clear hcl
      go_wp2_with fail
      refine (counted_any _ _ _ _ _).mono ?_
      rintro e w1 ⟨rfl, hb⟩
      have B1 : Below w.heap.size w w1 := below_via hb (show Below w.heap.size w _ by go_grown)
      have hsz1 : (w.heap.size < w1.heap.size ∧ w.heap.size + 1 < w1.heap.size ∧ w1.cell? ⟨w.heap.size, 0, none⟩ = some (.int .i8 0) ∧ w1.cell? ⟨w.heap.size, 1, none⟩ = some (.int .i8 0) ∧ w1.cell? ⟨w.heap.size, 2, none⟩ = some (.int .i8 0) ∧ w1.cell? ⟨w.heap.size, 3, none⟩ = some (.int .i8 0) ∧ w1.frozen? ⟨w.heap.size, 0, none⟩ = false ∧ w1.frozen? ⟨w.heap.size, 1, none⟩ = false ∧ w1.frozen? ⟨w.heap.size, 2, none⟩ = false ∧ w1.frozen? ⟨w.heap.size, 3, none⟩ = false ∧ w1.frozen? ⟨w.heap.size + 1, 0, none⟩ = false ∧ w1.frozen? ⟨w.heap.size + 1, 1, none⟩ = false ∧ w1.frozen? ⟨w.heap.size + 1, 2, none⟩ = false ∧ w1.frozen? ⟨w.heap.size + 1, 3, none⟩ = false) := by
        obtain ⟨hc, hf⟩ := bcell hb
        have hz := hb.size
        simp only [World.size_alloc] at hz
        refine ⟨by omega, by omega, ?_⟩
        (repeat' apply And.intro) <;> first | (rw [hc _ _ (by simp; omega)]; simp [go_sem, hsz]; done) | (rw [hf _ _ (by simp; omega)]; simp [go_sem, hsz]; done)
      have hcs1 : RowKit.Hid (w1.cell? ⟨w.heap.size + 1, 0, none⟩ = some (.int .i8 (o).u) ∧ w1.cell? ⟨w.heap.size + 1, 1, none⟩ = some (.int .i8 (o).r) ∧ w1.cell? ⟨w.heap.size + 1, 2, none⟩ = some (.int .i8 (o).d) ∧ w1.cell? ⟨w.heap.size + 1, 3, none⟩ = some (.int .i8 (o).l)) := by
        obtain ⟨hc, hf⟩ := bcell hb
        have hcs' := hcs.out
        refine Lib.hid ⟨?_, ?_, ?_, ?_⟩ <;> (rw [hc _ _ (by simp; omega)]; simp [go_sem, hcs', hsz])
      clear hb hsz hcs l0 l1 l2 l3 BW
      have EM2 : RowKit.Hid (macc L (m + 1) = it (mst ⟨cnt a0, cnt a1, cnt a2, cnt a3⟩) o 4) := EM
      clear EM
      generalize cnt a0 = x0 at EM2 ⊢
      generalize cnt a1 = x1 at EM2 ⊢
      generalize cnt a2 = x2 at EM2 ⊢
      generalize cnt a3 = x3 at EM2 ⊢
      go_wp2
      go_loopw [6, 7, 16] (fun _ _ i wr2 => ∃ k : Nat, k ≤ 4 ∧ i = .int .i64 k ∧ (w.heap.size < wr2.heap.size ∧ w.heap.size + 1 < wr2.heap.size ∧ wr2.cell? ⟨w.heap.size, 0, none⟩ = some (.int .i8 0) ∧ wr2.cell? ⟨w.heap.size, 1, none⟩ = some (.int .i8 0) ∧ wr2.cell? ⟨w.heap.size, 2, none⟩ = some (.int .i8 0) ∧ wr2.cell? ⟨w.heap.size, 3, none⟩ = some (.int .i8 0) ∧ wr2.frozen? ⟨w.heap.size, 0, none⟩ = false ∧ wr2.frozen? ⟨w.heap.size, 1, none⟩ = false ∧ wr2.frozen? ⟨w.heap.size, 2, none⟩ = false ∧ wr2.frozen? ⟨w.heap.size, 3, none⟩ = false ∧ wr2.frozen? ⟨w.heap.size + 1, 0, none⟩ = false ∧ wr2.frozen? ⟨w.heap.size + 1, 1, none⟩ = false ∧ wr2.frozen? ⟨w.heap.size + 1, 2, none⟩ = false ∧ wr2.frozen? ⟨w.heap.size + 1, 3, none⟩ = false) ∧ RowKit.Hid (wr2.cell? ⟨w.heap.size + 1, 0, none⟩ = some (.int .i8 (it (mst ⟨x0, x1, x2, x3⟩) o k).u) ∧ wr2.cell? ⟨w.heap.size + 1, 1, none⟩ = some (.int .i8 (it (mst ⟨x0, x1, x2, x3⟩) o k).r) ∧ wr2.cell? ⟨w.heap.size + 1, 2, none⟩ = some (.int .i8 (it (mst ⟨x0, x1, x2, x3⟩) o k).d) ∧ wr2.cell? ⟨w.heap.size + 1, 3, none⟩ = some (.int .i8 (it (mst ⟨x0, x1, x2, x3⟩) o k).l)) ∧ Below w.heap.size w wr2) (fun _ _ i _ => 4 - (intOf i).toNat)
      case atStart => exact ⟨0, by omega, rfl, hsz1, Lib.hid hcs1.out, B1⟩
      case round =>
        clear hsz1 hcs1 B1
        rename_i wr2
        obtain ⟨k, hk, rfl, hsz, hcs, BW⟩ := hrel
        by_cases hlt : k < 4
        · have E : RowKit.Hid (it (mst ⟨x0, x1, x2, x3⟩) o (k + 1) = mst ⟨x0, x1, x2, x3⟩ (it (mst ⟨x0, x1, x2, x3⟩) o k) k) := Lib.hid rfl
          clear EM2
          generalize it (mst ⟨x0, x1, x2, x3⟩) o k = s at E hcs
          obtain ⟨s0, s1, s2, s3⟩ := s
          rcases (show k = 0 ∨ k = 1 ∨ k = 2 ∨ k = 3 by omega) with rfl | rfl | rfl | rfl
          · have hcs' := hcs.out
            simp only [] at hcs'
            clear hcs
            by_cases hr : rnk s0 < rnk x0
            · have E2 : RowKit.Hid (it (mst ⟨x0, x1, x2, x3⟩) o 1 = (⟨x0, s1, s2, s3⟩ : A4)) := Lib.hid (by rw [E.out]; simp [mst, A4.get, A4.put, hr])
              have hd : decide (rnk s0 < rnk x0) = true := by simp [hr]
              clear E hr
              have hi := idxA0
              go_wp2_with fail
              go_quiet (first | (go_at_call 43; exact quiet_left (letter_any _ _)) | (go_at_call 42; exact quiet_left (idx_any _ _)))
              go_wp2_with fail
              go_roundw
              case rel => exact ⟨1, by omega, by first | rfl | go_num, by simp [go_sem, hsz], Lib.hid (by rw [E2.out]; simp [go_sem, hsz, hcs']), by first | exact below_drewN BW _ | exact (below_drewN BW _).setCell (by simp) _ | exact below_drewN (BW.setCell (by simp) _) _⟩
              case measure => simp [intOf]
            · have E2 : RowKit.Hid (it (mst ⟨x0, x1, x2, x3⟩) o 1 = (⟨s0, s1, s2, s3⟩ : A4)) := Lib.hid (by rw [E.out]; simp [mst, A4.get, A4.put, hr])
              have hd : decide (rnk s0 < rnk x0) = false := by simp; omega
              clear E hr
              have hi := idxA0
              go_wp2_with fail
              go_quiet (first | (go_at_call 43; exact quiet_left (letter_any _ _)) | (go_at_call 42; exact quiet_left (idx_any _ _)))
              go_wp2_with fail
              go_roundw
              case rel => exact ⟨1, by omega, by first | rfl | go_num, by simp [go_sem, hsz], Lib.hid (by rw [E2.out]; simp [go_sem, hsz, hcs']), by first | exact below_drewN BW _ | exact (below_drewN BW _).setCell (by simp) _ | exact below_drewN (BW.setCell (by simp) _) _⟩
              case measure => simp [intOf]
          · have hcs' := hcs.out
            simp only [] at hcs'
            clear hcs
            by_cases hr : rnk s1 < rnk x1
            · have E2 : RowKit.Hid (it (mst ⟨x0, x1, x2, x3⟩) o 2 = (⟨s0, x1, s2, s3⟩ : A4)) := Lib.hid (by rw [E.out]; simp [mst, A4.get, A4.put, hr])
              have hd : decide (rnk s1 < rnk x1) = true := by simp [hr]
              clear E hr
              have hi := idxA1
              go_wp2_with fail
              go_quiet (first | (go_at_call 43; exact quiet_left (letter_any _ _)) | (go_at_call 42; exact quiet_left (idx_any _ _)))
              go_wp2_with fail
              go_roundw
              case rel => exact ⟨2, by omega, by first | rfl | go_num, by simp [go_sem, hsz], Lib.hid (by rw [E2.out]; simp [go_sem, hsz, hcs']), by first | exact below_drewN BW _ | exact (below_drewN BW _).setCell (by simp) _ | exact below_drewN (BW.setCell (by simp) _) _⟩
              case measure => simp [intOf]
            · have E2 : RowKit.Hid (it (mst ⟨x0, x1, x2, x3⟩) o 2 = (⟨s0, s1, s2, s3⟩ : A4)) := Lib.hid (by rw [E.out]; simp [mst, A4.get, A4.put, hr])
              have hd : decide (rnk s1 < rnk x1) = false := by simp; omega
              clear E hr
              have hi := idxA1
              go_wp2_with fail
              go_quiet (first | (go_at_call 43; exact quiet_left (letter_any _ _)) | (go_at_call 42; exact quiet_left (idx_any _ _)))
              go_wp2_with fail
              go_roundw
              case rel => exact ⟨2, by omega, by first | rfl | go_num, by simp [go_sem, hsz], Lib.hid (by rw [E2.out]; simp [go_sem, hsz, hcs']), by first | exact below_drewN BW _ | exact (below_drewN BW _).setCell (by simp) _ | exact below_drewN (BW.setCell (by simp) _) _⟩
              case measure => simp [intOf]
          · have hcs' := hcs.out
            simp only [] at hcs'
            clear hcs
            by_cases hr : rnk s2 < rnk x2
            · have E2 : RowKit.Hid (it (mst ⟨x0, x1, x2, x3⟩) o 3 = (⟨s0, s1, x2, s3⟩ : A4)) := Lib.hid (by rw [E.out]; simp [mst, A4.get, A4.put, hr])
              have hd : decide (rnk s2 < rnk x2) = true := by simp [hr]
              clear E hr
              have hi := idxA2
              go_wp2_with fail
              go_quiet (first | (go_at_call 43; exact quiet_left (letter_any _ _)) | (go_at_call 42; exact quiet_left (idx_any _ _)))
              go_wp2_with fail
              go_roundw
              case rel => exact ⟨3, by omega, by first | rfl | go_num, by simp [go_sem, hsz], Lib.hid (by rw [E2.out]; simp [go_sem, hsz, hcs']), by first | exact below_drewN BW _ | exact (below_drewN BW _).setCell (by simp) _ | exact below_drewN (BW.setCell (by simp) _) _⟩
              case measure => simp [intOf]
            · have E2 : RowKit.Hid (it (mst ⟨x0, x1, x2, x3⟩) o 3 = (⟨s0, s1, s2, s3⟩ : A4)) := Lib.hid (by rw [E.out]; simp [mst, A4.get, A4.put, hr])
              have hd : decide (rnk s2 < rnk x2) = false := by simp; omega
              clear E hr
              have hi := idxA2
              go_wp2_with fail
              go_quiet (first | (go_at_call 43; exact quiet_left (letter_any _ _)) | (go_at_call 42; exact quiet_left (idx_any _ _)))
              go_wp2_with fail
              go_roundw
              case rel => exact ⟨3, by omega, by first | rfl | go_num, by simp [go_sem, hsz], Lib.hid (by rw [E2.out]; simp [go_sem, hsz, hcs']), by first | exact below_drewN BW _ | exact (below_drewN BW _).setCell (by simp) _ | exact below_drewN (BW.setCell (by simp) _) _⟩
              case measure => simp [intOf]
          · have hcs' := hcs.out
            simp only [] at hcs'
            clear hcs
            by_cases hr : rnk s3 < rnk x3
            · have E2 : RowKit.Hid (it (mst ⟨x0, x1, x2, x3⟩) o 4 = (⟨s0, s1, s2, x3⟩ : A4)) := Lib.hid (by rw [E.out]; simp [mst, A4.get, A4.put, hr])
              have hd : decide (rnk s3 < rnk x3) = true := by simp [hr]
              clear E hr
              have hi := idxA3
              go_wp2_with fail
              go_quiet (first | (go_at_call 43; exact quiet_left (letter_any _ _)) | (go_at_call 42; exact quiet_left (idx_any _ _)))
              go_wp2_with fail
              go_roundw
              case rel => exact ⟨4, by omega, by first | rfl | go_num, by simp [go_sem, hsz], Lib.hid (by rw [E2.out]; simp [go_sem, hsz, hcs']), by first | exact below_drewN BW _ | exact (below_drewN BW _).setCell (by simp) _ | exact below_drewN (BW.setCell (by simp) _) _⟩
              case measure => simp [intOf]
            · have E2 : RowKit.Hid (it (mst ⟨x0, x1, x2, x3⟩) o 4 = (⟨s0, s1, s2, s3⟩ : A4)) := Lib.hid (by rw [E.out]; simp [mst, A4.get, A4.put, hr])
              have hd : decide (rnk s3 < rnk x3) = false := by simp; omega
              clear E hr
              have hi := idxA3
              go_wp2_with fail
              go_quiet (first | (go_at_call 43; exact quiet_left (letter_any _ _)) | (go_at_call 42; exact quiet_left (idx_any _ _)))
              go_wp2_with fail
              go_roundw
              case rel => exact ⟨4, by omega, by first | rfl | go_num, by simp [go_sem, hsz], Lib.hid (by rw [E2.out]; simp [go_sem, hsz, hcs']), by first | exact below_drewN BW _ | exact (below_drewN BW _).setCell (by simp) _ | exact below_drewN (BW.setCell (by simp) _) _⟩
              case measure => simp [intOf]
        · obtain rfl : k = 4 := by omega
          rw [← EM2.out] at hcs
          go_wp2
          go_roundw
          case rel => exact ⟨m + 1, by omega, by go_num, hsz, hcs, BW⟩
          case measure => simp [intOf]; omega
    · obtain rfl : m = len := by omega
      rw [← Z.out] at hcs
      have hcs' := hcs.out
      go_wp2
      exact bodyPost_ret (v := .agg #[.int .i8 z.u, .int .i8 z.r, .int .i8 z.d, .int .i8 z.l]) (by simp [results, Try.results20, go_sem, hsz, hcs']) rfl ⟨rfl, by go_grown⟩
end Go.Proofs.Ytebalohoblaedaa
