/- Layer 13: a plan in memory; New. -/
import Derived.Test.YtebalohoblaedaaGlyK
import Derived.Laws.MakeOwn
namespace Go.Proofs.Ytebalohoblaedaa
open Go.RowKit
set_option linter.unusedVariables false
set_option linter.unusedSimpArgs false

theorem run_make_rowN {P : Program} (t e : TypeId) (i : TypeInfo) (z : Value) (ht : P.underlying t = some (.slice e)) (hi : P.info? e = some i) (hz : i.zero = some z)
    (kl kc : IntKind) (n c : Nat) (hnc : n ≤ c) (hbytes : i.bytes * c ≤ 281474976710656) (h63 : c ≤ 9223372036854775807) (w : World) :
    (Instr.makeSlice t (.int kl (n : Int)) (.int kc (c : Int))).run P w = .ok (.slice (some ⟨w.heap.size, 0, none⟩) n c) (w.alloc (.cells (madeCells z.cells (c * i.size)) e)) := by
  have hb : (i.bytes : Int) * (c : Int) ≤ 281474976710656 := by
    have h : ((i.bytes * c : Nat) : Int) ≤ 281474976710656 := by omega
    rwa [Int.natCast_mul] at h
  have hr := run_make (P := P) w t e i z ht hi hz kl kc n c (by omega) (by omega) hb (by omega)
  simp only [Int.toNat_natCast] at hr
  exact hr
theorem infoArms : (Try.prog.info? 25).map (fun i => (i.zero, i.size, i.bytes)) = some (some (.agg #[.int .i8 0, .int .i8 0, .int .i8 0, .int .i8 0]), 4, 4) := by kernel_rfl
def cellsA (L : List A4) : List Value := L.flatMap fun a => [.int .i8 a.u, .int .i8 a.r, .int .i8 a.d, .int .i8 a.l]
theorem cellsA_cons (a : A4) (L : List A4) : cellsA (a :: L) = .int .i8 a.u :: .int .i8 a.r :: .int .i8 a.d :: .int .i8 a.l :: cellsA L := by simp [cellsA]
theorem cellsA_len (L : List A4) : (cellsA L).length = L.length * 4 := by
  induction L with
  | nil => rfl
  | cons r L ih => rw [cellsA_cons]; simp [ih]; omega
theorem cellsA_set (X : List A4) (k : Nat) (r : A4) (hk : k < X.length) : ((((cellsA X).set (k * 4) (.int .i8 r.u)).set (k * 4 + 1) (.int .i8 r.r)).set (k * 4 + 2) (.int .i8 r.d)).set (k * 4 + 3) (.int .i8 r.l) = cellsA (X.set k r) := by
  induction X generalizing k with
  | nil => simp at hk
  | cons q X ih =>
    cases k with
    | zero => simp [cellsA_cons]
    | succ k =>
      have := ih k (by simpa using hk)
      rw [List.set_cons_succ, cellsA_cons, cellsA_cons, ← this, show (k + 1) * 4 = k * 4 + 1 + 1 + 1 + 1 by omega]
      simp [List.set_cons_succ, Nat.add_assoc]
theorem cellsA_at (L : List A4) (i : Nat) (h : i < L.length) : (cellsA L)[i * 4]? = some (.int .i8 (L.getD i zA).u) ∧ (cellsA L)[i * 4 + 1]? = some (.int .i8 (L.getD i zA).r) ∧ (cellsA L)[i * 4 + 2]? = some (.int .i8 (L.getD i zA).d) ∧ (cellsA L)[i * 4 + 3]? = some (.int .i8 (L.getD i zA).l) := by
  induction L generalizing i with
  | nil => simp at h
  | cons r L ih =>
    rw [cellsA_cons]
    cases i with
    | zero => simp
    | succ i =>
      have := ih i (by simpa using h)
      rw [show (i + 1) * 4 = i * 4 + 1 + 1 + 1 + 1 by omega]
      simpa using this
theorem cellsA_zero (n : Nat) : cellsA (List.replicate n zA) = List.replicate (n * 4) (.int .i8 0) := by
  induction n with
  | zero => rfl
  | succ n ih =>
    rw [List.replicate_succ, cellsA_cons, ih, show (n + 1) * 4 = n * 4 + 1 + 1 + 1 + 1 by omega]
    simp [List.replicate_succ, zA]
theorem made_arms (n : Nat) : madeCells (Value.cells (.agg #[.int .i8 0, .int .i8 0, .int .i8 0, .int .i8 0])) (n * 4) = (cellsA (List.replicate n zA)).toArray := by
  rw [cellsA_zero]
  apply Array.ext
  · simp [size_madeCells]
  · intro i h1 h2
    have hz : (Value.cells (.agg #[.int .i8 0, .int .i8 0, .int .i8 0, .int .i8 0])) = #[.int .i8 0, .int .i8 0, .int .i8 0, .int .i8 0] := by rfl
    simp only [madeCells, hz, Array.getElem_map, Array.getElem_range, List.getElem_toArray, List.getElem_replicate]
    have : i % 4 < 4 := Nat.mod_lt _ (by omega)
    show #[Value.int .i8 0, .int .i8 0, .int .i8 0, .int .i8 0][i % 4]! = _
    generalize i % 4 = j at this
    match j, this with
    | 0, _ => rfl
    | 1, _ => rfl
    | 2, _ => rfl
    | 3, _ => rfl

/-- a plan of W columns and H rows in memory, with its arms -/
structure PlanAt (w : World) (g gc W H : Nat) (L : List A4) : Prop where
  pl : w.heap[g]? = some (.cells #[.int .i64 (W : Int), .int .i64 (H : Int), .slice (some ⟨gc, 0, none⟩) (W * H) (W * H)] 84 (0, 0))
  ce : w.heap[gc]? = some (.cells (cellsA L).toArray 25 (0, 0))
  len : L.length = W * H
  bw : W ≤ 4096
  bh : H ≤ 4096
  bn : W * H ≤ 1048576
theorem heap_lt {w : World} {g : Nat} {o : Obj} (h : w.heap[g]? = some o) : g < w.heap.size := by
  rcases Nat.lt_or_ge g w.heap.size with hlt | hge
  · exact hlt
  · rw [Array.getElem?_eq_none hge] at h; cases h
theorem PlanAt.ne {w : World} {g gc W H : Nat} {L : List A4} (h : PlanAt w g gc W H L) : g ≠ gc := by
  rintro rfl
  have h1 := h.pl
  rw [h.ce] at h1
  injection h1 with h1
  injection h1 with _ ht
  exact absurd ht (by decide)
theorem PlanAt.later {w wr : World} {g gc W H : Nat} {L : List A4} {B : Nat} (h : PlanAt w g gc W H L) (hb : Below B w wr) (h1 : g < B) (h2 : gc < B) : PlanAt wr g gc W H L :=
  ⟨(hb.block g h1).trans h.pl, (hb.block gc h2).trans h.ce, h.len, h.bw, h.bh, h.bn⟩
theorem PlanAt.cells {w : World} {g gc W H : Nat} {L : List A4} (h : PlanAt w g gc W H L) : g < w.heap.size ∧ gc < w.heap.size ∧ w.cell? ⟨g, 0, none⟩ = some (.int .i64 (W : Int)) ∧ w.cell? ⟨g, 1, none⟩ = some (.int .i64 (H : Int)) ∧ w.cell? ⟨g, 2, none⟩ = some (.slice (some ⟨gc, 0, none⟩) (W * H) (W * H)) := by
  refine ⟨heap_lt h.pl, heap_lt h.ce, ?_, ?_, ?_⟩ <;> simp [World.cell?, h.pl]
theorem PlanAt.cell {w : World} {g gc W H : Nat} {L : List A4} (h : PlanAt w g gc W H L) (i : Nat) (hi : i < W * H) : w.cell? ⟨gc, i * 4, none⟩ = some (.int .i8 (L.getD i zA).u) ∧ w.cell? ⟨gc, i * 4 + 1, none⟩ = some (.int .i8 (L.getD i zA).r) ∧ w.cell? ⟨gc, i * 4 + 2, none⟩ = some (.int .i8 (L.getD i zA).d) ∧ w.cell? ⟨gc, i * 4 + 3, none⟩ = some (.int .i8 (L.getD i zA).l) := by
  obtain ⟨a, b, c, d⟩ := cellsA_at L i (by rw [h.len]; exact hi)
  refine ⟨?_, ?_, ?_, ?_⟩ <;> (simp only [World.cell?, h.ce]; simpa using ‹_›)
theorem PlanAt.free {w : World} {g gc W H : Nat} {L : List A4} (h : PlanAt w g gc W H L) (i : Nat) : w.frozen? ⟨gc, i, none⟩ = false := by
  simp [World.frozen?, h.ce]

/-- which sizes may be -/
def sizeOk (x y : Int) : Bool := decide (0 ≤ x ∧ x ≤ 4096 ∧ 0 ≤ y ∧ y ≤ 4096 ∧ x * y ≤ 1048576)
set_option maxRecDepth 100000 in
set_option maxHeartbeats 4000000 in
theorem new_no (x y : Int) (h : sizeOk x y = false) (w : World) : Calls Try.prog 21 #[.int .i64 x, .int .i64 y] w fun e w' => e = .returned (.tuple #[.pointer none, .int .i64 5]) ∧ w = w' := by
  unfold sizeOk at h
  simp only [decide_eq_false_iff_not] at h
  by_cases h1 : x < 0
  · clear h
    go_enter Try.func21, Try.ntmps21
    go_wp2
    go_ret2
    exact ⟨rfl, rfl⟩
  by_cases h2 : 4096 < x
  · clear h
    go_enter Try.func21, Try.ntmps21
    go_wp2
    go_ret2
    exact ⟨rfl, rfl⟩
  by_cases h3 : y < 0
  · clear h
    go_enter Try.func21, Try.ntmps21
    go_wp2
    go_ret2
    exact ⟨rfl, rfl⟩
  by_cases h4 : 4096 < y
  · clear h
    go_enter Try.func21, Try.ntmps21
    go_wp2
    go_ret2
    exact ⟨rfl, rfl⟩
  have h5 : 1048576 < x * y := by
    rcases Int.lt_or_le 1048576 (x * y) with h5 | h5
    · exact h5
    · exact absurd ⟨by omega, by omega, by omega, by omega, h5⟩ h
  clear h
  have h6 : 0 ≤ x * y ∧ x * y ≤ 16777216 := ⟨Int.mul_nonneg (by omega) (by omega), by
    have := Int.mul_le_mul (show x ≤ 4096 by omega) (show y ≤ 4096 by omega) (by omega) (by omega)
    omega⟩
  go_enter Try.func21, Try.ntmps21
  go_wp2
  go_ret2
  exact ⟨rfl, rfl⟩
set_option maxRecDepth 100000 in
set_option maxHeartbeats 4000000 in
theorem new_yes (W H : Nat) (h1 : W ≤ 4096) (h2 : H ≤ 4096) (h3 : W * H ≤ 1048576) (w : World) : Calls Try.prog 21 #[.int .i64 (W : Int), .int .i64 (H : Int)] w fun e w' => e = .returned (.tuple #[.pointer (some ⟨w.heap.size + 1, 0, none⟩), .int .i64 0]) ∧ Below w.heap.size w w' ∧ PlanAt w' (w.heap.size + 1) w.heap.size W H (List.replicate (W * H) zA) := by
  obtain ⟨i0, hi, hz0, hz1, hz2⟩ := info_parts infoArms
  have hmk : ∀ w, (Instr.makeSlice 35 (.int .i64 ((W : Int) * (H : Int))) (.int .i64 ((W : Int) * (H : Int)))).run Try.prog w = .ok (.slice (some ⟨w.heap.size, 0, none⟩) (W * H) (W * H)) (w.alloc (.cells (cellsA (List.replicate (W * H) zA)).toArray 25)) := by
    intro w
    have := run_make_rowN (P := Try.prog) 35 25 i0 _ Try.underlying35 hi hz0 .i64 .i64 (W * H) (W * H) (Nat.le_refl _) (by rw [hz2]; omega) (by omega) w
    rw [hz1, made_arms] at this
    simpa only [Int.natCast_mul] using this
  have h6 : 0 ≤ (W : Int) * (H : Int) ∧ (W : Int) * (H : Int) ≤ 1048576 := by
    rw [← Int.natCast_mul]; omega
  clear hi hz0 hz1 hz2
  have H3 := Lib.hid h3
  clear h3
  go_enter Try.func21, Try.ntmps21
  go_wp2
  go_ret2
  refine ⟨rfl, by go_grown, ?_⟩
  refine ⟨?_, ?_, by simp, h1, h2, H3.out⟩
  · have := heap_alloc_new (w.alloc (.cells (cellsA (List.replicate (W * H) zA)).toArray 25)) (.cells #[.int .i64 (W : Int), .int .i64 (H : Int), .slice (some ⟨w.heap.size, 0, none⟩) (W * H) (W * H)] 84)
    rw [World.size_alloc] at this
    exact this
  · exact (heap_alloc_old _ _ (by simp)).trans (heap_alloc_new _ _)
end Go.Proofs.Ytebalohoblaedaa
