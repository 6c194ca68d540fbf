/- Reading trees' bytes: a reader in memory; numbers. -/
import Derived.Test.YtcihihncgpddfaaEncL
import Derived.Test.YtcihihncgpddfaaLntO
import Derived.Test.YtcihihncgpddfaaWrA
import Derived.Lib.QuoteBits
import Derived.Laws.BytesArg
import Derived.LoopN
namespace Go.Proofs.Ytcihihncgpddfaa
open Go.RowKit Go.Deep
set_option linter.unusedVariables false
set_option linter.unusedSimpArgs false

def Byte8 (B : List Int) : Prop := ∀ c ∈ B, 0 ≤ c ∧ c ≤ 255
theorem Byte8.at {B : List Int} (h : Byte8 B) (i : Nat) : 0 ≤ B.getD i 0 ∧ B.getD i 0 ≤ 255 := by
  rcases Nat.lt_or_ge i B.length with hi | hi
  · exact h _ (by rw [List.getD_eq_getElem?_getD, List.getElem?_eq_getElem hi]; exact List.getElem_mem hi)
  · rw [List.getD_eq_getElem?_getD, List.getElem?_eq_none hi]; simp
/-- bytes lie in memory -/
def BytesAt (w : World) (v : Value) (B : List Int) : Prop := ∃ p c, v = .slice p B.length c ∧ B.length ≤ c ∧ c ≤ 9223372036854775807 ∧ (0 < B.length → ∃ b off, p = some ⟨b, off, none⟩ ∧ b < w.heap.size ∧ ∀ i, i < B.length → w.cell? ⟨b, off + i, none⟩ = some (.int .u8 (B.getD i 0)))
theorem BytesAt.later {w wr : World} {v : Value} {L : List Int} {B : Nat} (h : BytesAt w v L) (hb : Below B w wr) (hB : w.heap.size ≤ B) : BytesAt wr v L := by
  obtain ⟨p, c, h1, h2, h3, h4⟩ := h
  refine ⟨p, c, h1, h2, h3, fun h0 => ?_⟩
  obtain ⟨b, off, e, hz, hc⟩ := h4 h0
  exact ⟨b, off, e, Nat.lt_of_lt_of_le hz hb.size, fun i hi => by rw [(bcell hb).1 _ _ (Nat.lt_of_lt_of_le hz hB)]; exact hc i hi⟩
/-- a reader of the type ty: its block, its bytes -/
structure RdAt (ty : TypeId) (w0 W : World) (rb : Nat) (sv : Value) (B : List Int) (s : Rs) : Prop where
  blk : W.heap[rb]? = some (.cells #[sv, .int .i64 s.at_, .int .i64 s.code, .int .i64 s.bad] ty (0, 0))
  zb : w0.heap.size ≤ rb
  be : Below w0.heap.size w0 W
  src : BytesAt w0 sv B
  at_ : s.at_ ≤ B.length
  len : B.length ≤ 1048576
  byte : Byte8 B
/-- what a reader's work makes of a world -/
structure RdS (ty : TypeId) (w0 W : World) (rb : Nat) (sv : Value) (B : List Int) (s : Rs) (W' : World) : Prop where
  at_ : RdAt ty w0 W' rb sv B s
  sz : W.heap.size ≤ W'.heap.size
  fr : ∀ b, b < W.heap.size → b ≠ rb → W'.heap[b]? = W.heap[b]?
theorem cells_set {w : World} {b : Nat} {cs : Array Value} {t : TypeId} {fr : Nat × Nat} (h : w.heap[b]? = some (.cells cs t fr)) (j : Nat) (v : Value) : (w.setCell ⟨b, j, none⟩ v).heap[b]? = some (.cells (cs.setIfInBounds j v) t fr) := by
  have hlt := lt_of_block h
  have h' : w.heap[b] = .cells cs t fr := by simpa [Array.getElem?_eq_getElem hlt] using h
  show (w.heap.modify b _)[b]? = _
  rw [Array.getElem?_eq_getElem (by simpa using hlt), Array.getElem_modify_self, h']
  rfl
section
variable {ty : TypeId} {w0 W W1 W2 : World} {rb : Nat} {sv : Value} {B : List Int} {s s1 s2 : Rs}
theorem RdAt.lt (h : RdAt ty w0 W rb sv B s) : rb < W.heap.size := lt_of_block h.blk
theorem RdAt.later (h : RdAt ty w0 W rb sv B s) (hb : Below W.heap.size W W1) : RdAt ty w0 W1 rb sv B s :=
  ⟨(hb.block _ h.lt).trans h.blk, h.zb, below_via hb h.be, h.src, h.at_, h.len, h.byte⟩
theorem RdS.refl (h : RdAt ty w0 W rb sv B s) : RdS ty w0 W rb sv B s W := ⟨h, Nat.le_refl _, fun _ _ _ => rfl⟩
theorem RdS.quiet (h : RdAt ty w0 W rb sv B s) (hb : Below W.heap.size W W1) : RdS ty w0 W rb sv B s W1 := ⟨h.later hb, hb.size, fun b h1 _ => hb.block b h1⟩
theorem RdS.trans (h : RdS ty w0 W rb sv B s W1) (h' : RdS ty w0 W1 rb sv B s1 W2) : RdS ty w0 W rb sv B s1 W2 := by
  have z := h.sz
  have z' := h'.sz
  exact ⟨h'.at_, by omega, fun b h1 h2 => (h'.fr b (by omega) h2).trans (h.fr b h1 h2)⟩
theorem RdS.from (h : RdS ty w0 W1 rb sv B s W2) (hb : Below W.heap.size W W1) : RdS ty w0 W rb sv B s W2 := by
  have z := hb.size
  have z' := h.sz
  exact ⟨h.at_, by omega, fun b h1 h2 => (h.fr b (by omega) h2).trans (hb.block b h1)⟩
theorem RdAt.cells (h : RdAt ty w0 W rb sv B s) : W.cell? ⟨rb, 0, none⟩ = some sv ∧ W.cell? ⟨rb, 1, none⟩ = some (.int .i64 s.at_) ∧ W.cell? ⟨rb, 2, none⟩ = some (.int .i64 s.code) ∧ W.cell? ⟨rb, 3, none⟩ = some (.int .i64 s.bad) := by
  refine ⟨?_, ?_, ?_, ?_⟩ <;> (rw [cell_of_row _ _ _ _ _ _ h.blk]; rfl)
theorem RdAt.free (h : RdAt ty w0 W rb sv B s) (j : Nat) : W.frozen? ⟨rb, j, none⟩ = false := frozen_of_row _ _ _ _ _ h.blk
/-- a field is set -/
theorem RdAt.set1 (h : RdAt ty w0 W rb sv B s) (hb : Below W.heap.size W W1) (j : Nat) (v : Value) (hc : #[sv, .int .i64 s.at_, .int .i64 s.code, .int .i64 s.bad].setIfInBounds j v = #[sv, .int .i64 s1.at_, .int .i64 s1.code, .int .i64 s1.bad]) (ha : s1.at_ ≤ B.length) : RdS ty w0 W rb sv B s1 (W1.setCell ⟨rb, j, none⟩ v) := by
  have h1 := h.later hb
  have z := hb.size
  refine ⟨⟨by rw [cells_set h1.blk, hc], h.zb, h1.be.setCell (p := ⟨rb, j, none⟩) h.zb v, h.src, ha, h.len, h.byte⟩, by simp; omega, fun b hb1 hb2 => ?_⟩
  rw [blk_setCell_other _ _ _ _ (by simpa using hb2)]
  exact hb.block b hb1
end
theorem octR_no {m : Int} {B : List Int} {s : Rs} (h : s.code ≠ 0) : octR m B s = (0, s) := by unfold octR; rw [if_pos h]
theorem octR_big {m : Int} {B : List Int} {s : Rs} (h0 : s.code = 0) (h : s.at_ < B.length) (hm : m < B.getD s.at_ 0) : octR m B s = (0, ⟨s.at_, 100, s.at_⟩) := by
  unfold octR; rw [if_neg (by rw [h0]; simp), if_neg (by omega), if_pos hm]
theorem octR_ok {m : Int} {B : List Int} {s : Rs} (h0 : s.code = 0) (h : s.at_ < B.length) (hm : B.getD s.at_ 0 ≤ m) : octR m B s = (B.getD s.at_ 0, ⟨s.at_ + 1, 0, s.bad⟩) := by
  unfold octR; rw [if_neg (by rw [h0]; simp), if_neg (by omega), if_neg (by omega)]
/-- what octet tells, and what it leaves -/
theorem octR_sum (m : Int) {B : List Int} (hB : Byte8 B) (s : Rs) : ((octR m B s).2.code ≠ 0 ∧ (octR m B s).1 = 0) ∨ ((octR m B s).2.code = 0 ∧ 0 ≤ (octR m B s).1 ∧ (octR m B s).1 ≤ 255 ∧ (octR m B s).1 ≤ m ∧ s.code = 0) := by
  by_cases h : s.code = 0
  · rcases Nat.lt_or_ge s.at_ B.length with h1 | h1
    · have h2 := hB.at s.at_
      by_cases h3 : m < B.getD s.at_ 0
      · left; rw [octR_big h h1 h3]; simp
      · right; rw [octR_ok h h1 (by omega)]; exact ⟨rfl, h2.1, h2.2, by simp only; omega, h⟩
    · left; rw [octR_end h h1]; simp
  · left; rw [octR_no h]; exact ⟨h, rfl⟩
theorem failS_no {c a : Int} {s : Rs} (h : s.code ≠ 0) : failS c a s = s := by unfold failS; rw [if_neg h]
theorem failS_yes {c a : Int} {s : Rs} (h : s.code = 0) : failS c a s = ⟨s.at_, c, a⟩ := by unfold failS; rw [if_pos h]
def RdPost (ty : TypeId) (w0 W : World) (rb : Nat) (sv : Value) (B : List Int) (r : Int × Rs) (e : Ending) (W' : World) : Prop := e = .returned (.int .i64 r.1) ∧ RdS ty w0 W rb sv B r.2 W'
theorem rd_mk {ty : TypeId} {w0 W W' : World} {rb : Nat} {sv : Value} {B : List Int} {r : Int × Rs} {n : Int} {s : Rs} (h : r = (n, s)) (hs : RdS ty w0 W rb sv B s W') : RdPost ty w0 W rb sv B r (.returned (.int .i64 n)) W' := by subst h; exact ⟨rfl, hs⟩
theorem and_127 : ∀ n : Fin 256, bits BinOp.and IntKind.i64 (n.val : Int) 127 = ((n.val % 128 : Nat) : Int) := by decide +kernel
theorem and_127_ {c : Int} (h0 : 0 ≤ c) (h1 : c ≤ 255) : bits BinOp.and IntKind.i64 c 127 = c % 128 := by
  obtain ⟨n, rfl⟩ := Int.eq_ofNat_of_zero_le h0
  have := and_127 ⟨n, by omega⟩
  exact this.trans (by simp only; omega)
theorem or_add {a b k : Nat} (ha : a < 2 ^ k) (hs : a + b * 2 ^ k < 9223372036854775808) : bits BinOp.or IntKind.i64 (a : Int) ((b * 2 ^ k : Nat) : Int) = ((a + b * 2 ^ k : Nat) : Int) := by
  show IntKind.i64.wrap ((BitVec.ofInt 64 (a : Int) ||| BitVec.ofInt 64 ((b * 2 ^ k : Nat) : Int)).toNat : Int) = _
  have e1 : (BitVec.ofInt 64 (a : Int)).toNat = a := by rw [BitVec.toNat_ofInt]; omega
  have e2 : (BitVec.ofInt 64 ((b * 2 ^ k : Nat) : Int)).toNat = b * 2 ^ k := by rw [BitVec.toNat_ofInt]; omega
  rw [BitVec.toNat_or, e1, e2]
  have h3 : a ||| b * 2 ^ k = a + b * 2 ^ k := by
    have := Nat.shiftLeft_add_eq_or_of_lt ha b
    rw [Nat.shiftLeft_eq] at this
    rw [Nat.or_comm, ← this, Nat.add_comm]
  rw [h3, IntKind.wrap_i64]
  omega
end Go.Proofs.Ytcihihncgpddfaa
