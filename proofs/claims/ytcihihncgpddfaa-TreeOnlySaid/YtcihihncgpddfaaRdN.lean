/- Reading trees' bytes: what a number's reading tells. -/
import Derived.Test.YtcihihncgpddfaaRrA
namespace Go.Proofs.Ytcihihncgpddfaa
open Go.RowKit Go.Deep
set_option linter.unusedVariables false
set_option linter.unusedSimpArgs false

theorem numGo_facts (start : Nat) {B : List Int} (hB : Byte8 B) : ∀ (f i : Nat) (n : Int) (s : Rs), 0 ≤ n → ((numGo start f i n B s).2.code ≠ 0 ∧ (numGo start f i n B s).1 = 0) ∨ ((numGo start f i n B s).2.code = 0 ∧ 0 ≤ (numGo start f i n B s).1 ∧ (numGo start f i n B s).1 < 2147483648 ∧ 0 < B.length)
  | 0, i, n, s, _ => by
    left
    show (failS 100 start s).code ≠ 0 ∧ (0 : Int) = 0
    refine ⟨?_, rfl⟩
    by_cases h : s.code = 0
    · rw [failS_yes h]; simp
    · rw [failS_no h]; exact h
  | f + 1, i, n, s, hn => by
    have hs := octR_sum 255 hB s
    by_cases hc : (octR 255 B s).2.code = 0
    · obtain ⟨_, h0, h1, _, hz⟩ := hs.resolve_left (fun h => h.1 hc)
      have hlen : 0 < B.length := by
        rcases Nat.eq_zero_or_pos B.length with h | h
        · exfalso
          rw [octR_end hz (by omega)] at hc
          exact absurd hc (by simp)
        · exact h
      by_cases hl : (octR 255 B s).1 < 128
      · by_cases hb : (0 < i ∧ (octR 255 B s).1 = 0) ∨ 2147483648 ≤ n + (octR 255 B s).1 % 128 * 128 ^ i
        · left; rw [numGo_bad hc hl hb, failS_yes hc]; simp
        · right
          rw [numGo_end hc hl hb]
          have hp : 0 ≤ (octR 255 B s).1 % 128 * 128 ^ i := Int.mul_nonneg (by omega) (Int.pow_nonneg (by omega))
          exact ⟨hc, by simp only; omega, by simp only; omega, hlen⟩
      · rw [numGo_next hc hl]
        have hp : 0 ≤ (octR 255 B s).1 % 128 * 128 ^ i := Int.mul_nonneg (by omega) (Int.pow_nonneg (by omega))
        exact numGo_facts start hB f (i + 1) _ _ (by omega)
    · left; rw [numGo_no hc]; exact ⟨hc, rfl⟩
theorem numR_facts {B : List Int} (hB : Byte8 B) (s : Rs) : ((numR B s).2.code ≠ 0 ∧ (numR B s).1 = 0) ∨ ((numR B s).2.code = 0 ∧ 0 ≤ (numR B s).1 ∧ (numR B s).1 < 2147483648 ∧ 0 < B.length) := numGo_facts s.at_ hB 5 0 0 s (by omega)
theorem numR_range {B : List Int} (hB : Byte8 B) (s : Rs) : 0 ≤ (numR B s).1 ∧ (numR B s).1 < 2147483648 := by
  rcases numR_facts hB s with ⟨_, h⟩ | ⟨_, h, h', _⟩
  · rw [h]; exact ⟨by omega, by omega⟩
  · exact ⟨h, h'⟩
theorem sgnR_eq (B : List Int) (s : Rs) : sgnR B s = (unS (numR B s).1, (numR B s).2) := rfl
theorem xor_pos {n : Int} (h : 0 ≤ n) (h' : n ≤ 4611686018427387904) : bits BinOp.xor IntKind.i64 (-1) n = -n - 1 := by
  show IntKind.i64.wrap ((BitVec.ofInt 64 (-1) ^^^ BitVec.ofInt 64 n).toNat : Int) = _
  have h1 : (BitVec.ofInt 64 (-1)).toNat = 2 ^ 64 - 1 := by decide
  have h2 : (BitVec.ofInt 64 n).toNat = n.toNat := by
    rw [BitVec.toNat_ofInt]
    omega
  rw [BitVec.toNat_xor, h1, h2, Lib.xor_ones64 _ (by omega), IntKind.wrap_i64]
  omega
theorem and_one_ {n : Int} (h : 0 ≤ n) (h' : n < 2147483648) : bits BinOp.and IntKind.i64 n 1 = n % 2 := by
  show IntKind.i64.wrap ((BitVec.ofInt 64 n &&& BitVec.ofInt 64 1).toNat : Int) = _
  have h1 : (BitVec.ofInt 64 1).toNat = 1 := by decide
  have h2 : (BitVec.ofInt 64 n).toNat = n.toNat := by
    rw [BitVec.toNat_ofInt]
    omega
  rw [BitVec.toNat_and, h1, h2, Nat.and_one_is_mod, IntKind.wrap_i64]
  omega
/-- what a text's reading tells -/
theorem txtR_no {B : List Int} {s : Rs} (h : (numR B s).2.code ≠ 0) : txtR B s = (ByteArray.empty, (numR B s).2) := by unfold txtR; rw [if_pos h]
theorem txtR_big {B : List Int} {s : Rs} (h0 : (numR B s).2.code = 0) (h : (B.length : Int) - (numR B s).2.at_ < (numR B s).1) : txtR B s = (ByteArray.empty, ⟨(numR B s).2.at_, 6, B.length⟩) := by unfold txtR; rw [if_neg (by rw [h0]; simp), if_pos h]
theorem txtR_ok {B : List Int} {s : Rs} (h0 : (numR B s).2.code = 0) (h : ¬ (B.length : Int) - (numR B s).2.at_ < (numR B s).1) : txtR B s = (strOf ((B.drop (numR B s).2.at_).take (numR B s).1.toNat), ⟨(numR B s).2.at_ + (numR B s).1.toNat, 0, (numR B s).2.bad⟩) := by unfold txtR; rw [if_neg (by rw [h0]; simp), if_neg h]
/-- a value, and what the reader is then -/
def RdVal (ty : TypeId) (w0 W : World) (rb : Nat) (sv : Value) (B : List Int) (v : Value) (s : Rs) (e : Ending) (W' : World) : Prop := e = .returned v ∧ RdS ty w0 W rb sv B s W'
section
variable {ty : TypeId} {w0 W W1 W2 : World} {rb : Nat} {sv : Value} {B : List Int} {s s1 s2 : Rs}
/-- blocks of the call's own have been written -/
theorem RdS.more (h : RdS ty w0 W rb sv B s W1) (hr : rb < W.heap.size) (h0 : w0.heap.size ≤ W.heap.size) (hb : Below W.heap.size W1 W2) : RdS ty w0 W rb sv B s W2 := by
  have z := h.sz
  have z2 := hb.size
  exact ⟨⟨(hb.block _ hr).trans h.at_.blk, h.at_.zb, h.at_.be.trans (hb.mono h0), h.at_.src, h.at_.at_, h.at_.len, h.at_.byte⟩, by omega, fun b h1 h2 => (hb.block b h1).trans (h.fr b h1 h2)⟩
theorem BytesAt.piece {w : World} {p : Option Addr} {c : Nat} (h : BytesAt w (.slice p B.length c) B) (hpos : 0 < B.length) (a n : Nat) (ha : a + n ≤ B.length) : ∃ b off, p = some ⟨b, off, none⟩ ∧ b < w.heap.size ∧ ((B.drop a).take n).length = n ∧ ∀ i, i < n → w.cell? ⟨b, off + a + i, none⟩ = some (.int .u8 (((B.drop a).take n).getD i 0)) := by
  obtain ⟨p', c', e, _, _, h4⟩ := h
  injection e with e1 _ _
  subst e1
  obtain ⟨b, off, rfl, hz, hc⟩ := h4 hpos
  refine ⟨b, off, rfl, hz, by rw [List.length_take, List.length_drop]; omega, fun i hi => ?_⟩
  rw [Nat.add_assoc, hc (a + i) (by omega)]
  rw [List.getD_eq_getElem?_getD, List.getD_eq_getElem?_getD, List.getElem?_take, if_pos hi, List.getElem?_drop]
end
end Go.Proofs.Ytcihihncgpddfaa
