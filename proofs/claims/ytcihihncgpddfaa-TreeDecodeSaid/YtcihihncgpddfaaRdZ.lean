/- RdZ: RdM RdA RrA RdN RdB RrB in one text. -/
import Derived.Test.YtcihihncgpddfaaEncZ
import Derived.Test.YtcihihncgpddfaaLntO
import Derived.Test.YtcihihncgpddfaaWrZ
import Derived.Lib.QuoteBits
import Derived.Laws.BytesArg
import Derived.LoopN
import Derived.BigQuiet
import Derived.StillTailTactics
namespace Go.Proofs.Ytcihihncgpddfaa
open Go.RowKit Go.Deep
set_option linter.unusedVariables false
set_option linter.unusedSimpArgs false

def Byte8 (B : List Int) : Prop := ∀ c ∈ B, 0 ≤ c ∧ c ≤ 255
theorem Byte8.at {B : List Int} (h : Byte8 B) (i : Nat) : 0 ≤ B.getD i 0 ∧ B.getD i 0 ≤ 255 := by
  rcases Nat.lt_or_ge i B.length with hi | hi
  · exact h _ (by rw [List.getD_eq_getElem?_getD, List.getElem?_eq_getElem hi]; exact List.getElem_mem hi)
  · rw [List.getD_eq_getElem?_getD, List.getElem?_eq_none hi]; simp
/-- bytes lie in memory -/
def BytesAt (w : World) (v : Value) (B : List Int) : Prop := ∃ p c, v = .slice p B.length c ∧ B.length ≤ c ∧ c ≤ 9223372036854775807 ∧ (0 < B.length → ∃ b off, p = some ⟨b, off, none⟩ ∧ b < w.heap.size ∧ ∀ i, i < B.length → w.cell? ⟨b, off + i, none⟩ = some (.int .u8 (B.getD i 0)))
theorem BytesAt.later {w wr : World} {v : Value} {L : List Int} {B : Nat} (h : BytesAt w v L) (hb : Below B w wr) (hB : w.heap.size ≤ B) : BytesAt wr v L := by
  obtain ⟨p, c, h1, h2, h3, h4⟩ := h
  refine ⟨p, c, h1, h2, h3, fun h0 => ?_⟩
  obtain ⟨b, off, e, hz, hc⟩ := h4 h0
  exact ⟨b, off, e, Nat.lt_of_lt_of_le hz hb.size, fun i hi => by rw [(bcell hb).1 _ _ (Nat.lt_of_lt_of_le hz hB)]; exact hc i hi⟩
/-- a reader of the type ty: its block, its bytes -/
structure RdAt (ty : TypeId) (w0 W : World) (rb : Nat) (sv : Value) (B : List Int) (s : Rs) : Prop where
  blk : W.heap[rb]? = some (.cells #[sv, .int .i64 s.at_, .int .i64 s.code, .int .i64 s.bad] ty (0, 0))
  zb : w0.heap.size ≤ rb
  be : Below w0.heap.size w0 W
  src : BytesAt w0 sv B
  at_ : s.at_ ≤ B.length
  len : B.length ≤ 1048576
  byte : Byte8 B
/-- what a reader's work makes of a world -/
structure RdS (ty : TypeId) (w0 W : World) (rb : Nat) (sv : Value) (B : List Int) (s : Rs) (W' : World) : Prop where
  at_ : RdAt ty w0 W' rb sv B s
  sz : W.heap.size ≤ W'.heap.size
  fr : ∀ b, b < W.heap.size → b ≠ rb → W'.heap[b]? = W.heap[b]?
theorem cells_set {w : World} {b : Nat} {cs : Array Value} {t : TypeId} {fr : Nat × Nat} (h : w.heap[b]? = some (.cells cs t fr)) (j : Nat) (v : Value) : (w.setCell ⟨b, j, none⟩ v).heap[b]? = some (.cells (cs.setIfInBounds j v) t fr) := by
  have hlt := lt_of_block h
  have h' : w.heap[b] = .cells cs t fr := by simpa [Array.getElem?_eq_getElem hlt] using h
  show (w.heap.modify b _)[b]? = _
  rw [Array.getElem?_eq_getElem (by simpa using hlt), Array.getElem_modify_self, h']
  rfl
section
variable {ty : TypeId} {w0 W W1 W2 : World} {rb : Nat} {sv : Value} {B : List Int} {s s1 s2 : Rs}
theorem RdAt.lt (h : RdAt ty w0 W rb sv B s) : rb < W.heap.size := lt_of_block h.blk
theorem RdAt.later (h : RdAt ty w0 W rb sv B s) (hb : Below W.heap.size W W1) : RdAt ty w0 W1 rb sv B s :=
  ⟨(hb.block _ h.lt).trans h.blk, h.zb, below_via hb h.be, h.src, h.at_, h.len, h.byte⟩
theorem RdS.refl (h : RdAt ty w0 W rb sv B s) : RdS ty w0 W rb sv B s W := ⟨h, Nat.le_refl _, fun _ _ _ => rfl⟩
theorem RdS.quiet (h : RdAt ty w0 W rb sv B s) (hb : Below W.heap.size W W1) : RdS ty w0 W rb sv B s W1 := ⟨h.later hb, hb.size, fun b h1 _ => hb.block b h1⟩
theorem RdS.trans (h : RdS ty w0 W rb sv B s W1) (h' : RdS ty w0 W1 rb sv B s1 W2) : RdS ty w0 W rb sv B s1 W2 := by
  have z := h.sz
  have z' := h'.sz
  exact ⟨h'.at_, by omega, fun b h1 h2 => (h'.fr b (by omega) h2).trans (h.fr b h1 h2)⟩
theorem RdS.from (h : RdS ty w0 W1 rb sv B s W2) (hb : Below W.heap.size W W1) : RdS ty w0 W rb sv B s W2 := by
  have z := hb.size
  have z' := h.sz
  exact ⟨h.at_, by omega, fun b h1 h2 => (h.fr b (by omega) h2).trans (hb.block b h1)⟩
theorem RdAt.cells (h : RdAt ty w0 W rb sv B s) : W.cell? ⟨rb, 0, none⟩ = some sv ∧ W.cell? ⟨rb, 1, none⟩ = some (.int .i64 s.at_) ∧ W.cell? ⟨rb, 2, none⟩ = some (.int .i64 s.code) ∧ W.cell? ⟨rb, 3, none⟩ = some (.int .i64 s.bad) := by
  refine ⟨?_, ?_, ?_, ?_⟩ <;> (rw [cell_of_row _ _ _ _ _ _ h.blk]; rfl)
theorem RdAt.free (h : RdAt ty w0 W rb sv B s) (j : Nat) : W.frozen? ⟨rb, j, none⟩ = false := frozen_of_row _ _ _ _ _ h.blk
/-- a field is set -/
theorem RdAt.set1 (h : RdAt ty w0 W rb sv B s) (hb : Below W.heap.size W W1) (j : Nat) (v : Value) (hc : #[sv, .int .i64 s.at_, .int .i64 s.code, .int .i64 s.bad].setIfInBounds j v = #[sv, .int .i64 s1.at_, .int .i64 s1.code, .int .i64 s1.bad]) (ha : s1.at_ ≤ B.length) : RdS ty w0 W rb sv B s1 (W1.setCell ⟨rb, j, none⟩ v) := by
  have h1 := h.later hb
  have z := hb.size
  refine ⟨⟨by rw [cells_set h1.blk, hc], h.zb, h1.be.setCell (p := ⟨rb, j, none⟩) h.zb v, h.src, ha, h.len, h.byte⟩, by simp; omega, fun b hb1 hb2 => ?_⟩
  rw [blk_setCell_other _ _ _ _ (by simpa using hb2)]
  exact hb.block b hb1
end
theorem octR_no {m : Int} {B : List Int} {s : Rs} (h : s.code ≠ 0) : octR m B s = (0, s) := by unfold octR; rw [if_pos h]
theorem octR_big {m : Int} {B : List Int} {s : Rs} (h0 : s.code = 0) (h : s.at_ < B.length) (hm : m < B.getD s.at_ 0) : octR m B s = (0, ⟨s.at_, 100, s.at_⟩) := by
  unfold octR; rw [if_neg (by rw [h0]; simp), if_neg (by omega), if_pos hm]
theorem octR_ok {m : Int} {B : List Int} {s : Rs} (h0 : s.code = 0) (h : s.at_ < B.length) (hm : B.getD s.at_ 0 ≤ m) : octR m B s = (B.getD s.at_ 0, ⟨s.at_ + 1, 0, s.bad⟩) := by
  unfold octR; rw [if_neg (by rw [h0]; simp), if_neg (by omega), if_neg (by omega)]
/-- what octet tells, and what it leaves -/
theorem octR_sum (m : Int) {B : List Int} (hB : Byte8 B) (s : Rs) : ((octR m B s).2.code ≠ 0 ∧ (octR m B s).1 = 0) ∨ ((octR m B s).2.code = 0 ∧ 0 ≤ (octR m B s).1 ∧ (octR m B s).1 ≤ 255 ∧ (octR m B s).1 ≤ m ∧ s.code = 0) := by
  by_cases h : s.code = 0
  · rcases Nat.lt_or_ge s.at_ B.length with h1 | h1
    · have h2 := hB.at s.at_
      by_cases h3 : m < B.getD s.at_ 0
      · left; rw [octR_big h h1 h3]; simp
      · right; rw [octR_ok h h1 (by omega)]; exact ⟨rfl, h2.1, h2.2, by simp only; omega, h⟩
    · left; rw [octR_end h h1]; simp
  · left; rw [octR_no h]; exact ⟨h, rfl⟩
theorem failS_no {c a : Int} {s : Rs} (h : s.code ≠ 0) : failS c a s = s := by unfold failS; rw [if_neg h]
theorem failS_yes {c a : Int} {s : Rs} (h : s.code = 0) : failS c a s = ⟨s.at_, c, a⟩ := by unfold failS; rw [if_pos h]
def RdPost (ty : TypeId) (w0 W : World) (rb : Nat) (sv : Value) (B : List Int) (r : Int × Rs) (e : Ending) (W' : World) : Prop := e = .returned (.int .i64 r.1) ∧ RdS ty w0 W rb sv B r.2 W'
theorem rd_mk {ty : TypeId} {w0 W W' : World} {rb : Nat} {sv : Value} {B : List Int} {r : Int × Rs} {n : Int} {s : Rs} (h : r = (n, s)) (hs : RdS ty w0 W rb sv B s W') : RdPost ty w0 W rb sv B r (.returned (.int .i64 n)) W' := by subst h; exact ⟨rfl, hs⟩
theorem and_127 : ∀ n : Fin 256, bits BinOp.and IntKind.i64 (n.val : Int) 127 = ((n.val % 128 : Nat) : Int) := by decide +kernel
theorem and_127_ {c : Int} (h0 : 0 ≤ c) (h1 : c ≤ 255) : bits BinOp.and IntKind.i64 c 127 = c % 128 := by
  obtain ⟨n, rfl⟩ := Int.eq_ofNat_of_zero_le h0
  have := and_127 ⟨n, by omega⟩
  exact this.trans (by simp only; omega)
theorem or_add {a b k : Nat} (ha : a < 2 ^ k) (hs : a + b * 2 ^ k < 9223372036854775808) : bits BinOp.or IntKind.i64 (a : Int) ((b * 2 ^ k : Nat) : Int) = ((a + b * 2 ^ k : Nat) : Int) := by
  show IntKind.i64.wrap ((BitVec.ofInt 64 (a : Int) ||| BitVec.ofInt 64 ((b * 2 ^ k : Nat) : Int)).toNat : Int) = _
  have e1 : (BitVec.ofInt 64 (a : Int)).toNat = a := by rw [BitVec.toNat_ofInt]; omega
  have e2 : (BitVec.ofInt 64 ((b * 2 ^ k : Nat) : Int)).toNat = b * 2 ^ k := by rw [BitVec.toNat_ofInt]; omega
  rw [BitVec.toNat_or, e1, e2]
  have h3 : a ||| b * 2 ^ k = a + b * 2 ^ k := by
    have := Nat.shiftLeft_add_eq_or_of_lt ha b
    rw [Nat.shiftLeft_eq] at this
    rw [Nat.or_comm, ← this, Nat.add_comm]
  rw [h3, IntKind.wrap_i64]
  omega
end Go.Proofs.Ytcihihncgpddfaa
namespace Go.Proofs.Ytcihihncgpddfaa
open Go.RowKit Go.Deep
set_option linter.unusedVariables false
set_option linter.unusedSimpArgs false

set_option maxRecDepth 100000 in
set_option maxHeartbeats 8000000 in
theorem rd_fail (w0 W : World) (rb : Nat) (sv : Value) (B : List Int) (s : Rs) (c a : Int) (h : RdAt 100 w0 W rb sv B s) : Calls Try.prog 55 #[.pointer (some ⟨rb, 0, none⟩), .int .i64 c, .int .i64 a] W fun e W' => e = .returned (.tuple #[]) ∧ RdS 100 w0 W rb sv B (failS c a s) W' := by
  obtain ⟨p, cd, bd⟩ := s
  have q0 := h.cells.1
  have q1 : W.cell? ⟨rb, 1, none⟩ = some (.int .i64 p) := h.cells.2.1
  have q2 : W.cell? ⟨rb, 2, none⟩ = some (.int .i64 cd) := h.cells.2.2.1
  have q3 : W.cell? ⟨rb, 3, none⟩ = some (.int .i64 bd) := h.cells.2.2.2
  have f1 := h.free 1
  have f2 := h.free 2
  have f3 := h.free 3
  have zr := h.lt
  by_cases hc : cd = 0
  · subst hc
    have HE := Lib.hid (show RdS 100 w0 W rb sv B (failS c a ⟨p, 0, bd⟩) ((W.setCell ⟨rb, 2, none⟩ (.int .i64 c)).setCell ⟨rb, 3, none⟩ (.int .i64 a)) by
      rw [failS_yes rfl]
      have h1 := h.set1 (s1 := ⟨p, c, bd⟩) (Below.refl _ _) 2 (.int .i64 c) rfl h.at_
      exact h1.trans (h1.at_.set1 (s1 := ⟨p, c, a⟩) (Below.refl _ _) 3 (.int .i64 a) rfl h1.at_.at_))
    clear h
    go_enter Try.func55, Try.ntmps55
    go_wp2
    first
      | exact bodyPost_end (v := .tuple #[]) (results_none rfl _ _ _) rfl ⟨rfl, HE.out⟩
      | exact bodyPost_ret (v := .tuple #[]) (results_none rfl _ _ _) rfl ⟨rfl, HE.out⟩
  · have HE := Lib.hid (show RdS 100 w0 W rb sv B (failS c a ⟨p, cd, bd⟩) W by rw [failS_no hc]; exact RdS.refl h)
    have hcb : (cd == 0) = false := beq_eq_false_iff_ne.2 hc
    clear h hc
    go_enter Try.func55, Try.ntmps55
    go_wp2
    first
      | exact bodyPost_end (v := .tuple #[]) (results_none rfl _ _ _) rfl ⟨rfl, HE.out⟩
      | exact bodyPost_ret (v := .tuple #[]) (results_none rfl _ _ _) rfl ⟨rfl, HE.out⟩
set_option maxRecDepth 100000 in
set_option maxHeartbeats 8000000 in
theorem rd_octet (w0 W : World) (rb : Nat) (sv : Value) (B : List Int) (s : Rs) (m : Int) (h : RdAt 100 w0 W rb sv B s) : Calls Try.prog 54 #[.pointer (some ⟨rb, 0, none⟩), .int .u8 m] W (RdPost 100 w0 W rb sv B (octR m B s)) := by
  obtain ⟨p, cd, bd⟩ := s
  have HH := Lib.hid h
  obtain ⟨pv, cv, rfl, hcv1, hcv2, hbs⟩ := h.src
  have hap : p ≤ B.length := h.at_
  have hlen := h.len
  have q0 := h.cells.1
  have q1 : W.cell? ⟨rb, 1, none⟩ = some (.int .i64 p) := h.cells.2.1
  have q2 : W.cell? ⟨rb, 2, none⟩ = some (.int .i64 cd) := h.cells.2.2.1
  have q3 : W.cell? ⟨rb, 3, none⟩ = some (.int .i64 bd) := h.cells.2.2.2
  have f1 := h.free 1
  have f2 := h.free 2
  have f3 := h.free 3
  have zr := h.lt
  by_cases hc : cd = 0
  · subst hc
    by_cases hp : p = B.length
    · subst hp
      have HF := Lib.hid (fun W1 (hb : Below W.heap.size W W1) => rd_fail w0 W1 rb _ B ⟨B.length, 0, bd⟩ 6 B.length (h.later hb))
      have E := Lib.hid (octR_end (m := m) (B := B) (s := ⟨B.length, 0, bd⟩) rfl (Nat.le_refl _))
      clear h hbs
      go_enter Try.func54, Try.ntmps54
      go_upto_region 3 with (fail)
      go_quiet (fail)
      go_wp2_with fail
      refine (HF.out _ (by first | exact Below.refl _ _ | exact below_drewN (Below.refl _ _) _ | exact below_drewN (below_drewN (Below.refl _ _) _) _)).mono ?_
      rintro e w1 ⟨rfl, hs⟩
      rw [failS_yes rfl] at hs
      have HS := Lib.hid (hs.from (W := W) (by first | exact Below.refl _ _ | exact below_drewN (Below.refl _ _) _ | exact below_drewN (below_drewN (Below.refl _ _) _) _))
      clear hs HF
      go_wp2
      refine bodyPost_ret (v := .int .i64 0) (by simp [results, Try.results54, go_sem]) rfl ?_
      exact rd_mk E.out HS.out
    · have hlt : p < B.length := by omega
      have hpi : (p : Int) < (B.length : Int) := by omega
      have hpb : ((p : Int) == (B.length : Int)) = false := beq_eq_false_iff_ne.2 (by omega)
      obtain ⟨b, off, rfl, hb, hbs⟩ := hbs (by omega)
      have cb : W.cell? ⟨b, off + p, none⟩ = some (.int .u8 (B.getD p 0)) := by rw [(bcell h.be).1 _ _ hb]; exact hbs p hlt
      have hbw : b < W.heap.size := Nat.lt_of_lt_of_le hb h.be.size
      have hrg := h.byte.at p
      have E1 := Lib.hid (fun (hm : m < B.getD p 0) => octR_big (m := m) (B := B) (s := ⟨p, 0, bd⟩) rfl hlt hm)
      have E2 := Lib.hid (fun (hm : B.getD p 0 ≤ m) => octR_ok (m := m) (B := B) (s := ⟨p, 0, bd⟩) rfl hlt hm)
      clear hbs
      obtain ⟨ch, hch⟩ : ∃ ch, ch = B.getD p 0 := ⟨_, rfl⟩
      rw [← hch] at cb hrg E1 E2
      clear hch
      by_cases hm : m < ch
      · have HF := Lib.hid (fun W1 (hb : Below W.heap.size W W1) => rd_fail w0 W1 rb _ B ⟨p, 0, bd⟩ 100 p (h.later hb))
        have E := Lib.hid (E1.out hm)
        clear h E1 E2
        go_enter Try.func54, Try.ntmps54
        go_upto_region 3 with (fail)
        go_quiet (fail)
        go_upto_region 6 with (fail)
        go_quiet (fail)
        go_wp2_with fail
        refine (HF.out _ (by first | exact Below.refl _ _ | exact below_drewN (Below.refl _ _) _ | exact below_drewN (below_drewN (Below.refl _ _) _) _)).mono ?_
        rintro e w1 ⟨rfl, hs⟩
        rw [failS_yes rfl] at hs
        have HS := Lib.hid (hs.from (W := W) (by first | exact Below.refl _ _ | exact below_drewN (Below.refl _ _) _ | exact below_drewN (below_drewN (Below.refl _ _) _) _))
        clear hs HF
        go_wp2
        refine bodyPost_ret (v := .int .i64 0) (by simp [results, Try.results54, go_sem]) rfl ?_
        exact rd_mk E.out HS.out
      · have HF := Lib.hid (fun W1 (hb : Below W.heap.size W W1) => h.set1 (s1 := ⟨p + 1, 0, bd⟩) hb 1 (.int .i64 ((p + 1 : Nat) : Int)) rfl (by simp only; omega))
        have E := Lib.hid (E2.out (by omega))
        have hm' : ch ≤ m := by omega
        have hpp : ((p + 1 : Nat) : Int) = (p : Int) + 1 := by omega
        rw [hpp] at HF
        clear h E1 E2 hm hpp
        go_enter Try.func54, Try.ntmps54
        go_upto_region 3 with (fail)
        go_quiet (fail)
        go_upto_region 6 with (fail)
        go_quiet (fail)
        go_wp2
        refine bodyPost_ret (v := .int .i64 ch) (by simp [results, Try.results54, go_sem]) rfl ?_
        exact rd_mk E.out (HF.out _ (by first | exact Below.refl _ _ | exact below_drewN (Below.refl _ _) _ | exact below_drewN (below_drewN (Below.refl _ _) _) _))
  · have hcb : (cd == 0) = false := beq_eq_false_iff_ne.2 hc
    have E := Lib.hid (octR_no (m := m) (B := B) (s := ⟨p, cd, bd⟩) hc)
    clear h hbs hc
    go_enter Try.func54, Try.ntmps54
    go_wp2
    refine bodyPost_ret (v := .int .i64 0) (by simp [results, Try.results54, go_sem]) rfl ?_
    exact rd_mk E.out (RdS.refl HH.out)

theorem or_zero_ {n : Nat} (h : n < 4503599627370496) : bits BinOp.or IntKind.i64 (n : Int) 0 = (n : Int) := by
  have := or_add (a := n) (b := 0) (k := 60) (by omega) (by omega)
  simpa using this
theorem numGo_no {start f i : Nat} {n : Int} {B : List Int} {s : Rs} (h : (octR 255 B s).2.code ≠ 0) : numGo start (f + 1) i n B s = (0, (octR 255 B s).2) := by rw [numGo_succ, if_pos h]
theorem numGo_bad {start f i : Nat} {n : Int} {B : List Int} {s : Rs} (h0 : (octR 255 B s).2.code = 0) (h1 : (octR 255 B s).1 < 128) (h2 : (0 < i ∧ (octR 255 B s).1 = 0) ∨ 2147483648 ≤ n + (octR 255 B s).1 % 128 * 128 ^ i) : numGo start (f + 1) i n B s = (0, failS 100 start (octR 255 B s).2) := by rw [numGo_succ, if_neg (by rw [h0]; simp), if_pos h1, if_pos h2]
theorem numGo_end {start f i : Nat} {n : Int} {B : List Int} {s : Rs} (h0 : (octR 255 B s).2.code = 0) (h1 : (octR 255 B s).1 < 128) (h2 : ¬ ((0 < i ∧ (octR 255 B s).1 = 0) ∨ 2147483648 ≤ n + (octR 255 B s).1 % 128 * 128 ^ i)) : numGo start (f + 1) i n B s = (n + (octR 255 B s).1 % 128 * 128 ^ i, (octR 255 B s).2) := by rw [numGo_succ, if_neg (by rw [h0]; simp), if_pos h1, if_neg h2]
theorem numGo_next {start f i : Nat} {n : Int} {B : List Int} {s : Rs} (h0 : (octR 255 B s).2.code = 0) (h1 : ¬ (octR 255 B s).1 < 128) : numGo start (f + 1) i n B s = numGo start f (i + 1) (n + (octR 255 B s).1 % 128 * 128 ^ i) B (octR 255 B s).2 := by rw [numGo_succ, if_neg (by rw [h0]; simp), if_neg h1]
set_option maxRecDepth 100000 in
set_option maxHeartbeats 8000000 in
theorem rd_number (w0 W : World) (rb : Nat) (sv : Value) (B : List Int) (s : Rs) (h : RdAt 100 w0 W rb sv B s) : Calls Try.prog 56 #[.pointer (some ⟨rb, 0, none⟩)] W (RdPost 100 w0 W rb sv B (numR B s)) := by
  obtain ⟨p, cd, bd⟩ := s
  have HH := Lib.hid h
  have hby := h.byte
  have q0 := h.cells.1
  have q1 : W.cell? ⟨rb, 1, none⟩ = some (.int .i64 p) := h.cells.2.1
  have q2 : W.cell? ⟨rb, 2, none⟩ = some (.int .i64 cd) := h.cells.2.2.1
  have q3 : W.cell? ⟨rb, 3, none⟩ = some (.int .i64 bd) := h.cells.2.2.2
  have f1 := h.free 1
  have f2 := h.free 2
  have f3 := h.free 3
  have zr := h.lt
  have HP := Lib.hid (fun (n : Int) (s1 : Rs) (W1 : World) (e : numR B ⟨p, cd, bd⟩ = (n, s1)) (hs : RdS 100 w0 W rb sv B s1 W1) => rd_mk e hs)
  have HO := Lib.hid (fun (s1 : Rs) (W1 : World) (hs : RdAt 100 w0 W1 rb sv B s1) => rd_octet w0 W1 rb sv B s1 255 hs)
  have HF := Lib.hid (fun (s1 : Rs) (W1 : World) (hs : RdAt 100 w0 W1 rb sv B s1) => rd_fail w0 W1 rb sv B s1 100 p hs)
  have HE0 := Lib.hid (show numGo p 5 0 0 B ⟨p, cd, bd⟩ = numR B ⟨p, cd, bd⟩ from rfl)
  generalize RdPost 100 w0 W rb sv B (numR B ⟨p, cd, bd⟩) = post at *
  generalize numR B ⟨p, cd, bd⟩ = res at *
  clear h q0 q2 q3 f1 f2 f3
  go_enter Try.func56, Try.ntmps56
  go_wp2
  go_loopw [4, 11] (fun nv iv wr => ∃ (i n : Nat) (s1 : Rs), nv = .int .i64 n ∧ iv = .int .i64 i ∧ i ≤ 5 ∧ RowKit.Hid (n < 128 ^ i) ∧ RowKit.Hid (RdS 100 w0 W rb sv B s1 wr) ∧ RowKit.Hid ((i < 5 ∧ numGo p (5 - i) i n B s1 = res) ∨ (i = 5 ∧ s1.code ≠ 0 ∧ res = (0, s1)))) (fun _ iv _ => 5 - (intOf iv).toNat)
  case atStart => exact ⟨0, 0, ⟨p, cd, bd⟩, rfl, rfl, by omega, Lib.hid (by decide), Lib.hid (RdS.refl HH.out), Lib.hid (.inl ⟨by omega, HE0.out⟩)⟩
  case round =>
    clear q1 zr
    obtain ⟨i, n, s1, rfl, rfl, hi, HN, HS, HE⟩ := hrel
    have hn := HN.out
    obtain rfl | rfl | rfl | rfl | rfl | rfl : i = 0 ∨ i = 1 ∨ i = 2 ∨ i = 3 ∨ i = 4 ∨ i = 5 := by omega
    · obtain ⟨_, he⟩ := HE.out.resolve_right (fun h => absurd h.1 (by decide))
      have HC := Lib.hid (HO.out s1 wr HS.out.at_)
      have hsum := octR_sum 255 hby s1
      have HNX := Lib.hid (And.intro (fun h => he.symm.trans (numGo_no (start := p) (f := 4) (i := 0) (n := n) (B := B) (s := s1) h)) (And.intro (fun h h1 h2 => he.symm.trans (numGo_bad (start := p) (f := 4) (i := 0) (n := n) (B := B) (s := s1) h h1 h2)) (And.intro (fun h h1 h2 => he.symm.trans (numGo_end (start := p) (f := 4) (i := 0) (n := n) (B := B) (s := s1) h h1 h2)) (fun h h1 => he.symm.trans (numGo_next (start := p) (f := 4) (i := 0) (n := n) (B := B) (s := s1) h h1)))))
      clear he HE
      obtain ⟨r, hr⟩ : ∃ r, r = octR 255 B s1 := ⟨_, rfl⟩
      rw [← hr] at hsum HNX HC
      obtain ⟨c, s2⟩ := r
      simp only at hsum HNX
      clear hr
      go_wp2_with fail
      refine HC.out.mono ?_
      rintro e w2 ⟨rfl, hs⟩
      have HS2 := Lib.hid (HS.out.trans hs)
      clear hs HC HS
      simp only at HS2 ⊢
      have hn : n < 1 := HN.out
      rcases hsum with ⟨hcode, rfl⟩ | ⟨hcode, hc0, hc1, _, _⟩
      · have E := Lib.hid (HNX.out.1 hcode)
        have hor : bits BinOp.or IntKind.i64 (n : Int) 0 = (n : Int) := or_zero_ (by omega)
        have han : bits BinOp.and IntKind.i64 0 127 = 0 := by decide
        have hcb : (s2.code == 0) = false := beq_eq_false_iff_ne.2 hcode
        clear HNX
        have k2 := HS2.out.at_.cells.2.2.1
        have k3 := HS2.out.at_.lt
        have hnz : ¬ (2147483648 : Int) ≤ (n : Int) := by omega
        clear hcode
        go_wp2
        exact HP.out _ _ _ E.out HS2.out
      · obtain ⟨c, rfl⟩ := Int.eq_ofNat_of_zero_le hc0
        obtain ⟨m, hm⟩ : ∃ m, m = c % 128 := ⟨_, rfl⟩
        have hml : m < 128 := by omega
        have hmi : (c : Int) % 128 = (m : Int) := by omega
        have han : bits BinOp.and IntKind.i64 (c : Int) 127 = (m : Int) := by rw [and_127_ hc0 hc1]; exact hmi
        have hor : bits BinOp.or IntKind.i64 (n : Int) ((m : Int)) = (n : Int) + (m : Int) := by
          have := or_add (a := n) (b := m) (k := 0) (by omega) (by omega)
          rw [show ((m * 2 ^ 0 : Nat) : Int) = (m : Int) by omega, show ((n + m * 2 ^ 0 : Nat) : Int) = (n : Int) + (m : Int) by omega] at this
          exact this
        have HNX2 := Lib.hid (And.intro (HNX.out.2.1 hcode) (And.intro (HNX.out.2.2.1 hcode) (HNX.out.2.2.2 hcode)))
        rw [hmi, show (m : Int) * 128 ^ 0 = (m : Int) by omega] at HNX2
        have HM := Lib.hid hm
        clear HNX hmi hm
        by_cases hlt : (c : Int) < 128
        · have hnb : ¬ (2147483648 : Int) ≤ (n : Int) + (m : Int) := by omega
          have E := Lib.hid (HNX2.out.2.1 hlt (fun h => h.elim (fun h => absurd h.1 (by decide)) (fun h => hnb h)))
          have k2 : w2.cell? ⟨rb, 2, none⟩ = some (.int .i64 0) := by rw [← hcode]; exact HS2.out.at_.cells.2.2.1
          have k3 := HS2.out.at_.lt
          clear HNX2 hcode
          go_wp2
          exact HP.out _ _ _ E.out HS2.out
        · have hcast : ((n + m * 1 : Nat) : Int) = (n : Int) + (m : Int) := by omega
          have E := Lib.hid (HNX2.out.2.2 (Int.not_lt.1 hlt))
          clear HNX2
          go_wp2
          go_roundw
          case rel => exact ⟨1, n + m * 1, s2, by first | rfl | (rw [hcast]) | go_num, by first | rfl | go_num, by omega, Lib.hid (by show _ < 128; omega), HS2, Lib.hid (.inl ⟨by omega, by rw [hcast]; exact E.out.symm⟩)⟩
          case measure => simp [intOf]
    · obtain ⟨_, he⟩ := HE.out.resolve_right (fun h => absurd h.1 (by decide))
      have HC := Lib.hid (HO.out s1 wr HS.out.at_)
      have hsum := octR_sum 255 hby s1
      have HNX := Lib.hid (And.intro (fun h => he.symm.trans (numGo_no (start := p) (f := 3) (i := 1) (n := n) (B := B) (s := s1) h)) (And.intro (fun h h1 h2 => he.symm.trans (numGo_bad (start := p) (f := 3) (i := 1) (n := n) (B := B) (s := s1) h h1 h2)) (And.intro (fun h h1 h2 => he.symm.trans (numGo_end (start := p) (f := 3) (i := 1) (n := n) (B := B) (s := s1) h h1 h2)) (fun h h1 => he.symm.trans (numGo_next (start := p) (f := 3) (i := 1) (n := n) (B := B) (s := s1) h h1)))))
      clear he HE
      obtain ⟨r, hr⟩ : ∃ r, r = octR 255 B s1 := ⟨_, rfl⟩
      rw [← hr] at hsum HNX HC
      obtain ⟨c, s2⟩ := r
      simp only at hsum HNX
      clear hr
      go_wp2_with fail
      refine HC.out.mono ?_
      rintro e w2 ⟨rfl, hs⟩
      have HS2 := Lib.hid (HS.out.trans hs)
      clear hs HC HS
      simp only at HS2 ⊢
      have hn : n < 128 := HN.out
      rcases hsum with ⟨hcode, rfl⟩ | ⟨hcode, hc0, hc1, _, _⟩
      · have E := Lib.hid (HNX.out.1 hcode)
        have hor : bits BinOp.or IntKind.i64 (n : Int) 0 = (n : Int) := or_zero_ (by omega)
        have han : bits BinOp.and IntKind.i64 0 127 = 0 := by decide
        have hcb : (s2.code == 0) = false := beq_eq_false_iff_ne.2 hcode
        clear HNX
        have HFF := Lib.hid (HF.out s2 w2 HS2.out.at_)
        have HFF2 := Lib.hid (show Calls _ _ _ _ fun e W' => e = .returned (.tuple #[]) ∧ RdS 100 w0 w2 rb sv B s2 W' by have := HFF.out; rw [failS_no hcode] at this; exact this)
        clear HFF
        go_wp2_with fail
        refine HFF2.out.mono ?_
        rintro e w3 ⟨rfl, hs⟩
        have HS3 := Lib.hid (HS2.out.trans hs)
        have k2 := HS3.out.at_.cells.2.2.1
        have k3 := HS3.out.at_.lt
        clear hs HFF2 HS2
        clear hcode
        go_wp2
        exact HP.out _ _ _ E.out HS3.out
      · obtain ⟨c, rfl⟩ := Int.eq_ofNat_of_zero_le hc0
        obtain ⟨m, hm⟩ : ∃ m, m = c % 128 := ⟨_, rfl⟩
        have hml : m < 128 := by omega
        have hmi : (c : Int) % 128 = (m : Int) := by omega
        have han : bits BinOp.and IntKind.i64 (c : Int) 127 = (m : Int) := by rw [and_127_ hc0 hc1]; exact hmi
        have hsh : wrap64 ((m : Int) * 128) = (m : Int) * 128 := IntWalk.wrap64_in _ ⟨by omega, by omega⟩
        have hor : bits BinOp.or IntKind.i64 (n : Int) ((m : Int) * 128) = (n : Int) + (m : Int) * 128 := by
          have := or_add (a := n) (b := m) (k := 7) (by omega) (by omega)
          rw [show ((m * 2 ^ 7 : Nat) : Int) = (m : Int) * 128 by omega, show ((n + m * 2 ^ 7 : Nat) : Int) = (n : Int) + (m : Int) * 128 by omega] at this
          exact this
        have HNX2 := Lib.hid (And.intro (HNX.out.2.1 hcode) (And.intro (HNX.out.2.2.1 hcode) (HNX.out.2.2.2 hcode)))
        rw [hmi, show (m : Int) * 128 ^ 1 = (m : Int) * 128 by omega] at HNX2
        have HM := Lib.hid hm
        clear HNX hmi hm
        by_cases hlt : (c : Int) < 128
        · by_cases hz : (c : Int) = 0
          · have hcz : ((c : Int) == 0) = true := by rw [beq_iff_eq]; exact hz
            have E := Lib.hid (HNX2.out.1 hlt (.inl ⟨by decide, hz⟩))
            rw [failS_yes hcode] at E
            clear HNX2
            have HFF := Lib.hid (HF.out s2 w2 HS2.out.at_)
            have HFF2 := Lib.hid (show Calls _ _ _ _ fun e W' => e = .returned (.tuple #[]) ∧ RdS 100 w0 w2 rb sv B ⟨s2.at_, 100, p⟩ W' by have := HFF.out; rw [failS_yes hcode] at this; exact this)
            clear HFF
            go_wp2_with fail
            refine HFF2.out.mono ?_
            rintro e w3 ⟨rfl, hs⟩
            have HS3 := Lib.hid (HS2.out.trans hs)
            have k2 : w3.cell? ⟨rb, 2, none⟩ = some (.int .i64 100) := HS3.out.at_.cells.2.2.1
            have k3 := HS3.out.at_.lt
            clear hs HFF2 HS2
            clear hcode hz
            go_wp2
            exact HP.out _ _ _ E.out HS3.out
          · have hcz : ((c : Int) == 0) = false := beq_eq_false_iff_ne.2 hz
            have hnb : ¬ (2147483648 : Int) ≤ (n : Int) + (m : Int) * 128 := by omega
            have E := Lib.hid (HNX2.out.2.1 hlt (fun h => h.elim (fun h => absurd h.2 hz) (fun h => hnb h)))
            have k2 : w2.cell? ⟨rb, 2, none⟩ = some (.int .i64 0) := by rw [← hcode]; exact HS2.out.at_.cells.2.2.1
            have k3 := HS2.out.at_.lt
            clear HNX2 hcode
            go_wp2
            exact HP.out _ _ _ E.out HS2.out
        · have hcast : ((n + m * 128 : Nat) : Int) = (n : Int) + (m : Int) * 128 := by omega
          have E := Lib.hid (HNX2.out.2.2 (Int.not_lt.1 hlt))
          clear HNX2
          go_wp2
          go_roundw
          case rel => exact ⟨2, n + m * 128, s2, by first | rfl | (rw [hcast]) | go_num, by first | rfl | go_num, by omega, Lib.hid (by show _ < 16384; omega), HS2, Lib.hid (.inl ⟨by omega, by rw [hcast]; exact E.out.symm⟩)⟩
          case measure => simp [intOf]
    · obtain ⟨_, he⟩ := HE.out.resolve_right (fun h => absurd h.1 (by decide))
      have HC := Lib.hid (HO.out s1 wr HS.out.at_)
      have hsum := octR_sum 255 hby s1
      have HNX := Lib.hid (And.intro (fun h => he.symm.trans (numGo_no (start := p) (f := 2) (i := 2) (n := n) (B := B) (s := s1) h)) (And.intro (fun h h1 h2 => he.symm.trans (numGo_bad (start := p) (f := 2) (i := 2) (n := n) (B := B) (s := s1) h h1 h2)) (And.intro (fun h h1 h2 => he.symm.trans (numGo_end (start := p) (f := 2) (i := 2) (n := n) (B := B) (s := s1) h h1 h2)) (fun h h1 => he.symm.trans (numGo_next (start := p) (f := 2) (i := 2) (n := n) (B := B) (s := s1) h h1)))))
      clear he HE
      obtain ⟨r, hr⟩ : ∃ r, r = octR 255 B s1 := ⟨_, rfl⟩
      rw [← hr] at hsum HNX HC
      obtain ⟨c, s2⟩ := r
      simp only at hsum HNX
      clear hr
      go_wp2_with fail
      refine HC.out.mono ?_
      rintro e w2 ⟨rfl, hs⟩
      have HS2 := Lib.hid (HS.out.trans hs)
      clear hs HC HS
      simp only at HS2 ⊢
      have hn : n < 16384 := HN.out
      rcases hsum with ⟨hcode, rfl⟩ | ⟨hcode, hc0, hc1, _, _⟩
      · have E := Lib.hid (HNX.out.1 hcode)
        have hor : bits BinOp.or IntKind.i64 (n : Int) 0 = (n : Int) := or_zero_ (by omega)
        have han : bits BinOp.and IntKind.i64 0 127 = 0 := by decide
        have hcb : (s2.code == 0) = false := beq_eq_false_iff_ne.2 hcode
        clear HNX
        have HFF := Lib.hid (HF.out s2 w2 HS2.out.at_)
        have HFF2 := Lib.hid (show Calls _ _ _ _ fun e W' => e = .returned (.tuple #[]) ∧ RdS 100 w0 w2 rb sv B s2 W' by have := HFF.out; rw [failS_no hcode] at this; exact this)
        clear HFF
        go_wp2_with fail
        refine HFF2.out.mono ?_
        rintro e w3 ⟨rfl, hs⟩
        have HS3 := Lib.hid (HS2.out.trans hs)
        have k2 := HS3.out.at_.cells.2.2.1
        have k3 := HS3.out.at_.lt
        clear hs HFF2 HS2
        clear hcode
        go_wp2
        exact HP.out _ _ _ E.out HS3.out
      · obtain ⟨c, rfl⟩ := Int.eq_ofNat_of_zero_le hc0
        obtain ⟨m, hm⟩ : ∃ m, m = c % 128 := ⟨_, rfl⟩
        have hml : m < 128 := by omega
        have hmi : (c : Int) % 128 = (m : Int) := by omega
        have han : bits BinOp.and IntKind.i64 (c : Int) 127 = (m : Int) := by rw [and_127_ hc0 hc1]; exact hmi
        have hsh : wrap64 ((m : Int) * 16384) = (m : Int) * 16384 := IntWalk.wrap64_in _ ⟨by omega, by omega⟩
        have hor : bits BinOp.or IntKind.i64 (n : Int) ((m : Int) * 16384) = (n : Int) + (m : Int) * 16384 := by
          have := or_add (a := n) (b := m) (k := 14) (by omega) (by omega)
          rw [show ((m * 2 ^ 14 : Nat) : Int) = (m : Int) * 16384 by omega, show ((n + m * 2 ^ 14 : Nat) : Int) = (n : Int) + (m : Int) * 16384 by omega] at this
          exact this
        have HNX2 := Lib.hid (And.intro (HNX.out.2.1 hcode) (And.intro (HNX.out.2.2.1 hcode) (HNX.out.2.2.2 hcode)))
        rw [hmi, show (m : Int) * 128 ^ 2 = (m : Int) * 16384 by omega] at HNX2
        have HM := Lib.hid hm
        clear HNX hmi hm
        by_cases hlt : (c : Int) < 128
        · by_cases hz : (c : Int) = 0
          · have hcz : ((c : Int) == 0) = true := by rw [beq_iff_eq]; exact hz
            have E := Lib.hid (HNX2.out.1 hlt (.inl ⟨by decide, hz⟩))
            rw [failS_yes hcode] at E
            clear HNX2
            have HFF := Lib.hid (HF.out s2 w2 HS2.out.at_)
            have HFF2 := Lib.hid (show Calls _ _ _ _ fun e W' => e = .returned (.tuple #[]) ∧ RdS 100 w0 w2 rb sv B ⟨s2.at_, 100, p⟩ W' by have := HFF.out; rw [failS_yes hcode] at this; exact this)
            clear HFF
            go_wp2_with fail
            refine HFF2.out.mono ?_
            rintro e w3 ⟨rfl, hs⟩
            have HS3 := Lib.hid (HS2.out.trans hs)
            have k2 : w3.cell? ⟨rb, 2, none⟩ = some (.int .i64 100) := HS3.out.at_.cells.2.2.1
            have k3 := HS3.out.at_.lt
            clear hs HFF2 HS2
            clear hcode hz
            go_wp2
            exact HP.out _ _ _ E.out HS3.out
          · have hcz : ((c : Int) == 0) = false := beq_eq_false_iff_ne.2 hz
            have hnb : ¬ (2147483648 : Int) ≤ (n : Int) + (m : Int) * 16384 := by omega
            have E := Lib.hid (HNX2.out.2.1 hlt (fun h => h.elim (fun h => absurd h.2 hz) (fun h => hnb h)))
            have k2 : w2.cell? ⟨rb, 2, none⟩ = some (.int .i64 0) := by rw [← hcode]; exact HS2.out.at_.cells.2.2.1
            have k3 := HS2.out.at_.lt
            clear HNX2 hcode
            go_wp2
            exact HP.out _ _ _ E.out HS2.out
        · have hcast : ((n + m * 16384 : Nat) : Int) = (n : Int) + (m : Int) * 16384 := by omega
          have E := Lib.hid (HNX2.out.2.2 (Int.not_lt.1 hlt))
          clear HNX2
          go_wp2
          go_roundw
          case rel => exact ⟨3, n + m * 16384, s2, by first | rfl | (rw [hcast]) | go_num, by first | rfl | go_num, by omega, Lib.hid (by show _ < 2097152; omega), HS2, Lib.hid (.inl ⟨by omega, by rw [hcast]; exact E.out.symm⟩)⟩
          case measure => simp [intOf]
    · obtain ⟨_, he⟩ := HE.out.resolve_right (fun h => absurd h.1 (by decide))
      have HC := Lib.hid (HO.out s1 wr HS.out.at_)
      have hsum := octR_sum 255 hby s1
      have HNX := Lib.hid (And.intro (fun h => he.symm.trans (numGo_no (start := p) (f := 1) (i := 3) (n := n) (B := B) (s := s1) h)) (And.intro (fun h h1 h2 => he.symm.trans (numGo_bad (start := p) (f := 1) (i := 3) (n := n) (B := B) (s := s1) h h1 h2)) (And.intro (fun h h1 h2 => he.symm.trans (numGo_end (start := p) (f := 1) (i := 3) (n := n) (B := B) (s := s1) h h1 h2)) (fun h h1 => he.symm.trans (numGo_next (start := p) (f := 1) (i := 3) (n := n) (B := B) (s := s1) h h1)))))
      clear he HE
      obtain ⟨r, hr⟩ : ∃ r, r = octR 255 B s1 := ⟨_, rfl⟩
      rw [← hr] at hsum HNX HC
      obtain ⟨c, s2⟩ := r
      simp only at hsum HNX
      clear hr
      go_wp2_with fail
      refine HC.out.mono ?_
      rintro e w2 ⟨rfl, hs⟩
      have HS2 := Lib.hid (HS.out.trans hs)
      clear hs HC HS
      simp only at HS2 ⊢
      have hn : n < 2097152 := HN.out
      rcases hsum with ⟨hcode, rfl⟩ | ⟨hcode, hc0, hc1, _, _⟩
      · have E := Lib.hid (HNX.out.1 hcode)
        have hor : bits BinOp.or IntKind.i64 (n : Int) 0 = (n : Int) := or_zero_ (by omega)
        have han : bits BinOp.and IntKind.i64 0 127 = 0 := by decide
        have hcb : (s2.code == 0) = false := beq_eq_false_iff_ne.2 hcode
        clear HNX
        have HFF := Lib.hid (HF.out s2 w2 HS2.out.at_)
        have HFF2 := Lib.hid (show Calls _ _ _ _ fun e W' => e = .returned (.tuple #[]) ∧ RdS 100 w0 w2 rb sv B s2 W' by have := HFF.out; rw [failS_no hcode] at this; exact this)
        clear HFF
        go_wp2_with fail
        refine HFF2.out.mono ?_
        rintro e w3 ⟨rfl, hs⟩
        have HS3 := Lib.hid (HS2.out.trans hs)
        have k2 := HS3.out.at_.cells.2.2.1
        have k3 := HS3.out.at_.lt
        clear hs HFF2 HS2
        clear hcode
        go_wp2
        exact HP.out _ _ _ E.out HS3.out
      · obtain ⟨c, rfl⟩ := Int.eq_ofNat_of_zero_le hc0
        obtain ⟨m, hm⟩ : ∃ m, m = c % 128 := ⟨_, rfl⟩
        have hml : m < 128 := by omega
        have hmi : (c : Int) % 128 = (m : Int) := by omega
        have han : bits BinOp.and IntKind.i64 (c : Int) 127 = (m : Int) := by rw [and_127_ hc0 hc1]; exact hmi
        have hsh : wrap64 ((m : Int) * 2097152) = (m : Int) * 2097152 := IntWalk.wrap64_in _ ⟨by omega, by omega⟩
        have hor : bits BinOp.or IntKind.i64 (n : Int) ((m : Int) * 2097152) = (n : Int) + (m : Int) * 2097152 := by
          have := or_add (a := n) (b := m) (k := 21) (by omega) (by omega)
          rw [show ((m * 2 ^ 21 : Nat) : Int) = (m : Int) * 2097152 by omega, show ((n + m * 2 ^ 21 : Nat) : Int) = (n : Int) + (m : Int) * 2097152 by omega] at this
          exact this
        have HNX2 := Lib.hid (And.intro (HNX.out.2.1 hcode) (And.intro (HNX.out.2.2.1 hcode) (HNX.out.2.2.2 hcode)))
        rw [hmi, show (m : Int) * 128 ^ 3 = (m : Int) * 2097152 by omega] at HNX2
        have HM := Lib.hid hm
        clear HNX hmi hm
        by_cases hlt : (c : Int) < 128
        · by_cases hz : (c : Int) = 0
          · have hcz : ((c : Int) == 0) = true := by rw [beq_iff_eq]; exact hz
            have E := Lib.hid (HNX2.out.1 hlt (.inl ⟨by decide, hz⟩))
            rw [failS_yes hcode] at E
            clear HNX2
            have HFF := Lib.hid (HF.out s2 w2 HS2.out.at_)
            have HFF2 := Lib.hid (show Calls _ _ _ _ fun e W' => e = .returned (.tuple #[]) ∧ RdS 100 w0 w2 rb sv B ⟨s2.at_, 100, p⟩ W' by have := HFF.out; rw [failS_yes hcode] at this; exact this)
            clear HFF
            go_wp2_with fail
            refine HFF2.out.mono ?_
            rintro e w3 ⟨rfl, hs⟩
            have HS3 := Lib.hid (HS2.out.trans hs)
            have k2 : w3.cell? ⟨rb, 2, none⟩ = some (.int .i64 100) := HS3.out.at_.cells.2.2.1
            have k3 := HS3.out.at_.lt
            clear hs HFF2 HS2
            clear hcode hz
            go_wp2
            exact HP.out _ _ _ E.out HS3.out
          · have hcz : ((c : Int) == 0) = false := beq_eq_false_iff_ne.2 hz
            have hnb : ¬ (2147483648 : Int) ≤ (n : Int) + (m : Int) * 2097152 := by omega
            have E := Lib.hid (HNX2.out.2.1 hlt (fun h => h.elim (fun h => absurd h.2 hz) (fun h => hnb h)))
            have k2 : w2.cell? ⟨rb, 2, none⟩ = some (.int .i64 0) := by rw [← hcode]; exact HS2.out.at_.cells.2.2.1
            have k3 := HS2.out.at_.lt
            clear HNX2 hcode
            go_wp2
            exact HP.out _ _ _ E.out HS2.out
        · have hcast : ((n + m * 2097152 : Nat) : Int) = (n : Int) + (m : Int) * 2097152 := by omega
          have E := Lib.hid (HNX2.out.2.2 (Int.not_lt.1 hlt))
          clear HNX2
          go_wp2
          go_roundw
          case rel => exact ⟨4, n + m * 2097152, s2, by first | rfl | (rw [hcast]) | go_num, by first | rfl | go_num, by omega, Lib.hid (by show _ < 268435456; omega), HS2, Lib.hid (.inl ⟨by omega, by rw [hcast]; exact E.out.symm⟩)⟩
          case measure => simp [intOf]
    · obtain ⟨_, he⟩ := HE.out.resolve_right (fun h => absurd h.1 (by decide))
      have HC := Lib.hid (HO.out s1 wr HS.out.at_)
      have hsum := octR_sum 255 hby s1
      have HNX := Lib.hid (And.intro (fun h => he.symm.trans (numGo_no (start := p) (f := 0) (i := 4) (n := n) (B := B) (s := s1) h)) (And.intro (fun h h1 h2 => he.symm.trans (numGo_bad (start := p) (f := 0) (i := 4) (n := n) (B := B) (s := s1) h h1 h2)) (And.intro (fun h h1 h2 => he.symm.trans (numGo_end (start := p) (f := 0) (i := 4) (n := n) (B := B) (s := s1) h h1 h2)) (fun h h1 => he.symm.trans (numGo_next (start := p) (f := 0) (i := 4) (n := n) (B := B) (s := s1) h h1)))))
      clear he HE
      obtain ⟨r, hr⟩ : ∃ r, r = octR 255 B s1 := ⟨_, rfl⟩
      rw [← hr] at hsum HNX HC
      obtain ⟨c, s2⟩ := r
      simp only at hsum HNX
      clear hr
      go_wp2_with fail
      refine HC.out.mono ?_
      rintro e w2 ⟨rfl, hs⟩
      have HS2 := Lib.hid (HS.out.trans hs)
      clear hs HC HS
      simp only at HS2 ⊢
      have hn : n < 268435456 := HN.out
      rcases hsum with ⟨hcode, rfl⟩ | ⟨hcode, hc0, hc1, _, _⟩
      · have E := Lib.hid (HNX.out.1 hcode)
        have hor : bits BinOp.or IntKind.i64 (n : Int) 0 = (n : Int) := or_zero_ (by omega)
        have han : bits BinOp.and IntKind.i64 0 127 = 0 := by decide
        have hcb : (s2.code == 0) = false := beq_eq_false_iff_ne.2 hcode
        clear HNX
        have HFF := Lib.hid (HF.out s2 w2 HS2.out.at_)
        have HFF2 := Lib.hid (show Calls _ _ _ _ fun e W' => e = .returned (.tuple #[]) ∧ RdS 100 w0 w2 rb sv B s2 W' by have := HFF.out; rw [failS_no hcode] at this; exact this)
        clear HFF
        go_wp2_with fail
        refine HFF2.out.mono ?_
        rintro e w3 ⟨rfl, hs⟩
        have HS3 := Lib.hid (HS2.out.trans hs)
        have k2 := HS3.out.at_.cells.2.2.1
        have k3 := HS3.out.at_.lt
        clear hs HFF2 HS2
        clear hcode
        go_wp2
        exact HP.out _ _ _ E.out HS3.out
      · obtain ⟨c, rfl⟩ := Int.eq_ofNat_of_zero_le hc0
        obtain ⟨m, hm⟩ : ∃ m, m = c % 128 := ⟨_, rfl⟩
        have hml : m < 128 := by omega
        have hmi : (c : Int) % 128 = (m : Int) := by omega
        have han : bits BinOp.and IntKind.i64 (c : Int) 127 = (m : Int) := by rw [and_127_ hc0 hc1]; exact hmi
        have hsh : wrap64 ((m : Int) * 268435456) = (m : Int) * 268435456 := IntWalk.wrap64_in _ ⟨by omega, by omega⟩
        have hor : bits BinOp.or IntKind.i64 (n : Int) ((m : Int) * 268435456) = (n : Int) + (m : Int) * 268435456 := by
          have := or_add (a := n) (b := m) (k := 28) (by omega) (by omega)
          rw [show ((m * 2 ^ 28 : Nat) : Int) = (m : Int) * 268435456 by omega, show ((n + m * 2 ^ 28 : Nat) : Int) = (n : Int) + (m : Int) * 268435456 by omega] at this
          exact this
        have HNX2 := Lib.hid (And.intro (HNX.out.2.1 hcode) (And.intro (HNX.out.2.2.1 hcode) (HNX.out.2.2.2 hcode)))
        rw [hmi, show (m : Int) * 128 ^ 4 = (m : Int) * 268435456 by omega] at HNX2
        have HM := Lib.hid hm
        clear HNX hmi hm
        by_cases hlt : (c : Int) < 128
        · by_cases hz : (c : Int) = 0
          · have hcz : ((c : Int) == 0) = true := by rw [beq_iff_eq]; exact hz
            have E := Lib.hid (HNX2.out.1 hlt (.inl ⟨by decide, hz⟩))
            rw [failS_yes hcode] at E
            clear HNX2
            have HFF := Lib.hid (HF.out s2 w2 HS2.out.at_)
            have HFF2 := Lib.hid (show Calls _ _ _ _ fun e W' => e = .returned (.tuple #[]) ∧ RdS 100 w0 w2 rb sv B ⟨s2.at_, 100, p⟩ W' by have := HFF.out; rw [failS_yes hcode] at this; exact this)
            clear HFF
            go_wp2_with fail
            refine HFF2.out.mono ?_
            rintro e w3 ⟨rfl, hs⟩
            have HS3 := Lib.hid (HS2.out.trans hs)
            have k2 : w3.cell? ⟨rb, 2, none⟩ = some (.int .i64 100) := HS3.out.at_.cells.2.2.1
            have k3 := HS3.out.at_.lt
            clear hs HFF2 HS2
            clear hcode hz
            go_wp2
            exact HP.out _ _ _ E.out HS3.out
          · have hcz : ((c : Int) == 0) = false := beq_eq_false_iff_ne.2 hz
            by_cases hbig : (2147483648 : Int) ≤ (n : Int) + (m : Int) * 268435456
            · have E := Lib.hid (HNX2.out.1 hlt (.inr hbig))
              rw [failS_yes hcode] at E
              clear HNX2
              have HFF := Lib.hid (HF.out s2 w2 HS2.out.at_)
              have HFF2 := Lib.hid (show Calls _ _ _ _ fun e W' => e = .returned (.tuple #[]) ∧ RdS 100 w0 w2 rb sv B ⟨s2.at_, 100, p⟩ W' by have := HFF.out; rw [failS_yes hcode] at this; exact this)
              clear HFF
              go_wp2_with fail
              refine HFF2.out.mono ?_
              rintro e w3 ⟨rfl, hs⟩
              have HS3 := Lib.hid (HS2.out.trans hs)
              have k2 : w3.cell? ⟨rb, 2, none⟩ = some (.int .i64 100) := HS3.out.at_.cells.2.2.1
              have k3 := HS3.out.at_.lt
              clear hs HFF2 HS2
              clear hcode hz
              go_wp2
              exact HP.out _ _ _ E.out HS3.out
            · have E := Lib.hid (HNX2.out.2.1 hlt (fun h => h.elim (fun h => absurd h.2 hz) (fun h => hbig h)))
              have k2 : w2.cell? ⟨rb, 2, none⟩ = some (.int .i64 0) := by rw [← hcode]; exact HS2.out.at_.cells.2.2.1
              have k3 := HS2.out.at_.lt
              clear HNX2 hcode
              go_wp2
              exact HP.out _ _ _ E.out HS2.out
        · have hcast : ((n + m * 268435456 : Nat) : Int) = (n : Int) + (m : Int) * 268435456 := by omega
          have E := Lib.hid (show res = (0, failS 100 p s2) from HNX2.out.2.2 (Int.not_lt.1 hlt))
          rw [failS_yes hcode] at E
          clear HNX2
          have HFF := Lib.hid (HF.out s2 w2 HS2.out.at_)
          have HFF2 := Lib.hid (show Calls _ _ _ _ fun e W' => e = .returned (.tuple #[]) ∧ RdS 100 w0 w2 rb sv B ⟨s2.at_, 100, p⟩ W' by have := HFF.out; rw [failS_yes hcode] at this; exact this)
          clear HFF
          go_wp2_with fail
          refine HFF2.out.mono ?_
          rintro e w3 ⟨rfl, hs⟩
          have HS3 := Lib.hid (HS2.out.trans hs)
          have k2 : w3.cell? ⟨rb, 2, none⟩ = some (.int .i64 100) := HS3.out.at_.cells.2.2.1
          have k3 := HS3.out.at_.lt
          clear hs HFF2 HS2
          clear hcode
          go_wp2
          go_roundw
          case rel => exact ⟨5, n + m * 268435456, _, by first | rfl | (rw [hcast]) | go_num, by first | rfl | go_num, by omega, Lib.hid (by show _ < 34359738368; omega), HS3, Lib.hid (.inr ⟨rfl, by simp, E.out⟩)⟩
          case measure => simp [intOf]
    · obtain ⟨_, hcode, he⟩ := HE.out.resolve_left (fun h => absurd h.1 (by decide))
      have E := Lib.hid he
      have k2 := HS.out.at_.cells.2.2.1
      have k3 := HS.out.at_.lt
      have hcb : (s1.code == 0) = false := beq_eq_false_iff_ne.2 hcode
      clear HE he hcode
      go_wp2
      exact HP.out 0 _ _ E.out HS.out
end Go.Proofs.Ytcihihncgpddfaa
namespace Go.Proofs.Ytcihihncgpddfaa
open Go.RowKit Go.Deep
set_option linter.unusedVariables false
set_option linter.unusedSimpArgs false

set_option maxRecDepth 100000 in
set_option maxHeartbeats 8000000 in
theorem rr_fail (w0 W : World) (rb : Nat) (sv : Value) (B : List Int) (s : Rs) (c a : Int) (h : RdAt 93 w0 W rb sv B s) : Calls Try.prog 51 #[.pointer (some ⟨rb, 0, none⟩), .int .i64 c, .int .i64 a] W fun e W' => e = .returned (.tuple #[]) ∧ RdS 93 w0 W rb sv B (failS c a s) W' := by
  obtain ⟨p, cd, bd⟩ := s
  have q0 := h.cells.1
  have q1 : W.cell? ⟨rb, 1, none⟩ = some (.int .i64 p) := h.cells.2.1
  have q2 : W.cell? ⟨rb, 2, none⟩ = some (.int .i64 cd) := h.cells.2.2.1
  have q3 : W.cell? ⟨rb, 3, none⟩ = some (.int .i64 bd) := h.cells.2.2.2
  have f1 := h.free 1
  have f2 := h.free 2
  have f3 := h.free 3
  have zr := h.lt
  by_cases hc : cd = 0
  · subst hc
    have HE := Lib.hid (show RdS 93 w0 W rb sv B (failS c a ⟨p, 0, bd⟩) ((W.setCell ⟨rb, 2, none⟩ (.int .i64 c)).setCell ⟨rb, 3, none⟩ (.int .i64 a)) by
      rw [failS_yes rfl]
      have h1 := h.set1 (s1 := ⟨p, c, bd⟩) (Below.refl _ _) 2 (.int .i64 c) rfl h.at_
      exact h1.trans (h1.at_.set1 (s1 := ⟨p, c, a⟩) (Below.refl _ _) 3 (.int .i64 a) rfl h1.at_.at_))
    clear h
    go_enter Try.func51, Try.ntmps51
    go_wp2
    first
      | exact bodyPost_end (v := .tuple #[]) (results_none rfl _ _ _) rfl ⟨rfl, HE.out⟩
      | exact bodyPost_ret (v := .tuple #[]) (results_none rfl _ _ _) rfl ⟨rfl, HE.out⟩
  · have HE := Lib.hid (show RdS 93 w0 W rb sv B (failS c a ⟨p, cd, bd⟩) W by rw [failS_no hc]; exact RdS.refl h)
    have hcb : (cd == 0) = false := beq_eq_false_iff_ne.2 hc
    clear h hc
    go_enter Try.func51, Try.ntmps51
    go_wp2
    first
      | exact bodyPost_end (v := .tuple #[]) (results_none rfl _ _ _) rfl ⟨rfl, HE.out⟩
      | exact bodyPost_ret (v := .tuple #[]) (results_none rfl _ _ _) rfl ⟨rfl, HE.out⟩
set_option maxRecDepth 100000 in
set_option maxHeartbeats 8000000 in
theorem rr_octet (w0 W : World) (rb : Nat) (sv : Value) (B : List Int) (s : Rs) (m : Int) (h : RdAt 93 w0 W rb sv B s) : Calls Try.prog 50 #[.pointer (some ⟨rb, 0, none⟩), .int .i64 m] W (RdPost 93 w0 W rb sv B (octR m B s)) := by
  obtain ⟨p, cd, bd⟩ := s
  have HH := Lib.hid h
  obtain ⟨pv, cv, rfl, hcv1, hcv2, hbs⟩ := h.src
  have hap : p ≤ B.length := h.at_
  have hlen := h.len
  have q0 := h.cells.1
  have q1 : W.cell? ⟨rb, 1, none⟩ = some (.int .i64 p) := h.cells.2.1
  have q2 : W.cell? ⟨rb, 2, none⟩ = some (.int .i64 cd) := h.cells.2.2.1
  have q3 : W.cell? ⟨rb, 3, none⟩ = some (.int .i64 bd) := h.cells.2.2.2
  have f1 := h.free 1
  have f2 := h.free 2
  have f3 := h.free 3
  have zr := h.lt
  by_cases hc : cd = 0
  · subst hc
    by_cases hp : p = B.length
    · subst hp
      have HF := Lib.hid (fun W1 (hb : Below W.heap.size W W1) => rr_fail w0 W1 rb _ B ⟨B.length, 0, bd⟩ 6 B.length (h.later hb))
      have E := Lib.hid (octR_end (m := m) (B := B) (s := ⟨B.length, 0, bd⟩) rfl (Nat.le_refl _))
      clear h hbs
      go_enter Try.func50, Try.ntmps50
      go_upto_region 3 with (fail)
      go_quiet (fail)
      go_wp2_with fail
      refine (HF.out _ (by first | exact Below.refl _ _ | exact below_drewN (Below.refl _ _) _ | exact below_drewN (below_drewN (Below.refl _ _) _) _)).mono ?_
      rintro e w1 ⟨rfl, hs⟩
      rw [failS_yes rfl] at hs
      have HS := Lib.hid (hs.from (W := W) (by first | exact Below.refl _ _ | exact below_drewN (Below.refl _ _) _ | exact below_drewN (below_drewN (Below.refl _ _) _) _))
      clear hs HF
      go_wp2
      refine bodyPost_ret (v := .int .i64 0) (by simp [results, Try.results50, go_sem]) rfl ?_
      exact rd_mk E.out HS.out
    · have hlt : p < B.length := by omega
      have hpi : (p : Int) < (B.length : Int) := by omega
      have hpb : ((p : Int) == (B.length : Int)) = false := beq_eq_false_iff_ne.2 (by omega)
      obtain ⟨b, off, rfl, hb, hbs⟩ := hbs (by omega)
      have cb : W.cell? ⟨b, off + p, none⟩ = some (.int .u8 (B.getD p 0)) := by rw [(bcell h.be).1 _ _ hb]; exact hbs p hlt
      have hbw : b < W.heap.size := Nat.lt_of_lt_of_le hb h.be.size
      have hrg := h.byte.at p
      have E1 := Lib.hid (fun (hm : m < B.getD p 0) => octR_big (m := m) (B := B) (s := ⟨p, 0, bd⟩) rfl hlt hm)
      have E2 := Lib.hid (fun (hm : B.getD p 0 ≤ m) => octR_ok (m := m) (B := B) (s := ⟨p, 0, bd⟩) rfl hlt hm)
      clear hbs
      obtain ⟨ch, hch⟩ : ∃ ch, ch = B.getD p 0 := ⟨_, rfl⟩
      rw [← hch] at cb hrg E1 E2
      clear hch
      by_cases hm : m < ch
      · have HF := Lib.hid (fun W1 (hb : Below W.heap.size W W1) => rr_fail w0 W1 rb _ B ⟨p, 0, bd⟩ 100 p (h.later hb))
        have E := Lib.hid (E1.out hm)
        clear h E1 E2
        go_enter Try.func50, Try.ntmps50
        go_upto_region 3 with (fail)
        go_quiet (fail)
        go_upto_region 6 with (fail)
        go_quiet (fail)
        go_wp2_with fail
        refine (HF.out _ (by first | exact Below.refl _ _ | exact below_drewN (Below.refl _ _) _ | exact below_drewN (below_drewN (Below.refl _ _) _) _)).mono ?_
        rintro e w1 ⟨rfl, hs⟩
        rw [failS_yes rfl] at hs
        have HS := Lib.hid (hs.from (W := W) (by first | exact Below.refl _ _ | exact below_drewN (Below.refl _ _) _ | exact below_drewN (below_drewN (Below.refl _ _) _) _))
        clear hs HF
        go_wp2
        refine bodyPost_ret (v := .int .i64 0) (by simp [results, Try.results50, go_sem]) rfl ?_
        exact rd_mk E.out HS.out
      · have HF := Lib.hid (fun W1 (hb : Below W.heap.size W W1) => h.set1 (s1 := ⟨p + 1, 0, bd⟩) hb 1 (.int .i64 ((p + 1 : Nat) : Int)) rfl (by simp only; omega))
        have E := Lib.hid (E2.out (by omega))
        have hm' : ch ≤ m := by omega
        have hpp : ((p + 1 : Nat) : Int) = (p : Int) + 1 := by omega
        rw [hpp] at HF
        clear h E1 E2 hm hpp
        go_enter Try.func50, Try.ntmps50
        go_upto_region 3 with (fail)
        go_quiet (fail)
        go_upto_region 6 with (fail)
        go_quiet (fail)
        go_wp2
        refine bodyPost_ret (v := .int .i64 ch) (by simp [results, Try.results50, go_sem]) rfl ?_
        exact rd_mk E.out (HF.out _ (by first | exact Below.refl _ _ | exact below_drewN (Below.refl _ _) _ | exact below_drewN (below_drewN (Below.refl _ _) _) _))
  · have hcb : (cd == 0) = false := beq_eq_false_iff_ne.2 hc
    have E := Lib.hid (octR_no (m := m) (B := B) (s := ⟨p, cd, bd⟩) hc)
    clear h hbs hc
    go_enter Try.func50, Try.ntmps50
    go_wp2
    refine bodyPost_ret (v := .int .i64 0) (by simp [results, Try.results50, go_sem]) rfl ?_
    exact rd_mk E.out (RdS.refl HH.out)
set_option maxRecDepth 100000 in
set_option maxHeartbeats 8000000 in
theorem rr_number (w0 W : World) (rb : Nat) (sv : Value) (B : List Int) (s : Rs) (h : RdAt 93 w0 W rb sv B s) : Calls Try.prog 52 #[.pointer (some ⟨rb, 0, none⟩)] W (RdPost 93 w0 W rb sv B (numR B s)) := by
  obtain ⟨p, cd, bd⟩ := s
  have HH := Lib.hid h
  have hby := h.byte
  have q0 := h.cells.1
  have q1 : W.cell? ⟨rb, 1, none⟩ = some (.int .i64 p) := h.cells.2.1
  have q2 : W.cell? ⟨rb, 2, none⟩ = some (.int .i64 cd) := h.cells.2.2.1
  have q3 : W.cell? ⟨rb, 3, none⟩ = some (.int .i64 bd) := h.cells.2.2.2
  have f1 := h.free 1
  have f2 := h.free 2
  have f3 := h.free 3
  have zr := h.lt
  have HP := Lib.hid (fun (n : Int) (s1 : Rs) (W1 : World) (e : numR B ⟨p, cd, bd⟩ = (n, s1)) (hs : RdS 93 w0 W rb sv B s1 W1) => rd_mk e hs)
  have HO := Lib.hid (fun (s1 : Rs) (W1 : World) (hs : RdAt 93 w0 W1 rb sv B s1) => rr_octet w0 W1 rb sv B s1 255 hs)
  have HF := Lib.hid (fun (s1 : Rs) (W1 : World) (hs : RdAt 93 w0 W1 rb sv B s1) => rr_fail w0 W1 rb sv B s1 100 p hs)
  have HE0 := Lib.hid (show numGo p 5 0 0 B ⟨p, cd, bd⟩ = numR B ⟨p, cd, bd⟩ from rfl)
  generalize RdPost 93 w0 W rb sv B (numR B ⟨p, cd, bd⟩) = post at *
  generalize numR B ⟨p, cd, bd⟩ = res at *
  clear h q0 q2 q3 f1 f2 f3
  go_enter Try.func52, Try.ntmps52
  go_wp2
  go_loopw [4, 5, 6] (fun nv uv iv wr => ∃ (i n : Nat) (s1 : Rs), nv = .int .i64 n ∧ uv = .int .i64 (128 ^ i : Nat) ∧ iv = .int .i64 i ∧ i ≤ 5 ∧ RowKit.Hid (n < 128 ^ i) ∧ RowKit.Hid (RdS 93 w0 W rb sv B s1 wr) ∧ RowKit.Hid (numGo p (5 - i) i n B s1 = res ∧ (i = 5 → s1.code = 0))) (fun _ _ iv _ => 5 - (intOf iv).toNat)
  case atStart => exact ⟨0, 0, ⟨p, cd, bd⟩, rfl, rfl, rfl, by omega, Lib.hid (by decide), Lib.hid (RdS.refl HH.out), Lib.hid ⟨HE0.out, fun h => absurd h (by decide)⟩⟩
  case round =>
    clear q1 zr
    obtain ⟨i, n, s1, rfl, rfl, rfl, hi, HN, HS, HE⟩ := hrel
    have hn := HN.out
    obtain rfl | rfl | rfl | rfl | rfl | rfl : i = 0 ∨ i = 1 ∨ i = 2 ∨ i = 3 ∨ i = 4 ∨ i = 5 := by omega
    · obtain ⟨he, _⟩ := HE.out
      have HC := Lib.hid (HO.out s1 wr HS.out.at_)
      have hsum := octR_sum 255 hby s1
      have HNX := Lib.hid (And.intro (fun h => he.symm.trans (numGo_no (start := p) (f := 4) (i := 0) (n := n) (B := B) (s := s1) h)) (And.intro (fun h h1 h2 => he.symm.trans (numGo_bad (start := p) (f := 4) (i := 0) (n := n) (B := B) (s := s1) h h1 h2)) (And.intro (fun h h1 h2 => he.symm.trans (numGo_end (start := p) (f := 4) (i := 0) (n := n) (B := B) (s := s1) h h1 h2)) (fun h h1 => he.symm.trans (numGo_next (start := p) (f := 4) (i := 0) (n := n) (B := B) (s := s1) h h1)))))
      clear he HE
      obtain ⟨r, hr⟩ : ∃ r, r = octR 255 B s1 := ⟨_, rfl⟩
      rw [← hr] at hsum HNX HC
      obtain ⟨c, s2⟩ := r
      simp only at hsum HNX
      clear hr
      go_wp2_with fail
      refine HC.out.mono ?_
      rintro e w2 ⟨rfl, hs⟩
      have HS2 := Lib.hid (HS.out.trans hs)
      clear hs HC HS
      simp only at HS2 ⊢
      have hn : n < 1 := HN.out
      rcases hsum with ⟨hcode, rfl⟩ | ⟨hcode, hc0, hc1, _, _⟩
      · have E := Lib.hid (HNX.out.1 hcode)
        have hcb : (s2.code == 0) = false := beq_eq_false_iff_ne.2 hcode
        have k2 := HS2.out.at_.cells.2.2.1
        have k3 := HS2.out.at_.lt
        clear HNX hcode
        go_wp2
        exact HP.out _ _ _ E.out HS2.out
      · obtain ⟨c, rfl⟩ := Int.eq_ofNat_of_zero_le hc0
        obtain ⟨m, hm⟩ : ∃ m, m = c % 128 := ⟨_, rfl⟩
        have hml : m < 128 := by omega
        have hmi : (c : Int) % 128 = (m : Int) := by omega
        have htm : Int.tmod (c : Int) 128 = (m : Int) := by rw [Int.tmod_eq_emod_of_nonneg hc0]; exact hmi
        have k2 : w2.cell? ⟨rb, 2, none⟩ = some (.int .i64 0) := by rw [← hcode]; exact HS2.out.at_.cells.2.2.1
        have k3 := HS2.out.at_.lt
        have HNX2 := Lib.hid (And.intro (HNX.out.2.1 hcode) (And.intro (HNX.out.2.2.1 hcode) (HNX.out.2.2.2 hcode)))
        rw [hmi, show (m : Int) * 128 ^ 0 = (m : Int) by omega] at HNX2
        have HM := Lib.hid hm
        clear HNX hm
        by_cases hlt : (c : Int) < 128
        · have hnb : ¬ (2147483648 : Int) ≤ (n : Int) + (m : Int) := by omega
          have hnb2 : ¬ (2147483647 : Int) < (n : Int) + (m : Int) := by omega
          have E := Lib.hid (HNX2.out.2.1 hlt (fun h => h.elim (fun h => absurd h.1 (by decide)) (fun h => hnb h)))
          clear HNX2 hcode
          go_wp2
          exact HP.out _ _ _ E.out HS2.out
        · have hcast : ((n + m * 1 : Nat) : Int) = (n : Int) + (m : Int) := by omega
          have E := Lib.hid (HNX2.out.2.2 (Int.not_lt.1 hlt))
          clear HNX2
          have HCD := Lib.hid hcode
          go_wp2
          go_roundw
          case rel => exact ⟨1, n + m * 1, s2, by first | rfl | (rw [hcast]) | go_num, by first | rfl | go_num, by first | rfl | go_num, by omega, Lib.hid (by show _ < 128; omega), HS2, Lib.hid ⟨by rw [hcast]; exact E.out.symm, fun _ => HCD.out⟩⟩
          case measure => simp [intOf]
    · obtain ⟨he, _⟩ := HE.out
      have HC := Lib.hid (HO.out s1 wr HS.out.at_)
      have hsum := octR_sum 255 hby s1
      have HNX := Lib.hid (And.intro (fun h => he.symm.trans (numGo_no (start := p) (f := 3) (i := 1) (n := n) (B := B) (s := s1) h)) (And.intro (fun h h1 h2 => he.symm.trans (numGo_bad (start := p) (f := 3) (i := 1) (n := n) (B := B) (s := s1) h h1 h2)) (And.intro (fun h h1 h2 => he.symm.trans (numGo_end (start := p) (f := 3) (i := 1) (n := n) (B := B) (s := s1) h h1 h2)) (fun h h1 => he.symm.trans (numGo_next (start := p) (f := 3) (i := 1) (n := n) (B := B) (s := s1) h h1)))))
      clear he HE
      obtain ⟨r, hr⟩ : ∃ r, r = octR 255 B s1 := ⟨_, rfl⟩
      rw [← hr] at hsum HNX HC
      obtain ⟨c, s2⟩ := r
      simp only at hsum HNX
      clear hr
      go_wp2_with fail
      refine HC.out.mono ?_
      rintro e w2 ⟨rfl, hs⟩
      have HS2 := Lib.hid (HS.out.trans hs)
      clear hs HC HS
      simp only at HS2 ⊢
      have hn : n < 128 := HN.out
      rcases hsum with ⟨hcode, rfl⟩ | ⟨hcode, hc0, hc1, _, _⟩
      · have E := Lib.hid (HNX.out.1 hcode)
        have hcb : (s2.code == 0) = false := beq_eq_false_iff_ne.2 hcode
        have k2 := HS2.out.at_.cells.2.2.1
        have k3 := HS2.out.at_.lt
        clear HNX hcode
        go_wp2
        exact HP.out _ _ _ E.out HS2.out
      · obtain ⟨c, rfl⟩ := Int.eq_ofNat_of_zero_le hc0
        obtain ⟨m, hm⟩ : ∃ m, m = c % 128 := ⟨_, rfl⟩
        have hml : m < 128 := by omega
        have hmi : (c : Int) % 128 = (m : Int) := by omega
        have htm : Int.tmod (c : Int) 128 = (m : Int) := by rw [Int.tmod_eq_emod_of_nonneg hc0]; exact hmi
        have k2 : w2.cell? ⟨rb, 2, none⟩ = some (.int .i64 0) := by rw [← hcode]; exact HS2.out.at_.cells.2.2.1
        have k3 := HS2.out.at_.lt
        have HNX2 := Lib.hid (And.intro (HNX.out.2.1 hcode) (And.intro (HNX.out.2.2.1 hcode) (HNX.out.2.2.2 hcode)))
        rw [hmi, show (m : Int) * 128 ^ 1 = (m : Int) * 128 by omega] at HNX2
        have HM := Lib.hid hm
        clear HNX hm
        by_cases hlt : (c : Int) < 128
        · by_cases hz : (c : Int) = 0
          · have hcz : ((c : Int) == 0) = true := by rw [beq_iff_eq]; exact hz
            have E := Lib.hid (HNX2.out.1 hlt (.inl ⟨by decide, hz⟩))
            rw [failS_yes hcode] at E
            clear HNX2
            have HFF := Lib.hid (HF.out s2 w2 HS2.out.at_)
            have HFF2 := Lib.hid (show Calls _ _ _ _ fun e W' => e = .returned (.tuple #[]) ∧ RdS 93 w0 w2 rb sv B ⟨s2.at_, 100, p⟩ W' by have := HFF.out; rw [failS_yes hcode] at this; exact this)
            clear HFF
            go_wp2_with fail
            refine HFF2.out.mono ?_
            rintro e w3 ⟨rfl, hs⟩
            have HS3 := Lib.hid (HS2.out.trans hs)
            clear hs HFF2 HS2
            clear hcode hz
            go_wp2
            exact HP.out _ _ _ E.out HS3.out
          · have hcz : ((c : Int) == 0) = false := beq_eq_false_iff_ne.2 hz
            have hnb : ¬ (2147483648 : Int) ≤ (n : Int) + (m : Int) * 128 := by omega
            have hb2 : ¬ (2147483647 : Int) < (n : Int) + (m : Int) * 128 := by omega
            have E := Lib.hid (HNX2.out.2.1 hlt (fun h => h.elim (fun h => absurd h.2 hz) (fun h => hnb h)))
            clear HNX2 hcode
            go_wp2
            exact HP.out _ _ _ E.out HS2.out
        · have hcast : ((n + m * 128 : Nat) : Int) = (n : Int) + (m : Int) * 128 := by omega
          have E := Lib.hid (HNX2.out.2.2 (Int.not_lt.1 hlt))
          clear HNX2
          have HCD := Lib.hid hcode
          go_wp2
          go_roundw
          case rel => exact ⟨2, n + m * 128, s2, by first | rfl | (rw [hcast]) | go_num, by first | rfl | go_num, by first | rfl | go_num, by omega, Lib.hid (by show _ < 16384; omega), HS2, Lib.hid ⟨by rw [hcast]; exact E.out.symm, fun _ => HCD.out⟩⟩
          case measure => simp [intOf]
    · obtain ⟨he, _⟩ := HE.out
      have HC := Lib.hid (HO.out s1 wr HS.out.at_)
      have hsum := octR_sum 255 hby s1
      have HNX := Lib.hid (And.intro (fun h => he.symm.trans (numGo_no (start := p) (f := 2) (i := 2) (n := n) (B := B) (s := s1) h)) (And.intro (fun h h1 h2 => he.symm.trans (numGo_bad (start := p) (f := 2) (i := 2) (n := n) (B := B) (s := s1) h h1 h2)) (And.intro (fun h h1 h2 => he.symm.trans (numGo_end (start := p) (f := 2) (i := 2) (n := n) (B := B) (s := s1) h h1 h2)) (fun h h1 => he.symm.trans (numGo_next (start := p) (f := 2) (i := 2) (n := n) (B := B) (s := s1) h h1)))))
      clear he HE
      obtain ⟨r, hr⟩ : ∃ r, r = octR 255 B s1 := ⟨_, rfl⟩
      rw [← hr] at hsum HNX HC
      obtain ⟨c, s2⟩ := r
      simp only at hsum HNX
      clear hr
      go_wp2_with fail
      refine HC.out.mono ?_
      rintro e w2 ⟨rfl, hs⟩
      have HS2 := Lib.hid (HS.out.trans hs)
      clear hs HC HS
      simp only at HS2 ⊢
      have hn : n < 16384 := HN.out
      rcases hsum with ⟨hcode, rfl⟩ | ⟨hcode, hc0, hc1, _, _⟩
      · have E := Lib.hid (HNX.out.1 hcode)
        have hcb : (s2.code == 0) = false := beq_eq_false_iff_ne.2 hcode
        have k2 := HS2.out.at_.cells.2.2.1
        have k3 := HS2.out.at_.lt
        clear HNX hcode
        go_wp2
        exact HP.out _ _ _ E.out HS2.out
      · obtain ⟨c, rfl⟩ := Int.eq_ofNat_of_zero_le hc0
        obtain ⟨m, hm⟩ : ∃ m, m = c % 128 := ⟨_, rfl⟩
        have hml : m < 128 := by omega
        have hmi : (c : Int) % 128 = (m : Int) := by omega
        have htm : Int.tmod (c : Int) 128 = (m : Int) := by rw [Int.tmod_eq_emod_of_nonneg hc0]; exact hmi
        have k2 : w2.cell? ⟨rb, 2, none⟩ = some (.int .i64 0) := by rw [← hcode]; exact HS2.out.at_.cells.2.2.1
        have k3 := HS2.out.at_.lt
        have HNX2 := Lib.hid (And.intro (HNX.out.2.1 hcode) (And.intro (HNX.out.2.2.1 hcode) (HNX.out.2.2.2 hcode)))
        rw [hmi, show (m : Int) * 128 ^ 2 = (m : Int) * 16384 by omega] at HNX2
        have HM := Lib.hid hm
        clear HNX hm
        by_cases hlt : (c : Int) < 128
        · by_cases hz : (c : Int) = 0
          · have hcz : ((c : Int) == 0) = true := by rw [beq_iff_eq]; exact hz
            have E := Lib.hid (HNX2.out.1 hlt (.inl ⟨by decide, hz⟩))
            rw [failS_yes hcode] at E
            clear HNX2
            have HFF := Lib.hid (HF.out s2 w2 HS2.out.at_)
            have HFF2 := Lib.hid (show Calls _ _ _ _ fun e W' => e = .returned (.tuple #[]) ∧ RdS 93 w0 w2 rb sv B ⟨s2.at_, 100, p⟩ W' by have := HFF.out; rw [failS_yes hcode] at this; exact this)
            clear HFF
            go_wp2_with fail
            refine HFF2.out.mono ?_
            rintro e w3 ⟨rfl, hs⟩
            have HS3 := Lib.hid (HS2.out.trans hs)
            clear hs HFF2 HS2
            clear hcode hz
            go_wp2
            exact HP.out _ _ _ E.out HS3.out
          · have hcz : ((c : Int) == 0) = false := beq_eq_false_iff_ne.2 hz
            have hnb : ¬ (2147483648 : Int) ≤ (n : Int) + (m : Int) * 16384 := by omega
            have hb2 : ¬ (2147483647 : Int) < (n : Int) + (m : Int) * 16384 := by omega
            have E := Lib.hid (HNX2.out.2.1 hlt (fun h => h.elim (fun h => absurd h.2 hz) (fun h => hnb h)))
            clear HNX2 hcode
            go_wp2
            exact HP.out _ _ _ E.out HS2.out
        · have hcast : ((n + m * 16384 : Nat) : Int) = (n : Int) + (m : Int) * 16384 := by omega
          have E := Lib.hid (HNX2.out.2.2 (Int.not_lt.1 hlt))
          clear HNX2
          have HCD := Lib.hid hcode
          go_wp2
          go_roundw
          case rel => exact ⟨3, n + m * 16384, s2, by first | rfl | (rw [hcast]) | go_num, by first | rfl | go_num, by first | rfl | go_num, by omega, Lib.hid (by show _ < 2097152; omega), HS2, Lib.hid ⟨by rw [hcast]; exact E.out.symm, fun _ => HCD.out⟩⟩
          case measure => simp [intOf]
    · obtain ⟨he, _⟩ := HE.out
      have HC := Lib.hid (HO.out s1 wr HS.out.at_)
      have hsum := octR_sum 255 hby s1
      have HNX := Lib.hid (And.intro (fun h => he.symm.trans (numGo_no (start := p) (f := 1) (i := 3) (n := n) (B := B) (s := s1) h)) (And.intro (fun h h1 h2 => he.symm.trans (numGo_bad (start := p) (f := 1) (i := 3) (n := n) (B := B) (s := s1) h h1 h2)) (And.intro (fun h h1 h2 => he.symm.trans (numGo_end (start := p) (f := 1) (i := 3) (n := n) (B := B) (s := s1) h h1 h2)) (fun h h1 => he.symm.trans (numGo_next (start := p) (f := 1) (i := 3) (n := n) (B := B) (s := s1) h h1)))))
      clear he HE
      obtain ⟨r, hr⟩ : ∃ r, r = octR 255 B s1 := ⟨_, rfl⟩
      rw [← hr] at hsum HNX HC
      obtain ⟨c, s2⟩ := r
      simp only at hsum HNX
      clear hr
      go_wp2_with fail
      refine HC.out.mono ?_
      rintro e w2 ⟨rfl, hs⟩
      have HS2 := Lib.hid (HS.out.trans hs)
      clear hs HC HS
      simp only at HS2 ⊢
      have hn : n < 2097152 := HN.out
      rcases hsum with ⟨hcode, rfl⟩ | ⟨hcode, hc0, hc1, _, _⟩
      · have E := Lib.hid (HNX.out.1 hcode)
        have hcb : (s2.code == 0) = false := beq_eq_false_iff_ne.2 hcode
        have k2 := HS2.out.at_.cells.2.2.1
        have k3 := HS2.out.at_.lt
        clear HNX hcode
        go_wp2
        exact HP.out _ _ _ E.out HS2.out
      · obtain ⟨c, rfl⟩ := Int.eq_ofNat_of_zero_le hc0
        obtain ⟨m, hm⟩ : ∃ m, m = c % 128 := ⟨_, rfl⟩
        have hml : m < 128 := by omega
        have hmi : (c : Int) % 128 = (m : Int) := by omega
        have htm : Int.tmod (c : Int) 128 = (m : Int) := by rw [Int.tmod_eq_emod_of_nonneg hc0]; exact hmi
        have k2 : w2.cell? ⟨rb, 2, none⟩ = some (.int .i64 0) := by rw [← hcode]; exact HS2.out.at_.cells.2.2.1
        have k3 := HS2.out.at_.lt
        have HNX2 := Lib.hid (And.intro (HNX.out.2.1 hcode) (And.intro (HNX.out.2.2.1 hcode) (HNX.out.2.2.2 hcode)))
        rw [hmi, show (m : Int) * 128 ^ 3 = (m : Int) * 2097152 by omega] at HNX2
        have HM := Lib.hid hm
        clear HNX hm
        by_cases hlt : (c : Int) < 128
        · by_cases hz : (c : Int) = 0
          · have hcz : ((c : Int) == 0) = true := by rw [beq_iff_eq]; exact hz
            have E := Lib.hid (HNX2.out.1 hlt (.inl ⟨by decide, hz⟩))
            rw [failS_yes hcode] at E
            clear HNX2
            have HFF := Lib.hid (HF.out s2 w2 HS2.out.at_)
            have HFF2 := Lib.hid (show Calls _ _ _ _ fun e W' => e = .returned (.tuple #[]) ∧ RdS 93 w0 w2 rb sv B ⟨s2.at_, 100, p⟩ W' by have := HFF.out; rw [failS_yes hcode] at this; exact this)
            clear HFF
            go_wp2_with fail
            refine HFF2.out.mono ?_
            rintro e w3 ⟨rfl, hs⟩
            have HS3 := Lib.hid (HS2.out.trans hs)
            clear hs HFF2 HS2
            clear hcode hz
            go_wp2
            exact HP.out _ _ _ E.out HS3.out
          · have hcz : ((c : Int) == 0) = false := beq_eq_false_iff_ne.2 hz
            have hnb : ¬ (2147483648 : Int) ≤ (n : Int) + (m : Int) * 2097152 := by omega
            have hb2 : ¬ (2147483647 : Int) < (n : Int) + (m : Int) * 2097152 := by omega
            have E := Lib.hid (HNX2.out.2.1 hlt (fun h => h.elim (fun h => absurd h.2 hz) (fun h => hnb h)))
            clear HNX2 hcode
            go_wp2
            exact HP.out _ _ _ E.out HS2.out
        · have hcast : ((n + m * 2097152 : Nat) : Int) = (n : Int) + (m : Int) * 2097152 := by omega
          have E := Lib.hid (HNX2.out.2.2 (Int.not_lt.1 hlt))
          clear HNX2
          have HCD := Lib.hid hcode
          go_wp2
          go_roundw
          case rel => exact ⟨4, n + m * 2097152, s2, by first | rfl | (rw [hcast]) | go_num, by first | rfl | go_num, by first | rfl | go_num, by omega, Lib.hid (by show _ < 268435456; omega), HS2, Lib.hid ⟨by rw [hcast]; exact E.out.symm, fun _ => HCD.out⟩⟩
          case measure => simp [intOf]
    · obtain ⟨he, _⟩ := HE.out
      have HC := Lib.hid (HO.out s1 wr HS.out.at_)
      have hsum := octR_sum 255 hby s1
      have HNX := Lib.hid (And.intro (fun h => he.symm.trans (numGo_no (start := p) (f := 0) (i := 4) (n := n) (B := B) (s := s1) h)) (And.intro (fun h h1 h2 => he.symm.trans (numGo_bad (start := p) (f := 0) (i := 4) (n := n) (B := B) (s := s1) h h1 h2)) (And.intro (fun h h1 h2 => he.symm.trans (numGo_end (start := p) (f := 0) (i := 4) (n := n) (B := B) (s := s1) h h1 h2)) (fun h h1 => he.symm.trans (numGo_next (start := p) (f := 0) (i := 4) (n := n) (B := B) (s := s1) h h1)))))
      clear he HE
      obtain ⟨r, hr⟩ : ∃ r, r = octR 255 B s1 := ⟨_, rfl⟩
      rw [← hr] at hsum HNX HC
      obtain ⟨c, s2⟩ := r
      simp only at hsum HNX
      clear hr
      go_wp2_with fail
      refine HC.out.mono ?_
      rintro e w2 ⟨rfl, hs⟩
      have HS2 := Lib.hid (HS.out.trans hs)
      clear hs HC HS
      simp only at HS2 ⊢
      have hn : n < 268435456 := HN.out
      rcases hsum with ⟨hcode, rfl⟩ | ⟨hcode, hc0, hc1, _, _⟩
      · have E := Lib.hid (HNX.out.1 hcode)
        have hcb : (s2.code == 0) = false := beq_eq_false_iff_ne.2 hcode
        have k2 := HS2.out.at_.cells.2.2.1
        have k3 := HS2.out.at_.lt
        clear HNX hcode
        go_wp2
        exact HP.out _ _ _ E.out HS2.out
      · obtain ⟨c, rfl⟩ := Int.eq_ofNat_of_zero_le hc0
        obtain ⟨m, hm⟩ : ∃ m, m = c % 128 := ⟨_, rfl⟩
        have hml : m < 128 := by omega
        have hmi : (c : Int) % 128 = (m : Int) := by omega
        have htm : Int.tmod (c : Int) 128 = (m : Int) := by rw [Int.tmod_eq_emod_of_nonneg hc0]; exact hmi
        have k2 : w2.cell? ⟨rb, 2, none⟩ = some (.int .i64 0) := by rw [← hcode]; exact HS2.out.at_.cells.2.2.1
        have k3 := HS2.out.at_.lt
        have HNX2 := Lib.hid (And.intro (HNX.out.2.1 hcode) (And.intro (HNX.out.2.2.1 hcode) (HNX.out.2.2.2 hcode)))
        rw [hmi, show (m : Int) * 128 ^ 4 = (m : Int) * 268435456 by omega] at HNX2
        have HM := Lib.hid hm
        clear HNX hm
        by_cases hlt : (c : Int) < 128
        · by_cases hz : (c : Int) = 0
          · have hcz : ((c : Int) == 0) = true := by rw [beq_iff_eq]; exact hz
            have E := Lib.hid (HNX2.out.1 hlt (.inl ⟨by decide, hz⟩))
            rw [failS_yes hcode] at E
            clear HNX2
            have HFF := Lib.hid (HF.out s2 w2 HS2.out.at_)
            have HFF2 := Lib.hid (show Calls _ _ _ _ fun e W' => e = .returned (.tuple #[]) ∧ RdS 93 w0 w2 rb sv B ⟨s2.at_, 100, p⟩ W' by have := HFF.out; rw [failS_yes hcode] at this; exact this)
            clear HFF
            go_wp2_with fail
            refine HFF2.out.mono ?_
            rintro e w3 ⟨rfl, hs⟩
            have HS3 := Lib.hid (HS2.out.trans hs)
            clear hs HFF2 HS2
            clear hcode hz
            go_wp2
            exact HP.out _ _ _ E.out HS3.out
          · have hcz : ((c : Int) == 0) = false := beq_eq_false_iff_ne.2 hz
            by_cases hbig : (2147483648 : Int) ≤ (n : Int) + (m : Int) * 268435456
            · have E := Lib.hid (HNX2.out.1 hlt (.inr hbig))
              have hb2 : (2147483647 : Int) < (n : Int) + (m : Int) * 268435456 := by omega
              rw [failS_yes hcode] at E
              clear HNX2
              have HFF := Lib.hid (HF.out s2 w2 HS2.out.at_)
              have HFF2 := Lib.hid (show Calls _ _ _ _ fun e W' => e = .returned (.tuple #[]) ∧ RdS 93 w0 w2 rb sv B ⟨s2.at_, 100, p⟩ W' by have := HFF.out; rw [failS_yes hcode] at this; exact this)
              clear HFF
              go_wp2_with fail
              refine HFF2.out.mono ?_
              rintro e w3 ⟨rfl, hs⟩
              have HS3 := Lib.hid (HS2.out.trans hs)
              clear hs HFF2 HS2
              clear hcode hz
              go_wp2
              exact HP.out _ _ _ E.out HS3.out
            · have hb2 : ¬ (2147483647 : Int) < (n : Int) + (m : Int) * 268435456 := by omega
              have E := Lib.hid (HNX2.out.2.1 hlt (fun h => h.elim (fun h => absurd h.2 hz) (fun h => hbig h)))
              clear HNX2 hcode
              go_wp2
              exact HP.out _ _ _ E.out HS2.out
        · have hcast : ((n + m * 268435456 : Nat) : Int) = (n : Int) + (m : Int) * 268435456 := by omega
          have E := Lib.hid (HNX2.out.2.2 (Int.not_lt.1 hlt))
          clear HNX2
          have HCD := Lib.hid hcode
          go_wp2
          go_roundw
          case rel => exact ⟨5, n + m * 268435456, s2, by first | rfl | (rw [hcast]) | go_num, by first | rfl | go_num, by first | rfl | go_num, by omega, Lib.hid (by show _ < 34359738368; omega), HS2, Lib.hid ⟨by rw [hcast]; exact E.out.symm, fun _ => HCD.out⟩⟩
          case measure => simp [intOf]
    · obtain ⟨he, hcode⟩ := HE.out
      have hcode := hcode rfl
      have E := Lib.hid (show res = (0, failS 100 p s1) from he.symm)
      rw [failS_yes hcode] at E
      have HFF := Lib.hid (show Calls _ _ _ _ fun e W' => e = .returned (.tuple #[]) ∧ RdS 93 w0 wr rb sv B ⟨s1.at_, 100, p⟩ W' by have := HF.out s1 wr HS.out.at_; rw [failS_yes hcode] at this; exact this)
      clear HE he hcode
      go_wp2_with fail
      refine HFF.out.mono ?_
      rintro e w3 ⟨rfl, hs⟩
      have HS3 := Lib.hid (HS.out.trans hs)
      clear hs HFF HS
      go_wp2
      exact HP.out 0 _ _ E.out HS3.out
end Go.Proofs.Ytcihihncgpddfaa
namespace Go.Proofs.Ytcihihncgpddfaa
open Go.RowKit Go.Deep
set_option linter.unusedVariables false
set_option linter.unusedSimpArgs false

theorem numGo_facts (start : Nat) {B : List Int} (hB : Byte8 B) : ∀ (f i : Nat) (n : Int) (s : Rs), 0 ≤ n → ((numGo start f i n B s).2.code ≠ 0 ∧ (numGo start f i n B s).1 = 0) ∨ ((numGo start f i n B s).2.code = 0 ∧ 0 ≤ (numGo start f i n B s).1 ∧ (numGo start f i n B s).1 < 2147483648 ∧ 0 < B.length)
  | 0, i, n, s, _ => by
    left
    show (failS 100 start s).code ≠ 0 ∧ (0 : Int) = 0
    refine ⟨?_, rfl⟩
    by_cases h : s.code = 0
    · rw [failS_yes h]; simp
    · rw [failS_no h]; exact h
  | f + 1, i, n, s, hn => by
    have hs := octR_sum 255 hB s
    by_cases hc : (octR 255 B s).2.code = 0
    · obtain ⟨_, h0, h1, _, hz⟩ := hs.resolve_left (fun h => h.1 hc)
      have hlen : 0 < B.length := by
        rcases Nat.eq_zero_or_pos B.length with h | h
        · exfalso
          rw [octR_end hz (by omega)] at hc
          exact absurd hc (by simp)
        · exact h
      by_cases hl : (octR 255 B s).1 < 128
      · by_cases hb : (0 < i ∧ (octR 255 B s).1 = 0) ∨ 2147483648 ≤ n + (octR 255 B s).1 % 128 * 128 ^ i
        · left; rw [numGo_bad hc hl hb, failS_yes hc]; simp
        · right
          rw [numGo_end hc hl hb]
          have hp : 0 ≤ (octR 255 B s).1 % 128 * 128 ^ i := Int.mul_nonneg (by omega) (Int.pow_nonneg (by omega))
          exact ⟨hc, by simp only; omega, by simp only; omega, hlen⟩
      · rw [numGo_next hc hl]
        have hp : 0 ≤ (octR 255 B s).1 % 128 * 128 ^ i := Int.mul_nonneg (by omega) (Int.pow_nonneg (by omega))
        exact numGo_facts start hB f (i + 1) _ _ (by omega)
    · left; rw [numGo_no hc]; exact ⟨hc, rfl⟩
theorem numR_facts {B : List Int} (hB : Byte8 B) (s : Rs) : ((numR B s).2.code ≠ 0 ∧ (numR B s).1 = 0) ∨ ((numR B s).2.code = 0 ∧ 0 ≤ (numR B s).1 ∧ (numR B s).1 < 2147483648 ∧ 0 < B.length) := numGo_facts s.at_ hB 5 0 0 s (by omega)
theorem numR_range {B : List Int} (hB : Byte8 B) (s : Rs) : 0 ≤ (numR B s).1 ∧ (numR B s).1 < 2147483648 := by
  rcases numR_facts hB s with ⟨_, h⟩ | ⟨_, h, h', _⟩
  · rw [h]; exact ⟨by omega, by omega⟩
  · exact ⟨h, h'⟩
theorem sgnR_eq (B : List Int) (s : Rs) : sgnR B s = (unS (numR B s).1, (numR B s).2) := rfl
theorem xor_pos {n : Int} (h : 0 ≤ n) (h' : n ≤ 4611686018427387904) : bits BinOp.xor IntKind.i64 (-1) n = -n - 1 := by
  show IntKind.i64.wrap ((BitVec.ofInt 64 (-1) ^^^ BitVec.ofInt 64 n).toNat : Int) = _
  have h1 : (BitVec.ofInt 64 (-1)).toNat = 2 ^ 64 - 1 := by decide
  have h2 : (BitVec.ofInt 64 n).toNat = n.toNat := by
    rw [BitVec.toNat_ofInt]
    omega
  rw [BitVec.toNat_xor, h1, h2, Lib.xor_ones64 _ (by omega), IntKind.wrap_i64]
  omega
theorem and_one_ {n : Int} (h : 0 ≤ n) (h' : n < 2147483648) : bits BinOp.and IntKind.i64 n 1 = n % 2 := by
  show IntKind.i64.wrap ((BitVec.ofInt 64 n &&& BitVec.ofInt 64 1).toNat : Int) = _
  have h1 : (BitVec.ofInt 64 1).toNat = 1 := by decide
  have h2 : (BitVec.ofInt 64 n).toNat = n.toNat := by
    rw [BitVec.toNat_ofInt]
    omega
  rw [BitVec.toNat_and, h1, h2, Nat.and_one_is_mod, IntKind.wrap_i64]
  omega
/-- what a text's reading tells -/
theorem txtR_no {B : List Int} {s : Rs} (h : (numR B s).2.code ≠ 0) : txtR B s = (ByteArray.empty, (numR B s).2) := by unfold txtR; rw [if_pos h]
theorem txtR_big {B : List Int} {s : Rs} (h0 : (numR B s).2.code = 0) (h : (B.length : Int) - (numR B s).2.at_ < (numR B s).1) : txtR B s = (ByteArray.empty, ⟨(numR B s).2.at_, 6, B.length⟩) := by unfold txtR; rw [if_neg (by rw [h0]; simp), if_pos h]
theorem txtR_ok {B : List Int} {s : Rs} (h0 : (numR B s).2.code = 0) (h : ¬ (B.length : Int) - (numR B s).2.at_ < (numR B s).1) : txtR B s = (strOf ((B.drop (numR B s).2.at_).take (numR B s).1.toNat), ⟨(numR B s).2.at_ + (numR B s).1.toNat, 0, (numR B s).2.bad⟩) := by unfold txtR; rw [if_neg (by rw [h0]; simp), if_neg h]
/-- a value, and what the reader is then -/
def RdVal (ty : TypeId) (w0 W : World) (rb : Nat) (sv : Value) (B : List Int) (v : Value) (s : Rs) (e : Ending) (W' : World) : Prop := e = .returned v ∧ RdS ty w0 W rb sv B s W'
section
variable {ty : TypeId} {w0 W W1 W2 : World} {rb : Nat} {sv : Value} {B : List Int} {s s1 s2 : Rs}
/-- blocks of the call's own have been written -/
theorem RdS.more (h : RdS ty w0 W rb sv B s W1) (hr : rb < W.heap.size) (h0 : w0.heap.size ≤ W.heap.size) (hb : Below W.heap.size W1 W2) : RdS ty w0 W rb sv B s W2 := by
  have z := h.sz
  have z2 := hb.size
  exact ⟨⟨(hb.block _ hr).trans h.at_.blk, h.at_.zb, h.at_.be.trans (hb.mono h0), h.at_.src, h.at_.at_, h.at_.len, h.at_.byte⟩, by omega, fun b h1 h2 => (hb.block b h1).trans (h.fr b h1 h2)⟩
theorem BytesAt.piece {w : World} {p : Option Addr} {c : Nat} (h : BytesAt w (.slice p B.length c) B) (hpos : 0 < B.length) (a n : Nat) (ha : a + n ≤ B.length) : ∃ b off, p = some ⟨b, off, none⟩ ∧ b < w.heap.size ∧ ((B.drop a).take n).length = n ∧ ∀ i, i < n → w.cell? ⟨b, off + a + i, none⟩ = some (.int .u8 (((B.drop a).take n).getD i 0)) := by
  obtain ⟨p', c', e, _, _, h4⟩ := h
  injection e with e1 _ _
  subst e1
  obtain ⟨b, off, rfl, hz, hc⟩ := h4 hpos
  refine ⟨b, off, rfl, hz, by rw [List.length_take, List.length_drop]; omega, fun i hi => ?_⟩
  rw [Nat.add_assoc, hc (a + i) (by omega)]
  rw [List.getD_eq_getElem?_getD, List.getD_eq_getElem?_getD, List.getElem?_take, if_pos hi, List.getElem?_drop]
end
end Go.Proofs.Ytcihihncgpddfaa
namespace Go.Proofs.Ytcihihncgpddfaa
open Go.RowKit Go.Deep
set_option linter.unusedVariables false
set_option linter.unusedSimpArgs false

set_option maxRecDepth 100000 in
set_option maxHeartbeats 8000000 in
theorem rd_signed (w0 W : World) (rb : Nat) (sv : Value) (B : List Int) (s : Rs) (h : RdAt 100 w0 W rb sv B s) : Calls Try.prog 105 #[.pointer (some ⟨rb, 0, none⟩)] W (RdPost 100 w0 W rb sv B (sgnR B s)) := by
  have HC := Lib.hid (rd_number w0 W rb sv B s h)
  have hr := numR_range h.byte s
  have E := Lib.hid (sgnR_eq B s)
  clear h
  obtain ⟨r, hrr⟩ : ∃ r, r = numR B s := ⟨_, rfl⟩
  rw [← hrr] at HC hr E
  clear hrr
  obtain ⟨n, s1⟩ := r
  simp only at hr E
  obtain ⟨hr0, hr1⟩ := hr
  have hsh : (n : Int) / 2 = n / 2 := rfl
  have han : bits BinOp.and IntKind.i64 n 1 = n % 2 := and_one_ hr0 hr1
  have hxo : bits BinOp.xor IntKind.i64 (-1) (n / 2) = -(n / 2) - 1 := xor_pos (by omega) (by omega)
  by_cases hm : n % 2 = 1
  · have hmb : (n % 2 == 1) = true := by rw [beq_iff_eq]; exact hm
    have E2 := Lib.hid (show sgnR B s = (-(n / 2) - 1, s1) by rw [E.out]; unfold unS; rw [if_pos hm])
    clear E
    go_enter Try.func105, Try.ntmps105
    go_wp2_with fail
    refine HC.out.mono ?_
    rintro e w1 ⟨rfl, hs⟩
    have HS := Lib.hid hs
    clear hs HC
    go_wp2
    refine bodyPost_ret (v := .int .i64 (-(n / 2) - 1)) (by first | (simp [results, Try.results105, go_sem]; done) | (simp [results, Try.results105, go_sem]; rfl)) rfl ?_
    exact rd_mk E2.out HS.out
  · have hmb : (n % 2 == 1) = false := beq_eq_false_iff_ne.2 hm
    have E2 := Lib.hid (show sgnR B s = (n / 2, s1) by rw [E.out]; unfold unS; rw [if_neg hm])
    clear E
    go_enter Try.func105, Try.ntmps105
    go_wp2_with fail
    refine HC.out.mono ?_
    rintro e w1 ⟨rfl, hs⟩
    have HS := Lib.hid hs
    clear hs HC
    go_wp2
    refine bodyPost_ret (v := .int .i64 (n / 2)) (by first | (simp [results, Try.results105, go_sem]; done) | (simp [results, Try.results105, go_sem]; rfl)) rfl ?_
    exact rd_mk E2.out HS.out
set_option maxRecDepth 100000 in
set_option maxHeartbeats 8000000 in
theorem rd_text (w0 W : World) (rb : Nat) (sv : Value) (B : List Int) (s : Rs) (h : RdAt 100 w0 W rb sv B s) : Calls Try.prog 79 #[.pointer (some ⟨rb, 0, none⟩)] W (RdVal 100 w0 W rb sv B (.string (txtR B s).1) (txtR B s).2) := by
  have HC := Lib.hid (rd_number w0 W rb sv B s h)
  have hf := numR_facts h.byte s
  have hlen := h.len
  have hbe := h.be
  have T1 := Lib.hid (txtR_no (B := B) (s := s))
  have T2 := Lib.hid (txtR_big (B := B) (s := s))
  have T3 := Lib.hid (txtR_ok (B := B) (s := s))
  obtain ⟨pv, cv, rfl, hcv1, hcv2, -⟩ := h.src
  have HB := Lib.hid h.src
  clear h
  obtain ⟨r, hrr⟩ : ∃ r, r = numR B s := ⟨_, rfl⟩
  rw [← hrr] at HC hf T1 T2 T3
  clear hrr
  obtain ⟨n, s1⟩ := r
  obtain ⟨a, cd, bd⟩ := s1
  simp only at hf T1 T2 T3
  rcases hf with ⟨hcode, rfl⟩ | ⟨rfl, hr0, hr1, hpos⟩
  · have E := Lib.hid (T1.out hcode)
    have hcb : (cd == 0) = false := beq_eq_false_iff_ne.2 hcode
    clear T1 T2 T3
    go_enter Try.func79, Try.ntmps79
    go_wp2_with fail
    refine HC.out.mono ?_
    rintro e w1 ⟨rfl, hs⟩
    have HS := Lib.hid hs
    have ha : a ≤ B.length := hs.at_.at_
    have hneg : ¬ (B.length : Int) - (a : Int) < 0 := by omega
    have k0 := HS.out.at_.cells.1
    have k1 : w1.cell? ⟨rb, 1, none⟩ = some (.int .i64 a) := HS.out.at_.cells.2.1
    have k2 : w1.cell? ⟨rb, 2, none⟩ = some (.int .i64 cd) := HS.out.at_.cells.2.2.1
    have k3 := HS.out.at_.lt
    have g1 := HS.out.at_.free 1
    clear hs HC hcode
    go_upto_region 2 with (fail)
    go_quiet (fail)
    go_wp2
    refine bodyPost_ret (v := .string ByteArray.empty) (by first | (simp [results, Try.results79, go_sem]; done) | (simp [results, Try.results79, go_sem]; rfl)) rfl ?_
    rw [E.out]
    exact ⟨rfl, HS.out.trans (RdS.quiet HS.out.at_ (by first | exact Below.refl _ _ | exact below_drewN (Below.refl _ _) _ | exact below_drewN (below_drewN (Below.refl _ _) _) _))⟩
  · obtain ⟨n, rfl⟩ := Int.eq_ofNat_of_zero_le hr0
    by_cases hbig : (B.length : Int) - (a : Int) < (n : Int)
    · have E := Lib.hid (T2.out rfl hbig)
      clear T1 T2 T3
      go_enter Try.func79, Try.ntmps79
      go_wp2_with fail
      refine HC.out.mono ?_
      rintro e w1 ⟨rfl, hs⟩
      have HS := Lib.hid hs
      have ha : a ≤ B.length := hs.at_.at_
      have HF := Lib.hid (fun W1 (hb : Below w1.heap.size w1 W1) => rd_fail w0 W1 rb _ B _ 6 B.length (hs.at_.later hb))
      have k0 := HS.out.at_.cells.1
      have k1 : w1.cell? ⟨rb, 1, none⟩ = some (.int .i64 a) := HS.out.at_.cells.2.1
      have k2 : w1.cell? ⟨rb, 2, none⟩ = some (.int .i64 0) := HS.out.at_.cells.2.2.1
      have k3 := HS.out.at_.lt
      have g1 := HS.out.at_.free 1
      clear hs HC
      go_upto_region 2 with (fail)
      go_quiet (fail)
      go_wp2_with fail
      refine (HF.out _ (by first | exact Below.refl _ _ | exact below_drewN (Below.refl _ _) _ | exact below_drewN (below_drewN (Below.refl _ _) _) _)).mono ?_
      rintro e w2 ⟨rfl, hs⟩
      rw [failS_yes rfl] at hs
      have HS2 := Lib.hid (HS.out.trans (hs.from (W := w1) (by first | exact Below.refl _ _ | exact below_drewN (Below.refl _ _) _ | exact below_drewN (below_drewN (Below.refl _ _) _) _)))
      have j2 : w2.cell? ⟨rb, 2, none⟩ = some (.int .i64 6) := HS2.out.at_.cells.2.2.1
      have j3 := HS2.out.at_.lt
      clear hs HF k0 k1 k2 k3 g1 HS
      go_wp2
      refine bodyPost_ret (v := .string ByteArray.empty) (by first | (simp [results, Try.results79, go_sem]; done) | (simp [results, Try.results79, go_sem]; rfl)) rfl ?_
      rw [E.out]
      exact ⟨rfl, HS2.out⟩
    · have E := Lib.hid (T3.out rfl hbig)
      clear T1 T2 T3
      rw [Int.toNat_natCast] at E
      go_enter Try.func79, Try.ntmps79
      go_wp2_with fail
      refine HC.out.mono ?_
      rintro e w1 ⟨rfl, hs⟩
      have HS := Lib.hid hs
      have ha : a ≤ B.length := hs.at_.at_
      obtain ⟨b, off, rfl, hb, hpl, hpc⟩ := HB.out.piece hpos a n (by omega)
      have HSET := Lib.hid (fun W1 (hb : Below w1.heap.size w1 W1) => hs.at_.set1 (s1 := ⟨a + n, 0, bd⟩) hb 1 (.int .i64 ((a + n : Nat) : Int)) rfl (by simp only; omega))
      have hpp : ((a + n : Nat) : Int) = (a : Int) + (n : Int) := by omega
      rw [hpp] at HSET
      have k0 := HS.out.at_.cells.1
      have k1 : w1.cell? ⟨rb, 1, none⟩ = some (.int .i64 a) := HS.out.at_.cells.2.1
      have k2 : w1.cell? ⟨rb, 2, none⟩ = some (.int .i64 0) := HS.out.at_.cells.2.2.1
      have k3 := HS.out.at_.lt
      have g1 := HS.out.at_.free 1
      have hnb : b ≠ rb := fun e => by have := hs.at_.zb; omega
      have HCV := Lib.hid (fun (w' : World) (hc : ∀ i, i < n → w'.cell? ⟨b, off + a + i, none⟩ = some (.int .u8 (((B.drop a).take n).getD i 0))) => run_convert_bytes_arg (P := Try.prog) w' 36 5 Try.underlying36 Try.underlying5 b (off + a) n (cv - a) ((B.drop a).take n) hpl hc 9 Try.underlying9)
      have HPC := Lib.hid (fun (w' : World) (hb' : Below w0.heap.size w0 w') i (hi : i < n) => ((bcell hb').1 _ _ hb).trans (hpc i hi))
      have hsb : (a : Int) + (n : Int) - (n : Int) = (a : Int) := by omega
      have hnle : n ≤ 1048576 := by omega
      clear hs HC hpc hr0 hr1
      go_upto_region 2 with (fail)
      go_quiet (fail)
      go_upto_region 7 with (fail)
      obtain ⟨w5, hw5⟩ : ∃ x, x = (w1.drewN nq).setCell ⟨rb, 1, none⟩ (.int .i64 ((a : Int) + (n : Int))) := ⟨_, rfl⟩
      have HS5 := Lib.hid (show RdS 100 w0 w1 rb _ B ⟨a + n, 0, bd⟩ w5 by rw [hw5]; exact HSET.out _ (by first | exact Below.refl _ _ | exact below_drewN (Below.refl _ _) _ | exact below_drewN (below_drewN (Below.refl _ _) _) _))
      rw [← hw5]
      clear hw5 HSET k0 k1 k2 k3 g1
      have k0 := HS5.out.at_.cells.1
      have k1 : w5.cell? ⟨rb, 1, none⟩ = some (.int .i64 ((a : Int) + (n : Int))) := by rw [← hpp]; exact HS5.out.at_.cells.2.1
      have k3 := HS5.out.at_.lt
      go_still_tail 14, (by decide +kernel)
      change wpList _ _ _ _ _ w5.drew
      have BD6 := Lib.hid (Below.drew (Below.refl w5.heap.size w5))
      generalize w5.drew = w6 at *
      have HS6 := Lib.hid (HS5.out.trans (RdS.quiet HS5.out.at_ BD6.out))
      have hconv := HCV.out w6 (HPC.out w6 HS6.out.at_.be)
      by_cases hca : cv = a
      · obtain rfl : n = 0 := by omega
        have hconv0 := run_convert_bytes_arg (P := Try.prog) w6 36 5 Try.underlying36 Try.underlying5 b off 0 0 [] rfl (fun i hi => absurd hi (by omega)) 9 Try.underlying9
        clear hconv
        go_wp2
        refine bodyPost_ret (v := .string ByteArray.empty) (by first | (simp [results, Try.results79, go_sem]; done) | (simp [results, Try.results79, go_sem]; rfl)) rfl ?_
        rw [E.out]
        exact ⟨rfl, HS.out.trans HS6.out⟩
      · go_wp2
        refine bodyPost_ret (v := .string (strOfNums (List.take n (List.drop a B)))) (by first | (simp [results, Try.results79, go_sem]; done) | (simp [results, Try.results79, go_sem]; rfl)) rfl ?_
        rw [E.out]
        exact ⟨rfl, HS.out.trans HS6.out⟩
set_option maxRecDepth 100000 in
set_option maxHeartbeats 8000000 in
theorem rd_item (w0 W : World) (rb : Nat) (sv : Value) (B : List Int) (s : Rs) (h : RdAt 100 w0 W rb sv B s) : Calls Try.prog 89 #[.pointer (some ⟨rb, 0, none⟩)] W (RdVal 100 w0 W rb sv B (.agg (itV (itR B s).1).toArray) (itR B s).2) := by
  have hlt := h.lt
  have hz0 : w0.heap.size ≤ W.heap.size := by have := h.zb; omega
  have hby := h.byte
  have HN := Lib.hid (fun (W1 : World) (s1 : Rs) (h1 : RdAt 100 w0 W1 rb sv B s1) => rd_number w0 W1 rb sv B s1 h1)
  obtain ⟨k, hk⟩ : ∃ k, k = octR 127 B s := ⟨_, rfl⟩
  obtain ⟨n1, hn1⟩ : ∃ y, y = numR B k.2 := ⟨_, rfl⟩
  obtain ⟨n2, hn2⟩ : ∃ y, y = numR B n1.2 := ⟨_, rfl⟩
  obtain ⟨n3, hn3⟩ : ∃ y, y = numR B n2.2 := ⟨_, rfl⟩
  obtain ⟨n4, hn4⟩ : ∃ y, y = numR B n3.2 := ⟨_, rfl⟩
  have E := Lib.hid (show itR B s = (⟨k.1, n1.1, n2.1, n3.1, n4.1⟩, n4.2) by rw [hn4, hn3, hn2, hn1, hk]; rfl)
  have hkr : 0 ≤ k.1 ∧ k.1 ≤ 127 := by
    rw [hk]
    rcases octR_sum 127 hby s with ⟨_, h⟩ | ⟨_, h1, _, h2, _⟩
    · rw [h]; exact ⟨by omega, by omega⟩
    · exact ⟨h1, h2⟩
  have H1 := Lib.hid hn1
  have H2 := Lib.hid hn2
  have H3 := Lib.hid hn3
  have H4 := Lib.hid hn4
  have HK := Lib.hid hk
  obtain ⟨kv, s1⟩ := k
  obtain ⟨v1, s2⟩ := n1
  obtain ⟨v2, s3⟩ := n2
  obtain ⟨v3, s4⟩ := n3
  obtain ⟨v4, s5⟩ := n4
  simp only at hkr E H1 H2 H3 H4
  obtain ⟨hk0, hk1⟩ := hkr
  clear hk hn1 hn2 hn3 hn4
  rw [E.out]
  have B1 : Below W.heap.size W (W.alloc (.cells #[.int .i8 0, .int .i64 0, .int .i64 0, .int .i64 0, .int .i64 0] 57)) := below_al (Below.refl _ _) _
  have HA := Lib.hid (h.later B1)
  have HC := Lib.hid (rd_octet w0 _ rb sv B s 127 HA.out)
  rw [← HK.out] at HC
  have HH := Lib.hid h
  clear h HA
  go_enter Try.func89, Try.ntmps89
  go_wp2_with fail
  refine HC.out.mono ?_
  clear HC
  have b1 : (W.alloc (.cells #[.int .i8 0, .int .i64 0, .int .i64 0, .int .i64 0, .int .i64 0] 57)).heap[W.heap.size]? = some (.cells #[.int .i8 0, .int .i64 0, .int .i64 0, .int .i64 0, .int .i64 0] 57 (0, 0)) := heap_alloc_new _ _
  rintro e w1 ⟨rfl, hs⟩
  have HS1 := Lib.hid (hs.from (W := W) B1)
  have b1 : w1.heap[W.heap.size]? = some (.cells #[.int .i8 0, .int .i64 0, .int .i64 0, .int .i64 0, .int .i64 0] 57 (0, 0)) := (hs.fr _ (lt_of_block b1) (by omega)).trans b1
  have B1 := Lib.hid b1
  clear hs
  simp only at HS1 ⊢
  have z1 : W.heap.size < w1.heap.size := lt_of_block b1
  clear b1
  obtain ⟨x1, hx1⟩ : ∃ x, x = w1.alloc (.cells #[.int .i8 kv, .int .i64 0, .int .i64 0, .int .i64 0, .int .i64 0] 57) := ⟨_, rfl⟩
  have BX : Below w1.heap.size w1 x1 := by rw [hx1]; exact below_al (Below.refl _ _) _
  have c1 : x1.heap[w1.heap.size]? = some (.cells #[.int .i8 kv, .int .i64 0, .int .i64 0, .int .i64 0, .int .i64 0] 57 (0, 0)) := by rw [hx1]; exact heap_alloc_new _ _
  have X1 := Lib.hid (HS1.out.trans (RdS.quiet HS1.out.at_ BX))
  have D1 := Lib.hid ((BX.block _ z1).trans B1.out)
  have C1 := Lib.hid c1
  obtain ⟨it, hit⟩ : ∃ x, x = w1.heap.size := ⟨_, rfl⟩
  have zit : W.heap.size < it := by omega
  rw [← hit] at C1
  have HX1 := Lib.hid hx1.symm
  have HIT := Lib.hid hit.symm
  clear BX c1 z1 hx1 hit B1 HS1
  have HC := Lib.hid (HN.out x1 s1 X1.out.at_)
  rw [← H1.out] at HC
  go_wp2_with fail
  simp only [HX1.out, HIT.out]
  refine HC.out.mono ?_
  clear HC
  rintro e w2 ⟨rfl, hs⟩
  have Y2 := Lib.hid (X1.out.trans hs)
  have d2 := (hs.fr _ (lt_of_block D1.out) (by omega)).trans D1.out
  have c2 := (hs.fr _ (lt_of_block C1.out) (by omega)).trans C1.out
  clear hs
  simp only at Y2 ⊢
  obtain ⟨x2, hx2⟩ : ∃ x, x = w2.setCell ⟨it, 1, none⟩ (.int .i64 v1) := ⟨_, rfl⟩
  have X2 := Lib.hid (show RdS 100 w0 W rb sv B s2 x2 by rw [hx2]; exact Y2.out.more hlt hz0 ((Below.refl _ _).setCell (p := ⟨it, 1, none⟩) (Nat.le_of_lt zit) _))
  have C2 := Lib.hid (show x2.heap[it]? = some (.cells #[.int .i8 kv, .int .i64 v1, .int .i64 0, .int .i64 0, .int .i64 0] 57 (0, 0)) by rw [hx2]; exact cells_set c2 1 _)
  have D2 := Lib.hid (show x2.heap[W.heap.size]? = some (.cells #[.int .i8 0, .int .i64 0, .int .i64 0, .int .i64 0, .int .i64 0] 57 (0, 0)) by rw [hx2, blk_setCell_other _ _ _ _ (by simp; omega)]; exact d2)
  have q2 : w2.cell? ⟨it, 1, none⟩ = some (.int .i64 0) := by rw [cell_of_row _ _ _ _ _ _ c2]; rfl
  have f2 : w2.frozen? ⟨it, 1, none⟩ = false := frozen_of_row _ _ _ _ _ c2
  have zz2 := lt_of_block c2
  have HX2 := Lib.hid hx2.symm
  clear hx2 c2 d2 C1 D1 X1 Y2
  have HC := Lib.hid (HN.out x2 s2 X2.out.at_)
  rw [← H2.out] at HC
  go_wp2_with fail
  simp only [HX2.out, HIT.out]
  refine HC.out.mono ?_
  clear HC
  rintro e w3 ⟨rfl, hs⟩
  have Y3 := Lib.hid (X2.out.trans hs)
  have d3 := (hs.fr _ (lt_of_block D2.out) (by omega)).trans D2.out
  have c3 := (hs.fr _ (lt_of_block C2.out) (by omega)).trans C2.out
  clear hs
  simp only at Y3 ⊢
  obtain ⟨x3, hx3⟩ : ∃ x, x = w3.setCell ⟨it, 2, none⟩ (.int .i64 v2) := ⟨_, rfl⟩
  have X3 := Lib.hid (show RdS 100 w0 W rb sv B s3 x3 by rw [hx3]; exact Y3.out.more hlt hz0 ((Below.refl _ _).setCell (p := ⟨it, 2, none⟩) (Nat.le_of_lt zit) _))
  have C3 := Lib.hid (show x3.heap[it]? = some (.cells #[.int .i8 kv, .int .i64 v1, .int .i64 v2, .int .i64 0, .int .i64 0] 57 (0, 0)) by rw [hx3]; exact cells_set c3 2 _)
  have D3 := Lib.hid (show x3.heap[W.heap.size]? = some (.cells #[.int .i8 0, .int .i64 0, .int .i64 0, .int .i64 0, .int .i64 0] 57 (0, 0)) by rw [hx3, blk_setCell_other _ _ _ _ (by simp; omega)]; exact d3)
  have q3 : w3.cell? ⟨it, 2, none⟩ = some (.int .i64 0) := by rw [cell_of_row _ _ _ _ _ _ c3]; rfl
  have f3 : w3.frozen? ⟨it, 2, none⟩ = false := frozen_of_row _ _ _ _ _ c3
  have zz3 := lt_of_block c3
  have HX3 := Lib.hid hx3.symm
  clear hx3 c3 d3 C2 D2 X2 Y3
  have HC := Lib.hid (HN.out x3 s3 X3.out.at_)
  rw [← H3.out] at HC
  go_wp2_with fail
  simp only [HX3.out, HIT.out]
  refine HC.out.mono ?_
  clear HC
  rintro e w4 ⟨rfl, hs⟩
  have Y4 := Lib.hid (X3.out.trans hs)
  have d4 := (hs.fr _ (lt_of_block D3.out) (by omega)).trans D3.out
  have c4 := (hs.fr _ (lt_of_block C3.out) (by omega)).trans C3.out
  clear hs
  simp only at Y4 ⊢
  obtain ⟨x4, hx4⟩ : ∃ x, x = w4.setCell ⟨it, 3, none⟩ (.int .i64 v3) := ⟨_, rfl⟩
  have X4 := Lib.hid (show RdS 100 w0 W rb sv B s4 x4 by rw [hx4]; exact Y4.out.more hlt hz0 ((Below.refl _ _).setCell (p := ⟨it, 3, none⟩) (Nat.le_of_lt zit) _))
  have C4 := Lib.hid (show x4.heap[it]? = some (.cells #[.int .i8 kv, .int .i64 v1, .int .i64 v2, .int .i64 v3, .int .i64 0] 57 (0, 0)) by rw [hx4]; exact cells_set c4 3 _)
  have D4 := Lib.hid (show x4.heap[W.heap.size]? = some (.cells #[.int .i8 0, .int .i64 0, .int .i64 0, .int .i64 0, .int .i64 0] 57 (0, 0)) by rw [hx4, blk_setCell_other _ _ _ _ (by simp; omega)]; exact d4)
  have q4 : w4.cell? ⟨it, 3, none⟩ = some (.int .i64 0) := by rw [cell_of_row _ _ _ _ _ _ c4]; rfl
  have f4 : w4.frozen? ⟨it, 3, none⟩ = false := frozen_of_row _ _ _ _ _ c4
  have zz4 := lt_of_block c4
  have HX4 := Lib.hid hx4.symm
  clear hx4 c4 d4 C3 D3 X3 Y4
  have HC := Lib.hid (HN.out x4 s4 X4.out.at_)
  rw [← H4.out] at HC
  go_wp2_with fail
  simp only [HX4.out, HIT.out]
  refine HC.out.mono ?_
  clear HC
  rintro e w5 ⟨rfl, hs⟩
  have Y5 := Lib.hid (X4.out.trans hs)
  have d5 := (hs.fr _ (lt_of_block D4.out) (by omega)).trans D4.out
  have c5 := (hs.fr _ (lt_of_block C4.out) (by omega)).trans C4.out
  clear hs
  simp only at Y5 ⊢
  obtain ⟨x5, hx5⟩ : ∃ x, x = w5.setCell ⟨it, 4, none⟩ (.int .i64 v4) := ⟨_, rfl⟩
  have X5 := Lib.hid (show RdS 100 w0 W rb sv B s5 x5 by rw [hx5]; exact Y5.out.more hlt hz0 ((Below.refl _ _).setCell (p := ⟨it, 4, none⟩) (Nat.le_of_lt zit) _))
  have C5 := Lib.hid (show x5.heap[it]? = some (.cells #[.int .i8 kv, .int .i64 v1, .int .i64 v2, .int .i64 v3, .int .i64 v4] 57 (0, 0)) by rw [hx5]; exact cells_set c5 4 _)
  have D5 := Lib.hid (show x5.heap[W.heap.size]? = some (.cells #[.int .i8 0, .int .i64 0, .int .i64 0, .int .i64 0, .int .i64 0] 57 (0, 0)) by rw [hx5, blk_setCell_other _ _ _ _ (by simp; omega)]; exact d5)
  have q5 : w5.cell? ⟨it, 4, none⟩ = some (.int .i64 0) := by rw [cell_of_row _ _ _ _ _ _ c5]; rfl
  have f5 : w5.frozen? ⟨it, 4, none⟩ = false := frozen_of_row _ _ _ _ _ c5
  have zz5 := lt_of_block c5
  have HX5 := Lib.hid hx5.symm
  have e0 : w5.cell? ⟨it, 0, none⟩ = some (.int .i8 kv) := by rw [cell_of_row _ _ _ _ _ _ c5]; rfl
  have e1 : w5.cell? ⟨it, 1, none⟩ = some (.int .i64 v1) := by rw [cell_of_row _ _ _ _ _ _ c5]; rfl
  have e2 : w5.cell? ⟨it, 2, none⟩ = some (.int .i64 v2) := by rw [cell_of_row _ _ _ _ _ _ c5]; rfl
  have e3 : w5.cell? ⟨it, 3, none⟩ = some (.int .i64 v3) := by rw [cell_of_row _ _ _ _ _ _ c5]; rfl
  have r0 : w5.cell? ⟨W.heap.size, 0, none⟩ = some (.int .i8 0) := by rw [cell_of_row _ _ _ _ _ _ d5]; rfl
  have t0 : w5.frozen? ⟨W.heap.size, 0, none⟩ = false := frozen_of_row _ _ _ _ _ d5
  have r1 : w5.cell? ⟨W.heap.size, 1, none⟩ = some (.int .i64 0) := by rw [cell_of_row _ _ _ _ _ _ d5]; rfl
  have t1 : w5.frozen? ⟨W.heap.size, 1, none⟩ = false := frozen_of_row _ _ _ _ _ d5
  have r2 : w5.cell? ⟨W.heap.size, 2, none⟩ = some (.int .i64 0) := by rw [cell_of_row _ _ _ _ _ _ d5]; rfl
  have t2 : w5.frozen? ⟨W.heap.size, 2, none⟩ = false := frozen_of_row _ _ _ _ _ d5
  have r3 : w5.cell? ⟨W.heap.size, 3, none⟩ = some (.int .i64 0) := by rw [cell_of_row _ _ _ _ _ _ d5]; rfl
  have t3 : w5.frozen? ⟨W.heap.size, 3, none⟩ = false := frozen_of_row _ _ _ _ _ d5
  have r4 : w5.cell? ⟨W.heap.size, 4, none⟩ = some (.int .i64 0) := by rw [cell_of_row _ _ _ _ _ _ d5]; rfl
  have t4 : w5.frozen? ⟨W.heap.size, 4, none⟩ = false := frozen_of_row _ _ _ _ _ d5
  have zw := lt_of_block d5
  have hne : it ≠ W.heap.size := by omega
  have hne' : W.heap.size ≠ it := by omega
  have HY := Lib.hid Y5.out
  have HF := Lib.hid (fun W2 (hb : Below W.heap.size w5 W2) => Y5.out.more hlt hz0 hb)
  have HZ := Lib.hid zit
  have D5 := Lib.hid d5
  clear hx5 c5 d5 C4 D4 X4 Y5 X5 C5 HX5
  go_wp2
  obtain ⟨x6, hx6⟩ : ∃ x, x = ((((((w5.setCell ⟨it, 4, none⟩ (.int .i64 v4)).setCell ⟨W.heap.size, 0, none⟩ (.int .i8 kv)).setCell ⟨W.heap.size, 1, none⟩ (.int .i64 v1)).setCell ⟨W.heap.size, 2, none⟩ (.int .i64 v2)).setCell ⟨W.heap.size, 3, none⟩ (.int .i64 v3)).setCell ⟨W.heap.size, 4, none⟩ (.int .i64 v4)) := ⟨_, rfl⟩
  have d6 : x6.heap[W.heap.size]? = some (.cells #[.int .i8 kv, .int .i64 v1, .int .i64 v2, .int .i64 v3, .int .i64 v4] 57 (0, 0)) := by rw [hx6]; exact (cells_set (cells_set (cells_set (cells_set (cells_set (show (w5.setCell ⟨it, 4, none⟩ (.int .i64 v4)).heap[W.heap.size]? = some (.cells #[.int .i8 0, .int .i64 0, .int .i64 0, .int .i64 0, .int .i64 0] 57 (0, 0)) by rw [blk_setCell_other _ _ _ _ (by simp; omega)]; exact D5.out) 0 (.int .i8 kv)) 1 (.int .i64 v1)) 2 (.int .i64 v2)) 3 (.int .i64 v3)) 4 (.int .i64 v4))
  have HZ6 := Lib.hid (HF.out x6 (by rw [hx6]; exact ((((((Below.refl W.heap.size w5 |>.setCell (p := ⟨it, 4, none⟩) (Nat.le_of_lt HZ.out) (.int .i64 v4)) |>.setCell (p := ⟨W.heap.size, 0, none⟩) (Nat.le_refl _) (.int .i8 kv)) |>.setCell (p := ⟨W.heap.size, 1, none⟩) (Nat.le_refl _) (.int .i64 v1)) |>.setCell (p := ⟨W.heap.size, 2, none⟩) (Nat.le_refl _) (.int .i64 v2)) |>.setCell (p := ⟨W.heap.size, 3, none⟩) (Nat.le_refl _) (.int .i64 v3)) |>.setCell (p := ⟨W.heap.size, 4, none⟩) (Nat.le_refl _) (.int .i64 v4))))
  rw [← hx6]
  have u0 : x6.cell? ⟨W.heap.size, 0, none⟩ = some (.int .i8 kv) := by rw [cell_of_row _ _ _ _ _ _ d6]; rfl
  have u1 : x6.cell? ⟨W.heap.size, 1, none⟩ = some (.int .i64 v1) := by rw [cell_of_row _ _ _ _ _ _ d6]; rfl
  have u2 : x6.cell? ⟨W.heap.size, 2, none⟩ = some (.int .i64 v2) := by rw [cell_of_row _ _ _ _ _ _ d6]; rfl
  have u3 : x6.cell? ⟨W.heap.size, 3, none⟩ = some (.int .i64 v3) := by rw [cell_of_row _ _ _ _ _ _ d6]; rfl
  have u4 : x6.cell? ⟨W.heap.size, 4, none⟩ = some (.int .i64 v4) := by rw [cell_of_row _ _ _ _ _ _ d6]; rfl
  clear hx6 d6
  refine bodyPost_ret (v := .agg #[.int .i8 kv, .int .i64 v1, .int .i64 v2, .int .i64 v3, .int .i64 v4]) (by simp [results, Try.results89, go_sem, u0, u1, u2, u3, u4]) rfl ?_
  exact ⟨rfl, HZ6.out⟩
end Go.Proofs.Ytcihihncgpddfaa
namespace Go.Proofs.Ytcihihncgpddfaa
open Go.RowKit Go.Deep
set_option linter.unusedVariables false
set_option linter.unusedSimpArgs false

set_option maxRecDepth 100000 in
set_option maxHeartbeats 8000000 in
theorem rr_signed (w0 W : World) (rb : Nat) (sv : Value) (B : List Int) (s : Rs) (h : RdAt 93 w0 W rb sv B s) : Calls Try.prog 108 #[.pointer (some ⟨rb, 0, none⟩)] W (RdPost 93 w0 W rb sv B (sgnR B s)) := by
  have HC := Lib.hid (rr_number w0 W rb sv B s h)
  have hr := numR_range h.byte s
  have E := Lib.hid (sgnR_eq B s)
  clear h
  obtain ⟨r, hrr⟩ : ∃ r, r = numR B s := ⟨_, rfl⟩
  rw [← hrr] at HC hr E
  clear hrr
  obtain ⟨n, s1⟩ := r
  simp only at hr E
  obtain ⟨hr0, hr1⟩ := hr
  have htm : Int.tmod n 2 = n % 2 := Int.tmod_eq_emod_of_nonneg hr0
  have htd : Int.tdiv n 2 = n / 2 := Int.tdiv_eq_ediv_of_nonneg hr0
  by_cases hm : n % 2 = 1
  · have hmb : (n % 2 == 1) = true := by rw [beq_iff_eq]; exact hm
    have htn : Int.tdiv (-(n + 1)) 2 = -(n / 2) - 1 := by rw [Int.neg_tdiv, Int.tdiv_eq_ediv_of_nonneg (by omega)]; omega
    have hab : (-(n + 1)).tdiv 2 = -(n / 2) - 1 := htn
    have E2 := Lib.hid (show sgnR B s = (-(n / 2) - 1, s1) by rw [E.out]; unfold unS; rw [if_pos hm])
    clear E
    go_enter Try.func108, Try.ntmps108
    go_wp2_with fail
    refine HC.out.mono ?_
    rintro e w1 ⟨rfl, hs⟩
    have HS := Lib.hid hs
    clear hs HC
    go_wp2
    refine bodyPost_ret (v := .int .i64 (-(n / 2) - 1)) (by first | (simp [results, Try.results108, go_sem]; done) | (simp [results, Try.results108, go_sem]; rfl)) rfl ?_
    exact rd_mk E2.out HS.out
  · have hmb : (n % 2 == 1) = false := beq_eq_false_iff_ne.2 hm
    have E2 := Lib.hid (show sgnR B s = (n / 2, s1) by rw [E.out]; unfold unS; rw [if_neg hm])
    clear E
    go_enter Try.func108, Try.ntmps108
    go_wp2_with fail
    refine HC.out.mono ?_
    rintro e w1 ⟨rfl, hs⟩
    have HS := Lib.hid hs
    clear hs HC
    go_wp2
    refine bodyPost_ret (v := .int .i64 (n / 2)) (by first | (simp [results, Try.results108, go_sem]; done) | (simp [results, Try.results108, go_sem]; rfl)) rfl ?_
    exact rd_mk E2.out HS.out
set_option maxRecDepth 100000 in
set_option maxHeartbeats 8000000 in
theorem rr_text (w0 W : World) (rb : Nat) (sv : Value) (B : List Int) (s : Rs) (h : RdAt 93 w0 W rb sv B s) : Calls Try.prog 106 #[.pointer (some ⟨rb, 0, none⟩)] W (RdVal 93 w0 W rb sv B (.string (txtR B s).1) (txtR B s).2) := by
  have HC := Lib.hid (rr_number w0 W rb sv B s h)
  have hf := numR_facts h.byte s
  have hlen := h.len
  have hbe := h.be
  have T1 := Lib.hid (txtR_no (B := B) (s := s))
  have T2 := Lib.hid (txtR_big (B := B) (s := s))
  have T3 := Lib.hid (txtR_ok (B := B) (s := s))
  obtain ⟨pv, cv, rfl, hcv1, hcv2, -⟩ := h.src
  have HB := Lib.hid h.src
  clear h
  obtain ⟨r, hrr⟩ : ∃ r, r = numR B s := ⟨_, rfl⟩
  rw [← hrr] at HC hf T1 T2 T3
  clear hrr
  obtain ⟨n, s1⟩ := r
  obtain ⟨a, cd, bd⟩ := s1
  simp only at hf T1 T2 T3
  rcases hf with ⟨hcode, rfl⟩ | ⟨rfl, hr0, hr1, hpos⟩
  · have E := Lib.hid (T1.out hcode)
    have hcb : (cd == 0) = false := beq_eq_false_iff_ne.2 hcode
    clear T1 T2 T3
    go_enter Try.func106, Try.ntmps106
    go_wp2_with fail
    refine HC.out.mono ?_
    rintro e w1 ⟨rfl, hs⟩
    have HS := Lib.hid hs
    have ha : a ≤ B.length := hs.at_.at_
    have hneg : ¬ (B.length : Int) - (a : Int) < 0 := by omega
    have k0 := HS.out.at_.cells.1
    have k1 : w1.cell? ⟨rb, 1, none⟩ = some (.int .i64 a) := HS.out.at_.cells.2.1
    have k2 : w1.cell? ⟨rb, 2, none⟩ = some (.int .i64 cd) := HS.out.at_.cells.2.2.1
    have k3 := HS.out.at_.lt
    have g1 := HS.out.at_.free 1
    clear hs HC hcode
    go_wp2
    refine bodyPost_ret (v := .string ByteArray.empty) (by first | (simp [results, Try.results106, go_sem]; done) | (simp [results, Try.results106, go_sem]; rfl)) rfl ?_
    rw [E.out]
    exact ⟨rfl, HS.out.trans (RdS.quiet HS.out.at_ (by first | exact Below.refl _ _ | exact below_drewN (Below.refl _ _) _ | exact below_drewN (below_drewN (Below.refl _ _) _) _))⟩
  · obtain ⟨n, rfl⟩ := Int.eq_ofNat_of_zero_le hr0
    by_cases hbig : (B.length : Int) - (a : Int) < (n : Int)
    · have E := Lib.hid (T2.out rfl hbig)
      clear T1 T2 T3
      go_enter Try.func106, Try.ntmps106
      go_wp2_with fail
      refine HC.out.mono ?_
      rintro e w1 ⟨rfl, hs⟩
      have HS := Lib.hid hs
      have ha : a ≤ B.length := hs.at_.at_
      have HF := Lib.hid (fun W1 (hb : Below w1.heap.size w1 W1) => rr_fail w0 W1 rb _ B _ 6 B.length (hs.at_.later hb))
      have k0 := HS.out.at_.cells.1
      have k1 : w1.cell? ⟨rb, 1, none⟩ = some (.int .i64 a) := HS.out.at_.cells.2.1
      have k2 : w1.cell? ⟨rb, 2, none⟩ = some (.int .i64 0) := HS.out.at_.cells.2.2.1
      have k3 := HS.out.at_.lt
      have g1 := HS.out.at_.free 1
      clear hs HC
      go_upto_region 4 with (fail)
      go_quiet (fail)
      go_wp2_with fail
      refine (HF.out _ (by first | exact Below.refl _ _ | exact below_drewN (Below.refl _ _) _ | exact below_drewN (below_drewN (Below.refl _ _) _) _)).mono ?_
      rintro e w2 ⟨rfl, hs⟩
      rw [failS_yes rfl] at hs
      have HS2 := Lib.hid (HS.out.trans (hs.from (W := w1) (by first | exact Below.refl _ _ | exact below_drewN (Below.refl _ _) _ | exact below_drewN (below_drewN (Below.refl _ _) _) _)))
      have j2 : w2.cell? ⟨rb, 2, none⟩ = some (.int .i64 6) := HS2.out.at_.cells.2.2.1
      have j3 := HS2.out.at_.lt
      clear hs HF k0 k1 k2 k3 g1 HS
      go_wp2
      refine bodyPost_ret (v := .string ByteArray.empty) (by first | (simp [results, Try.results106, go_sem]; done) | (simp [results, Try.results106, go_sem]; rfl)) rfl ?_
      rw [E.out]
      exact ⟨rfl, HS2.out⟩
    · have E := Lib.hid (T3.out rfl hbig)
      clear T1 T2 T3
      rw [Int.toNat_natCast] at E
      go_enter Try.func106, Try.ntmps106
      go_wp2_with fail
      refine HC.out.mono ?_
      rintro e w1 ⟨rfl, hs⟩
      have HS := Lib.hid hs
      have ha : a ≤ B.length := hs.at_.at_
      obtain ⟨b, off, rfl, hb, hpl, hpc⟩ := HB.out.piece hpos a n (by omega)
      have HSET := Lib.hid (fun W1 (hb : Below w1.heap.size w1 W1) => hs.at_.set1 (s1 := ⟨a + n, 0, bd⟩) hb 1 (.int .i64 ((a + n : Nat) : Int)) rfl (by simp only; omega))
      have hpp : ((a + n : Nat) : Int) = (a : Int) + (n : Int) := by omega
      rw [hpp] at HSET
      have k0 := HS.out.at_.cells.1
      have k1 : w1.cell? ⟨rb, 1, none⟩ = some (.int .i64 a) := HS.out.at_.cells.2.1
      have k2 : w1.cell? ⟨rb, 2, none⟩ = some (.int .i64 0) := HS.out.at_.cells.2.2.1
      have k3 := HS.out.at_.lt
      have g1 := HS.out.at_.free 1
      have hnb : b ≠ rb := fun e => by have := hs.at_.zb; omega
      have HCV := Lib.hid (fun (w' : World) (hc : ∀ i, i < n → w'.cell? ⟨b, off + a + i, none⟩ = some (.int .u8 (((B.drop a).take n).getD i 0))) => run_convert_bytes_arg (P := Try.prog) w' 36 5 Try.underlying36 Try.underlying5 b (off + a) n (cv - a) ((B.drop a).take n) hpl hc 9 Try.underlying9)
      have HPC := Lib.hid (fun (w' : World) (hb' : Below w0.heap.size w0 w') i (hi : i < n) => ((bcell hb').1 _ _ hb).trans (hpc i hi))
      have hsb : (a : Int) + (n : Int) - (n : Int) = (a : Int) := by omega
      have hnle : n ≤ 1048576 := by omega
      clear hs HC hpc hr0 hr1
      go_upto_region 4 with (fail)
      go_quiet (fail)
      go_upto_region 8 with (fail)
      obtain ⟨w5, hw5⟩ : ∃ x, x = (w1.drewN nq).setCell ⟨rb, 1, none⟩ (.int .i64 ((a : Int) + (n : Int))) := ⟨_, rfl⟩
      have HS5 := Lib.hid (show RdS 93 w0 w1 rb _ B ⟨a + n, 0, bd⟩ w5 by rw [hw5]; exact HSET.out _ (by first | exact Below.refl _ _ | exact below_drewN (Below.refl _ _) _ | exact below_drewN (below_drewN (Below.refl _ _) _) _))
      rw [← hw5]
      clear hw5 HSET k0 k1 k2 k3 g1
      have k0 := HS5.out.at_.cells.1
      have k1 : w5.cell? ⟨rb, 1, none⟩ = some (.int .i64 ((a : Int) + (n : Int))) := by rw [← hpp]; exact HS5.out.at_.cells.2.1
      have k3 := HS5.out.at_.lt
      go_still_tail 14, (by decide +kernel)
      change wpList _ _ _ _ _ w5.drew
      have BD6 := Lib.hid (Below.drew (Below.refl w5.heap.size w5))
      generalize w5.drew = w6 at *
      have HS6 := Lib.hid (HS5.out.trans (RdS.quiet HS5.out.at_ BD6.out))
      have hconv := HCV.out w6 (HPC.out w6 HS6.out.at_.be)
      by_cases hca : cv = a
      · obtain rfl : n = 0 := by omega
        have hconv0 := run_convert_bytes_arg (P := Try.prog) w6 36 5 Try.underlying36 Try.underlying5 b off 0 0 [] rfl (fun i hi => absurd hi (by omega)) 9 Try.underlying9
        clear hconv
        go_wp2
        refine bodyPost_ret (v := .string ByteArray.empty) (by first | (simp [results, Try.results106, go_sem]; done) | (simp [results, Try.results106, go_sem]; rfl)) rfl ?_
        rw [E.out]
        exact ⟨rfl, HS.out.trans HS6.out⟩
      · go_wp2
        refine bodyPost_ret (v := .string (strOfNums (List.take n (List.drop a B)))) (by first | (simp [results, Try.results106, go_sem]; done) | (simp [results, Try.results106, go_sem]; rfl)) rfl ?_
        rw [E.out]
        exact ⟨rfl, HS.out.trans HS6.out⟩
set_option maxRecDepth 100000 in
set_option maxHeartbeats 8000000 in
theorem rr_item (w0 W : World) (rb : Nat) (sv : Value) (B : List Int) (s : Rs) (h : RdAt 93 w0 W rb sv B s) : Calls Try.prog 107 #[.pointer (some ⟨rb, 0, none⟩)] W (RdVal 93 w0 W rb sv B (.agg (itV (itR B s).1).toArray) (itR B s).2) := by
  have hlt := h.lt
  have hz0 : w0.heap.size ≤ W.heap.size := by have := h.zb; omega
  have hby := h.byte
  have HN := Lib.hid (fun (W1 : World) (s1 : Rs) (h1 : RdAt 93 w0 W1 rb sv B s1) => rr_number w0 W1 rb sv B s1 h1)
  obtain ⟨k, hk⟩ : ∃ k, k = octR 127 B s := ⟨_, rfl⟩
  obtain ⟨n1, hn1⟩ : ∃ y, y = numR B k.2 := ⟨_, rfl⟩
  obtain ⟨n2, hn2⟩ : ∃ y, y = numR B n1.2 := ⟨_, rfl⟩
  obtain ⟨n3, hn3⟩ : ∃ y, y = numR B n2.2 := ⟨_, rfl⟩
  obtain ⟨n4, hn4⟩ : ∃ y, y = numR B n3.2 := ⟨_, rfl⟩
  have E := Lib.hid (show itR B s = (⟨k.1, n1.1, n2.1, n3.1, n4.1⟩, n4.2) by rw [hn4, hn3, hn2, hn1, hk]; rfl)
  have hkr : 0 ≤ k.1 ∧ k.1 ≤ 127 := by
    rw [hk]
    rcases octR_sum 127 hby s with ⟨_, h⟩ | ⟨_, h1, _, h2, _⟩
    · rw [h]; exact ⟨by omega, by omega⟩
    · exact ⟨h1, h2⟩
  have H1 := Lib.hid hn1
  have H2 := Lib.hid hn2
  have H3 := Lib.hid hn3
  have H4 := Lib.hid hn4
  have HK := Lib.hid hk
  obtain ⟨kv, s1⟩ := k
  obtain ⟨v1, s2⟩ := n1
  obtain ⟨v2, s3⟩ := n2
  obtain ⟨v3, s4⟩ := n3
  obtain ⟨v4, s5⟩ := n4
  simp only at hkr E H1 H2 H3 H4
  obtain ⟨hk0, hk1⟩ := hkr
  clear hk hn1 hn2 hn3 hn4
  rw [E.out]
  have B1 : Below W.heap.size W (W.alloc (.cells #[.int .i8 0, .int .i64 0, .int .i64 0, .int .i64 0, .int .i64 0] 57)) := below_al (Below.refl _ _) _
  have HA := Lib.hid (h.later B1)
  have HC := Lib.hid (rr_octet w0 _ rb sv B s 127 HA.out)
  rw [← HK.out] at HC
  clear h HA
  go_enter Try.func107, Try.ntmps107
  go_wp2_with fail
  refine HC.out.mono ?_
  clear HC
  have b1 : (W.alloc (.cells #[.int .i8 0, .int .i64 0, .int .i64 0, .int .i64 0, .int .i64 0] 57)).heap[W.heap.size]? = some (.cells #[.int .i8 0, .int .i64 0, .int .i64 0, .int .i64 0, .int .i64 0] 57 (0, 0)) := heap_alloc_new _ _
  rintro e w1 ⟨rfl, hs⟩
  have Y1 := Lib.hid (hs.from (W := W) B1)
  have D1 := Lib.hid ((hs.fr _ (lt_of_block b1) (by omega)).trans b1)
  clear hs b1 B1
  simp only at Y1 ⊢
  have HC := Lib.hid (HN.out w1 s1 Y1.out.at_)
  rw [← H1.out] at HC
  go_wp2_with fail
  refine HC.out.mono ?_
  clear HC
  rintro e w2 ⟨rfl, hs⟩
  have Y2 := Lib.hid (Y1.out.trans hs)
  have D2 := Lib.hid ((hs.fr _ (lt_of_block D1.out) (by omega)).trans D1.out)
  clear hs Y1 D1
  simp only at Y2 ⊢
  have HC := Lib.hid (HN.out w2 s2 Y2.out.at_)
  rw [← H2.out] at HC
  go_wp2_with fail
  refine HC.out.mono ?_
  clear HC
  rintro e w3 ⟨rfl, hs⟩
  have Y3 := Lib.hid (Y2.out.trans hs)
  have D3 := Lib.hid ((hs.fr _ (lt_of_block D2.out) (by omega)).trans D2.out)
  clear hs Y2 D2
  simp only at Y3 ⊢
  have HC := Lib.hid (HN.out w3 s3 Y3.out.at_)
  rw [← H3.out] at HC
  go_wp2_with fail
  refine HC.out.mono ?_
  clear HC
  rintro e w4 ⟨rfl, hs⟩
  have Y4 := Lib.hid (Y3.out.trans hs)
  have D4 := Lib.hid ((hs.fr _ (lt_of_block D3.out) (by omega)).trans D3.out)
  clear hs Y3 D3
  simp only at Y4 ⊢
  have HC := Lib.hid (HN.out w4 s4 Y4.out.at_)
  rw [← H4.out] at HC
  go_wp2_with fail
  refine HC.out.mono ?_
  clear HC
  rintro e w5 ⟨rfl, hs⟩
  have Y5 := Lib.hid (Y4.out.trans hs)
  have D5 := Lib.hid ((hs.fr _ (lt_of_block D4.out) (by omega)).trans D4.out)
  clear hs Y4 D4
  simp only at Y5 ⊢
  have d5 := D5.out
  have r0 : w5.cell? ⟨W.heap.size, 0, none⟩ = some (.int .i8 0) := by rw [cell_of_row _ _ _ _ _ _ d5]; rfl
  have t0 : w5.frozen? ⟨W.heap.size, 0, none⟩ = false := frozen_of_row _ _ _ _ _ d5
  have r1 : w5.cell? ⟨W.heap.size, 1, none⟩ = some (.int .i64 0) := by rw [cell_of_row _ _ _ _ _ _ d5]; rfl
  have t1 : w5.frozen? ⟨W.heap.size, 1, none⟩ = false := frozen_of_row _ _ _ _ _ d5
  have r2 : w5.cell? ⟨W.heap.size, 2, none⟩ = some (.int .i64 0) := by rw [cell_of_row _ _ _ _ _ _ d5]; rfl
  have t2 : w5.frozen? ⟨W.heap.size, 2, none⟩ = false := frozen_of_row _ _ _ _ _ d5
  have r3 : w5.cell? ⟨W.heap.size, 3, none⟩ = some (.int .i64 0) := by rw [cell_of_row _ _ _ _ _ _ d5]; rfl
  have t3 : w5.frozen? ⟨W.heap.size, 3, none⟩ = false := frozen_of_row _ _ _ _ _ d5
  have r4 : w5.cell? ⟨W.heap.size, 4, none⟩ = some (.int .i64 0) := by rw [cell_of_row _ _ _ _ _ _ d5]; rfl
  have t4 : w5.frozen? ⟨W.heap.size, 4, none⟩ = false := frozen_of_row _ _ _ _ _ d5
  have zw := lt_of_block d5
  have HF := Lib.hid (fun W2 (hb : Below W.heap.size w5 W2) => Y5.out.more hlt hz0 hb)
  clear d5
  go_wp2
  obtain ⟨x6, hx6⟩ : ∃ x, x = (((((w5.setCell ⟨W.heap.size, 0, none⟩ (.int .i8 kv)).setCell ⟨W.heap.size, 1, none⟩ (.int .i64 v1)).setCell ⟨W.heap.size, 2, none⟩ (.int .i64 v2)).setCell ⟨W.heap.size, 3, none⟩ (.int .i64 v3)).setCell ⟨W.heap.size, 4, none⟩ (.int .i64 v4)) := ⟨_, rfl⟩
  have d6 : x6.heap[W.heap.size]? = some (.cells #[.int .i8 kv, .int .i64 v1, .int .i64 v2, .int .i64 v3, .int .i64 v4] 57 (0, 0)) := by rw [hx6]; exact (cells_set (cells_set (cells_set (cells_set (cells_set D5.out 0 (.int .i8 kv)) 1 (.int .i64 v1)) 2 (.int .i64 v2)) 3 (.int .i64 v3)) 4 (.int .i64 v4))
  have HZ6 := Lib.hid (HF.out x6 (by rw [hx6]; exact ((((((Below.refl W.heap.size w5) |>.setCell (p := ⟨W.heap.size, 0, none⟩) (Nat.le_refl _) (.int .i8 kv)) |>.setCell (p := ⟨W.heap.size, 1, none⟩) (Nat.le_refl _) (.int .i64 v1)) |>.setCell (p := ⟨W.heap.size, 2, none⟩) (Nat.le_refl _) (.int .i64 v2)) |>.setCell (p := ⟨W.heap.size, 3, none⟩) (Nat.le_refl _) (.int .i64 v3)) |>.setCell (p := ⟨W.heap.size, 4, none⟩) (Nat.le_refl _) (.int .i64 v4))))
  rw [← hx6]
  have u0 : x6.cell? ⟨W.heap.size, 0, none⟩ = some (.int .i8 kv) := by rw [cell_of_row _ _ _ _ _ _ d6]; rfl
  have u1 : x6.cell? ⟨W.heap.size, 1, none⟩ = some (.int .i64 v1) := by rw [cell_of_row _ _ _ _ _ _ d6]; rfl
  have u2 : x6.cell? ⟨W.heap.size, 2, none⟩ = some (.int .i64 v2) := by rw [cell_of_row _ _ _ _ _ _ d6]; rfl
  have u3 : x6.cell? ⟨W.heap.size, 3, none⟩ = some (.int .i64 v3) := by rw [cell_of_row _ _ _ _ _ _ d6]; rfl
  have u4 : x6.cell? ⟨W.heap.size, 4, none⟩ = some (.int .i64 v4) := by rw [cell_of_row _ _ _ _ _ _ d6]; rfl
  clear hx6 d6
  refine bodyPost_ret (v := .agg #[.int .i8 kv, .int .i64 v1, .int .i64 v2, .int .i64 v3, .int .i64 v4]) (by simp [results, Try.results107, go_sem, u0, u1, u2, u3, u4]) rfl ?_
  exact ⟨rfl, HZ6.out⟩
end Go.Proofs.Ytcihihncgpddfaa
