/- Reading trees' bytes: nodes that are read fit their types; the stages of the reading. -/
import Derived.Test.YtcihihncgpddfaaDecA
namespace Go.Proofs.Ytcihihncgpddfaa
open Go.RowKit Go.Deep
set_option linter.unusedVariables false
set_option linter.unusedSimpArgs false

theorem manyR_all {α : Type} {f : Rdr α} {B : List Int} {P : α → Prop} (hf : ∀ s, P (f B s).1) : ∀ (n : Nat) (s : Rs), ∀ x ∈ (manyR f n B s).1, P x
  | 0, s, x, hx => by cases hx
  | n + 1, s, x, hx => by
    rw [manyR_succ] at hx
    by_cases h : s.code ≠ 0
    · rw [if_pos h] at hx; cases hx
    · rw [if_neg h] at hx
      rcases List.mem_cons.1 hx with rfl | hx
      · exact hf s
      · exact manyR_all hf n _ x hx
theorem strOf_len_ (l : List Int) : (strOf l).size = l.length := strOf_size l
theorem txtR_len {B : List Int} (s : Rs) : (txtR B s).1.size ≤ B.length := by
  by_cases h : (numR B s).2.code = 0
  · by_cases h2 : (B.length : Int) - (numR B s).2.at_ < (numR B s).1
    · rw [txtR_big h h2]; exact Nat.zero_le _
    · rw [txtR_ok h h2]
      show (strOf _).size ≤ _
      rw [strOf_len_, List.length_take, List.length_drop]; omega
  · rw [txtR_no h]; exact Nat.zero_le _
theorem itR_ok {B : List Int} (hB : Byte8 B) (s : Rs) : ItOk (itR B s).1 := by
  have h0 := octR_u 127 hB s (by decide)
  have h1 := numR_range hB (octR 127 B s).2
  have h2 := numR_range hB (numR B (octR 127 B s).2).2
  have h3 := numR_range hB (numR B (numR B (octR 127 B s).2).2).2
  have h4 := numR_range hB (numR B (numR B (numR B (octR 127 B s).2).2).2).2
  exact ⟨⟨by show _ ≤ (octR 127 B s).1; omega, h0.2.1⟩, ⟨by show _ ≤ (numR B _).1; omega, by show (numR B _).1 ≤ _; omega⟩, ⟨by show _ ≤ (numR B _).1; omega, by show (numR B _).1 ≤ _; omega⟩, ⟨by show _ ≤ (numR B _).1; omega, by show (numR B _).1 ≤ _; omega⟩, ⟨by show _ ≤ (numR B _).1; omega, by show (numR B _).1 ≤ _; omega⟩⟩
theorem num64 {B : List Int} (hB : Byte8 B) (s : Rs) : -9223372036854775808 ≤ (numR B s).1 ∧ (numR B s).1 ≤ 9223372036854775807 := by have := numR_range hB s; omega
theorem sgn64 {B : List Int} (hB : Byte8 B) (s : Rs) : -9223372036854775808 ≤ (sgnR B s).1 ∧ (sgnR B s).1 ≤ 9223372036854775807 := by
  have h1 := numR_range hB s
  have := unS_range h1.1 h1.2
  show _ ≤ unS (numR B s).1 ∧ unS (numR B s).1 ≤ _
  omega
theorem num32 {B : List Int} (hB : Byte8 B) (s : Rs) : -2147483648 ≤ (numR B s).1 ∧ (numR B s).1 ≤ 2147483647 := by have := numR_range hB s; omega
theorem oct8 {B : List Int} (hB : Byte8 B) (s : Rs) : -128 ≤ (octR 127 B s).1 ∧ (octR 127 B s).1 ≤ 127 := by have := octR_u 127 hB s (by decide); omega
theorem octu {B : List Int} (hB : Byte8 B) (s : Rs) : 0 ≤ (octR 255 B s).1 ∧ (octR 255 B s).1 ≤ 255 := by have := octR_u 255 hB s (by decide); omega
theorem partR_ok {B : List Int} (hB : Byte8 B) (hl : B.length ≤ 1048576) {x : Nd} (h : NdOk x) (k : Nat) (s : Rs) : NdOk (partR x k B s).1 := by
  have ht : ∀ s, (txtR B s).1.size ≤ 9223372036854775807 := fun s => by have := txtR_len (B := B) s; omega
  match k with
  | 0 => exact ⟨oct8 hB _, h.id, h.cls, h.text, h.kids, h.iw, h.ih, h.gap, h.p0, h.p1, h.p2, h.p3, h.border, h.align, h.cross, h.wrap, h.fg, h.bg, h.add, h.drop, h.cols, h.x0, h.x1, h.x2, h.x3, h.flags⟩
  | 1 => exact ⟨h.kind, ht _, h.cls, h.text, h.kids, h.iw, h.ih, h.gap, h.p0, h.p1, h.p2, h.p3, h.border, h.align, h.cross, h.wrap, h.fg, h.bg, h.add, h.drop, h.cols, h.x0, h.x1, h.x2, h.x3, h.flags⟩
  | 2 => exact ⟨h.kind, h.id, ht _, h.text, h.kids, h.iw, h.ih, h.gap, h.p0, h.p1, h.p2, h.p3, h.border, h.align, h.cross, h.wrap, h.fg, h.bg, h.add, h.drop, h.cols, h.x0, h.x1, h.x2, h.x3, h.flags⟩
  | 3 => exact ⟨h.kind, h.id, h.cls, ht _, h.kids, h.iw, h.ih, h.gap, h.p0, h.p1, h.p2, h.p3, h.border, h.align, h.cross, h.wrap, h.fg, h.bg, h.add, h.drop, h.cols, h.x0, h.x1, h.x2, h.x3, h.flags⟩
  | 4 => exact ⟨h.kind, h.id, h.cls, h.text, manyR_all (P := fun k => -9223372036854775808 ≤ k ∧ k ≤ 9223372036854775807) (fun s => num64 hB s) _ _, h.iw, h.ih, h.gap, h.p0, h.p1, h.p2, h.p3, h.border, h.align, h.cross, h.wrap, h.fg, h.bg, h.add, h.drop, h.cols, h.x0, h.x1, h.x2, h.x3, h.flags⟩
  | 5 => exact ⟨h.kind, h.id, h.cls, h.text, h.kids, itR_ok hB _, h.ih, h.gap, h.p0, h.p1, h.p2, h.p3, h.border, h.align, h.cross, h.wrap, h.fg, h.bg, h.add, h.drop, h.cols, h.x0, h.x1, h.x2, h.x3, h.flags⟩
  | 6 => exact ⟨h.kind, h.id, h.cls, h.text, h.kids, h.iw, itR_ok hB _, h.gap, h.p0, h.p1, h.p2, h.p3, h.border, h.align, h.cross, h.wrap, h.fg, h.bg, h.add, h.drop, h.cols, h.x0, h.x1, h.x2, h.x3, h.flags⟩
  | 7 => exact ⟨h.kind, h.id, h.cls, h.text, h.kids, h.iw, h.ih, num64 hB _, h.p0, h.p1, h.p2, h.p3, h.border, h.align, h.cross, h.wrap, h.fg, h.bg, h.add, h.drop, h.cols, h.x0, h.x1, h.x2, h.x3, h.flags⟩
  | 8 => exact ⟨h.kind, h.id, h.cls, h.text, h.kids, h.iw, h.ih, h.gap, num64 hB _, num64 hB _, num64 hB _, num64 hB _, h.border, h.align, h.cross, h.wrap, h.fg, h.bg, h.add, h.drop, h.cols, h.x0, h.x1, h.x2, h.x3, h.flags⟩
  | 9 => exact ⟨h.kind, h.id, h.cls, h.text, h.kids, h.iw, h.ih, h.gap, h.p0, h.p1, h.p2, h.p3, oct8 hB _, oct8 hB _, oct8 hB _, oct8 hB _, h.fg, h.bg, h.add, h.drop, h.cols, h.x0, h.x1, h.x2, h.x3, octu hB _⟩
  | 10 => exact ⟨h.kind, h.id, h.cls, h.text, h.kids, h.iw, h.ih, h.gap, h.p0, h.p1, h.p2, h.p3, h.border, h.align, h.cross, h.wrap, num32 hB _, num32 hB _, octu hB _, octu hB _, h.cols, h.x0, h.x1, h.x2, h.x3, h.flags⟩
  | 11 => exact ⟨h.kind, h.id, h.cls, h.text, h.kids, h.iw, h.ih, h.gap, h.p0, h.p1, h.p2, h.p3, h.border, h.align, h.cross, h.wrap, h.fg, h.bg, h.add, h.drop, manyR_all (fun s => itR_ok hB s) _ _, h.x0, h.x1, h.x2, h.x3, h.flags⟩
  | n + 12 => exact ⟨h.kind, h.id, h.cls, h.text, h.kids, h.iw, h.ih, h.gap, h.p0, h.p1, h.p2, h.p3, h.border, h.align, h.cross, h.wrap, h.fg, h.bg, h.add, h.drop, h.cols, sgn64 hB _, sgn64 hB _, sgn64 hB _, sgn64 hB _, h.flags⟩
theorem zIt_ok : ItOk zIt := ⟨⟨by decide, by decide⟩, ⟨by decide, by decide⟩, ⟨by decide, by decide⟩, ⟨by decide, by decide⟩, ⟨by decide, by decide⟩⟩
theorem zNd_ok : NdOk zNd := ⟨⟨by decide, by decide⟩, by decide, by decide, by decide, (fun k hk => (by cases hk)), zIt_ok, zIt_ok, ⟨by decide, by decide⟩, ⟨by decide, by decide⟩, ⟨by decide, by decide⟩, ⟨by decide, by decide⟩, ⟨by decide, by decide⟩, ⟨by decide, by decide⟩, ⟨by decide, by decide⟩, ⟨by decide, by decide⟩, ⟨by decide, by decide⟩, ⟨by decide, by decide⟩, ⟨by decide, by decide⟩, ⟨by decide, by decide⟩, ⟨by decide, by decide⟩, (fun k hk => (by cases hk)), ⟨by decide, by decide⟩, ⟨by decide, by decide⟩, ⟨by decide, by decide⟩, ⟨by decide, by decide⟩, ⟨by decide, by decide⟩⟩
theorem partsR_ok {B : List Int} (hB : Byte8 B) (hl : B.length ≤ 1048576) (s : Rs) : ∀ k, NdOk (partsR k B s).1
  | 0 => zNd_ok
  | k + 1 => partR_ok hB hl (partsR_ok hB hl s k) k _
/-- the head's three bytes -/
def hdS (B : List Int) : Nat → Rs
  | 0 => ⟨0, 0, 0⟩
  | 1 => (wantR 0 70 B ⟨0, 0, 0⟩).2
  | 2 => (wantR 1 84 B (wantR 0 70 B ⟨0, 0, 0⟩).2).2
  | _ => (wantR 2 1 B (wantR 1 84 B (wantR 0 70 B ⟨0, 0, 0⟩).2).2).2
def cntS (B : List Int) : Int × Rs := numR B (hdS B 3)
def bgS (B : List Int) : Rs := if (cntS B).1 = 0 ∨ 4096 < (cntS B).1 then failS 100 (hdS B 3).at_ (cntS B).2 else (cntS B).2
def ndsS (B : List Int) : List Nd × Rs := manyR ndR (cntS B).1.toNat B (bgS B)
theorem body_eq (B : List Int) : bodyR B ⟨0, 0, 0⟩ = ndsS B := by simp only [bodyR, headR, rB, ndsS, cntS, bgS, hdS]
theorem decT_long {B : List Int} (h : 1048576 < B.length) : decT B = ([], 3, 0) := by unfold decT; rw [if_pos h]
theorem decT_code {B : List Int} (h : B.length ≤ 1048576) (hc : (endS B (ndsS B).2).code ≠ 0) : decT B = ([], (endS B (ndsS B).2).code, (endS B (ndsS B).2).bad) := by
  unfold decT; rw [if_neg (by omega), body_eq, if_pos hc]
theorem decT_check {B : List Int} (h : B.length ≤ 1048576) (hc : (endS B (ndsS B).2).code = 0) (hk : (checkT (ndsS B).1).1 ≠ 0) : decT B = ([], checkT (ndsS B).1) := by
  unfold decT; rw [if_neg (by omega), body_eq, if_neg (by rw [hc]; simp), if_pos hk]
theorem decT_ok {B : List Int} (h : B.length ≤ 1048576) (hc : (endS B (ndsS B).2).code = 0) (hk : (checkT (ndsS B).1).1 = 0) : decT B = ((ndsS B).1, 0, 0) := by
  unfold decT; rw [if_neg (by omega), body_eq, if_neg (by rw [hc]; simp), if_neg (by rw [hk]; simp)]
theorem want_yes {i : Nat} {c : Int} {B : List Int} {s : Rs} (h : (octR 255 B s).1 = c) : (wantR i c B s).2 = (octR 255 B s).2 := by unfold wantR; rw [if_pos h]
theorem want_no {i : Nat} {c : Int} {B : List Int} {s : Rs} (h : (octR 255 B s).1 ≠ c) : (wantR i c B s).2 = failS 100 i (octR 255 B s).2 := by unfold wantR; rw [if_neg h]
/-- what Decode returns -/
def RetDec (B : List Int) (w : World) (e : Ending) (w' : World) : Prop := ∃ tv kvs cvs, e = .returned (.tuple #[.agg #[tv], .int .i64 (decT B).2.1, .int .i64 (decT B).2.2]) ∧ OwnT w.heap.size w' tv (decT B).1 kvs cvs ∧ Below w.heap.size w w'
theorem ret_dcd {B : List Int} {w w' : World} {l : List Nd} {c a : Int} {tv : Value} {kvs cvs : Nat → Value} (h : decT B = (l, c, a)) (ho : OwnT w.heap.size w' tv l kvs cvs) (hb : Below w.heap.size w w') : RetDec B w (.returned (.tuple #[.agg #[tv], .int .i64 c, .int .i64 a])) w' := ⟨tv, kvs, cvs, by rw [h], by rw [h]; exact ho, hb⟩
theorem ret_dcd_nil {B : List Int} {w w' : World} {c a : Int} (h : decT B = ([], c, a)) (hb : Below w.heap.size w w') : RetDec B w (.returned (.tuple #[.agg #[.slice none 0 0], .int .i64 c, .int .i64 a])) w' := ret_dcd (kvs := fun _ => .slice none 0 0) (cvs := fun _ => .slice none 0 0) h (OwnT.nil _ _ _ _) hb
theorem infoN34 : (Try.prog.info? 64).map (fun i => (i.zero, i.size, i.bytes)) = some (some (.agg nodeZ), 34, 288) := by kernel_rfl
end Go.Proofs.Ytcihihncgpddfaa
