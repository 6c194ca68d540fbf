/- Focus: Near: the model, contracts of its closure and of focus.Near. -/
import Derived.Test.YtihjefncjkdnpaaFoZ
import Derived.Test.YtihjefncjkdnpaaGrtD
import Derived.Test.YtihjefncjkdnpaaLntBx
namespace Go.Proofs.Ytihjefncjkdnpaa
open Go.RowKit Go.Deep
set_option linter.unusedVariables false
set_option linter.unusedSimpArgs false

def clipR (bx : Nat → Nat → Int) (i : Nat) : R4 := ⟨bx i 12, bx i 13, bx i 14, bx i 15⟩
def seenR (bx : Nat → Nat → Int) (i : Nat) : R4 := selfR (clipR bx i)
def ClipOk (n : Nat) (bx : Nat → Nat → Int) : Prop := ∀ i, i < n → ∀ j, 12 ≤ j → j < 16 → -9223372036854775808 ≤ bx i j ∧ bx i j ≤ 9223372036854775807
/-- a rectangle in its own form lies in the plane -/
structure InP (r : R4) : Prop where
  x : -1048576 ≤ r.x ∧ r.x ≤ 1048576
  y : -1048576 ≤ r.y ∧ r.y ≤ 1048576
  w : 0 ≤ r.w ∧ r.w ≤ 2097152
  h : 0 ≤ r.h ∧ r.h ≤ 2097152
theorem mkR_in (a b c d : Int) : InP (mkR a b c d) := by
  unfold mkR
  split
  · rename_i h
    refine ⟨?_, ?_, ?_, ?_⟩ <;> simp only <;> omega
  · exact ⟨by decide, by decide, by decide, by decide⟩
theorem selfR_in (r : R4) : InP (selfR r) := by
  cases h : okR4 r with
  | true => rw [selfR_ok h]; exact mkR_in _ _ _ _
  | false => rw [selfR_no h]; exact ⟨by decide, by decide, by decide, by decide⟩
def liesB (f t : R4) (key : Int) : Bool :=
  if key = 7 then decide (f.x + f.w ≤ t.x) else if key = 8 then decide (t.x + t.w ≤ f.x) else if key = 6 then decide (f.y + f.h ≤ t.y) else if key = 5 then decide (t.y + t.h ≤ f.y) else false
def farI (f t : R4) (key : Int) : Int :=
  if key = 6 ∨ key = 5 then gapI f.y f.h t.y t.h + 2 * gapI f.x f.w t.x t.w else gapI f.x f.w t.x t.w + 2 * gapI f.y f.h t.y t.h
def nearStep (bx : Nat → Nat → Int) (f : R4) (key at' : Int) (st : Int × Int) (n : Int) : Int × Int :=
  if n = at' ∨ okR4 (seenR bx n.toNat) = false then st
  else if liesB f (seenR bx n.toNat) key = true ∧ (st.1 < 0 ∨ farI f (seenR bx n.toNat) key < st.2) then (n, farI f (seenR bx n.toNat) key) else st
def nearR (T : List Nd) (nb : Nat) (bx : Nat → Nat → Int) (at' key : Int) : Int :=
  if (checkT T).1 ≠ 0 ∨ nb ≠ T.length ∨ at' < 0 ∨ (nb : Int) ≤ at' then -1
  else if okR4 (seenR bx at'.toNat) = false then -1
  else ((fosL T).foldl (nearStep bx (seenR bx at'.toNat) key at') (-1, 0)).1
theorem gapI_bd {f t : R4} (hf : InP f) (ht : InP t) : (0 ≤ gapI f.x f.w t.x t.w ∧ gapI f.x f.w t.x t.w ≤ 8388608) ∧ 0 ≤ gapI f.y f.h t.y t.h ∧ gapI f.y f.h t.y t.h ≤ 8388608 := by
  have h1 := hf.x; have h2 := hf.y; have h3 := hf.w; have h4 := hf.h
  have k1 := ht.x; have k2 := ht.y; have k3 := ht.w; have k4 := ht.h
  unfold gapI
  omega
theorem farI_bd {f t : R4} (hf : InP f) (ht : InP t) (key : Int) : 0 ≤ farI f t key ∧ farI f t key ≤ 33554432 := by
  obtain ⟨h1, h2⟩ := gapI_bd hf ht
  unfold farI
  split <;> omega
set_option maxRecDepth 100000 in
set_option maxHeartbeats 8000000 in
theorem seen_any (bp : Nat) (p : Option Addr) (nb c : Nat) (bx : Nat → Nat → Int) (n : Nat) (W : World) (hb : W.heap[bp]? = some (.cells #[.slice p nb c] 70 (0, 0))) (hB : BoxAt W p nb bx) (hn : n < nb) (hl : nb ≤ 9223372036854775807) (hC : ClipOk nb bx) : Calls Try.prog 57 #[.int .i64 n, .pointer (some ⟨bp, 0, none⟩)] W fun e W' => e = .returned (.agg #[.int .i64 (seenR bx n).x, .int .i64 (seenR bx n).y, .int .i64 (seenR bx n).w, .int .i64 (seenR bx n).h]) ∧ Below W.heap.size W W' := by
  obtain ⟨b, off, rfl, hz, hc⟩ := hB (by omega)
  have c12 : W.cell? ⟨b, off + n * 18 + 12, none⟩ = some (.int .i64 (bx n 12)) := by rw [Nat.add_assoc]; exact hc n hn 12 (by omega)
  have c13 : W.cell? ⟨b, off + n * 18 + 13, none⟩ = some (.int .i64 (bx n 13)) := by rw [Nat.add_assoc]; exact hc n hn 13 (by omega)
  have c14 : W.cell? ⟨b, off + n * 18 + 14, none⟩ = some (.int .i64 (bx n 14)) := by rw [Nat.add_assoc]; exact hc n hn 14 (by omega)
  have c15 : W.cell? ⟨b, off + n * 18 + 15, none⟩ = some (.int .i64 (bx n 15)) := by rw [Nat.add_assoc]; exact hc n hn 15 (by omega)
  have HCL := Lib.hid (And.intro (hC n hn 12 (by omega) (by omega)) (And.intro (hC n hn 13 (by omega) (by omega)) (And.intro (hC n hn 14 (by omega) (by omega)) (hC n hn 15 (by omega) (by omega)))))
  have xb := cell_of_one hb
  have zb := lt_of_block hb
  have hni : (n : Int) < (nb : Int) := by omega
  obtain ⟨R, hR⟩ : ∃ R, R = seenR bx n := ⟨_, rfl⟩
  have HR := Lib.hid (show R = meetR ⟨bx n 12, bx n 13, bx n 14, bx n 15⟩ ⟨bx n 12, bx n 13, bx n 14, bx n 15⟩ from hR)
  rw [← hR]
  obtain ⟨W1, hW1⟩ : ∃ W1, W1 = W.alloc (.cells #[.int .i64 0, .int .i64 0, .int .i64 0, .int .i64 0] 77) := ⟨_, rfl⟩
  have C1 := Lib.hid (show Below W.heap.size W W1 by rw [hW1]; exact below_al (Below.refl _ _) _)
  have k1 := Lib.hid (show W1.heap[W.heap.size]? = some (.cells #[.int .i64 0, .int .i64 0, .int .i64 0, .int .i64 0] 77 (0, 0)) by rw [hW1]; exact heap_alloc_new _ _)
  have HW1 := Lib.hid hW1
  generalize bx n 12 = v12 at *
  generalize bx n 13 = v13 at *
  generalize bx n 14 = v14 at *
  generalize bx n 15 = v15 at *
  clear hc hb hC hB hR hW1
  go_enter Try.func57, Try.ntmps57
  go_upto_region 1 with (fail)
  rw [← HW1.out]
  obtain ⟨hcl, _⟩ := bcell C1.out
  rw [← hcl _ _ (by assumption)] at c12 c13 c14 c15 xb
  have z1 : b < W1.heap.size := by have := C1.out.size; omega
  have zb1 : bp < W1.heap.size := by have := C1.out.size; omega
  clear hcl hz zb HW1
  go_still_tail 10, (by kernel_rfl)
  change wpList _ _ _ _ _ W1.drew
  generalize hq : W1.drew = W2
  have B2 := Lib.hid (show Below W.heap.size W W2 by rw [← hq]; exact C1.out.drew)
  have k2 := Lib.hid (show W2.heap[W.heap.size]? = some (.cells #[.int .i64 0, .int .i64 0, .int .i64 0, .int .i64 0] 77 (0, 0)) by rw [← hq]; exact k1.out)
  clear hq c12 c13 c14 c15 xb z1 zb1 C1 k1
  go_wp2_with fail
  refine (rect_Meet_any _ _ _ _ _ _ _ _ _ HCL.out.1 HCL.out.2.1 HCL.out.2.2.1 HCL.out.2.2.2 HCL.out.1 HCL.out.2.1 HCL.out.2.2.1 HCL.out.2.2.2).mono ?_
  rw [← HR.out]
  rintro e w3 ⟨rfl, hb3⟩
  have HC := Lib.hid ((hb3.block _ (lt_of_block k2.out)).trans k2.out)
  have HB3 := Lib.hid (below_via hb3 B2.out)
  clear hb3 k2 B2
  have S2 := lt_of_block HC.out
  have c0 : w3.cell? ⟨W.heap.size, 0, none⟩ = some (.int .i64 0) := by rw [cell_of_row _ _ _ _ _ _ HC.out]; rfl
  have c1 : w3.cell? ⟨W.heap.size, 1, none⟩ = some (.int .i64 0) := by rw [cell_of_row _ _ _ _ _ _ HC.out]; rfl
  have c2 : w3.cell? ⟨W.heap.size, 2, none⟩ = some (.int .i64 0) := by rw [cell_of_row _ _ _ _ _ _ HC.out]; rfl
  have c3 : w3.cell? ⟨W.heap.size, 3, none⟩ = some (.int .i64 0) := by rw [cell_of_row _ _ _ _ _ _ HC.out]; rfl
  have f0 : w3.frozen? ⟨W.heap.size, 0, none⟩ = false := frozen_of_row _ _ _ _ _ HC.out
  have f1 : w3.frozen? ⟨W.heap.size, 1, none⟩ = false := frozen_of_row _ _ _ _ _ HC.out
  have f2 : w3.frozen? ⟨W.heap.size, 2, none⟩ = false := frozen_of_row _ _ _ _ _ HC.out
  have f3 : w3.frozen? ⟨W.heap.size, 3, none⟩ = false := frozen_of_row _ _ _ _ _ HC.out
  go_wp2
  exact bodyPost_ret (v := .agg #[.int .i64 R.x, .int .i64 R.y, .int .i64 R.w, .int .i64 R.h]) (by simp [results, Try.results57, go_sem, c0, c1, c2, c3]) rfl ⟨rfl, by have := HB3.out; go_grown⟩
end Go.Proofs.Ytihjefncjkdnpaa
