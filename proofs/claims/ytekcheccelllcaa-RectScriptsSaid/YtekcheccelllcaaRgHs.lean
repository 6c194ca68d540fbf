/- Layer 07: Has of a region. -/
import Derived.Test.YtekcheccelllcaaRgNw
import Derived.Test.YtekcheccelllcaaRctU
namespace Go.Proofs.Ytekcheccelllcaa
open Go.RowKit
set_option linter.unusedVariables false
set_option linter.unusedSimpArgs false

theorem any_take {L : List R4} {k : Nat} (h : k < L.length) (f : R4 → Bool) : (L.take (k + 1)).any f = ((L.take k).any f || f (L.getD k zR)) := by
  rw [List.take_succ_eq_append_getElem h, List.any_append, List.getD_eq_getElem?_getD, List.getElem?_eq_getElem h]
  simp
theorem PlaneR.sums {r : R4} (h : PlaneR r) : wrap64 (r.x + r.w) = r.x + r.w ∧ wrap64 (r.y + r.h) = r.y + r.h := by
  have h1 := h.x; have h2 := h.y; have h3 := h.w; have h4 := h.h; have h5 := h.xw; have h6 := h.yh
  constructor <;> (unfold wrap64; omega)
set_option maxRecDepth 100000 in
set_option maxHeartbeats 8000000 in
theorem has_reg_any (base : Nat) (w : World) (g : Nat) (v : Value) (l : List BV) (x y : Int) (h : RegAt base w g v l) (hok : RegOk (bdsOf l)) : Calls Try.prog 41 #[.pointer (some ⟨g, 0, none⟩), .int .i64 x, .int .i64 y] w fun e w' => e = .returned (.bool (inB (bdsOf l) x y)) ∧ Below w.heap.size w w' := by
  rw [← rctsB_in hok.can]
  have HR := Lib.hid h
  have HOK := Lib.hid hok
  have HF := Lib.hid (rctsB_own hok.can hok.pl)
  have hlen : (rctsB (bdsOf l)).length ≤ 1024 := by rw [rctsB_len]; exact hok.few
  obtain ⟨L, hL⟩ : ∃ L, L = rctsB (bdsOf l) := ⟨_, rfl⟩
  rw [← hL] at hlen HF ⊢
  have HLL := Lib.hid hL
  clear h hok hL
  go_enter Try.func41, Try.ntmps41
  go_wp2_with fail
  refine (rects_any base w g v l HR.out HOK.out).mono ?_
  rintro e w1 ⟨v1, rfl, own, hb⟩
  rw [← HLL.out] at own
  obtain ⟨n, hn⟩ : ∃ n, n = L.length := ⟨_, rfl⟩
  rw [← hn] at own hlen
  obtain ⟨p, c, rfl, hc, sl, _, _⟩ := own_sl own hn
  have HSL := Lib.hid sl
  have HB := Lib.hid hb
  have HN := Lib.hid hn
  clear own sl hb hn HLL HR HOK
  go_wp2
  go_loopw [12] (fun iv wr => ∃ i : Nat, iv = .int .i64 i ∧ i ≤ n ∧ (L.take i).any (fun r => withinR r x y) = false ∧ RowKit.Hid (Below w1.heap.size w1 wr)) (fun iv _ => n - (intOf iv).toNat)
  case atStart => exact ⟨0, rfl, Nat.zero_le _, rfl, Lib.hid (Below.refl _ _)⟩
  case round =>
    obtain ⟨i, rfl, hi, HA, HI⟩ := hrel
    by_cases hlt : i < n
    · have hii : (i : Int) < (n : Int) := by omega
      have hil : i < L.length := by rw [← HN.out]; exact hlt
      have HT := Lib.hid (any_take hil fun r => withinR r x y)
      have HA := Lib.hid HA
      obtain ⟨rb, ro, rfl, zr, hrc⟩ := (HSL.out.later HI.out) (by rw [← HN.out]; omega)
      obtain ⟨c0, c1, c2, c3⟩ := hrc i hil
      have hof : PlaneR (L.getD i zR) := HF.out _ (by rw [List.getD_eq_getElem?_getD, List.getElem?_eq_getElem hil]; exact List.getElem_mem _)
      have HM := Lib.hid (show L.getD i zR ∈ L from by rw [List.getD_eq_getElem?_getD, List.getElem?_eq_getElem hil]; exact List.getElem_mem _)
      obtain ⟨hsx, hsy⟩ := hof.sums
      generalize L.getD i zR = r at c0 c1 c2 c3 HT hsx hsy HM
      clear hrc hof hil
      have HB2 := Lib.hid (show Below w1.heap.size w1 (wr.alloc (.cells #[.int .i64 r.x, .int .i64 r.y, .int .i64 r.w, .int .i64 r.h] 23)) from below_al HI.out _)
      clear HI
      by_cases q0 : r.x ≤ x
      case neg =>
        go_wp2
        go_roundw
        case rel => exact ⟨i + 1, by go_num, by omega, by rw [HT.out, HA.out]; simp only [withinR, Bool.false_or, decide_eq_false_iff_not]; omega, HB2⟩
        case measure => simp [intOf] <;> omega
      by_cases q1 : x < r.x + r.w
      case neg =>
        go_wp2
        go_roundw
        case rel => exact ⟨i + 1, by go_num, by omega, by rw [HT.out, HA.out]; simp only [withinR, Bool.false_or, decide_eq_false_iff_not]; omega, HB2⟩
        case measure => simp [intOf] <;> omega
      by_cases q2 : r.y ≤ y
      case neg =>
        go_wp2
        go_roundw
        case rel => exact ⟨i + 1, by go_num, by omega, by rw [HT.out, HA.out]; simp only [withinR, Bool.false_or, decide_eq_false_iff_not]; omega, HB2⟩
        case measure => simp [intOf] <;> omega
      by_cases q3 : y < r.y + r.h
      case neg =>
        go_wp2
        go_roundw
        case rel => exact ⟨i + 1, by go_num, by omega, by rw [HT.out, HA.out]; simp only [withinR, Bool.false_or, decide_eq_false_iff_not]; omega, HB2⟩
        case measure => simp [intOf] <;> omega
      go_wp2
      go_ret
      refine ⟨?_, below_via HB2.out HB.out⟩
      have : (L.any fun r => withinR r x y) = true := List.any_eq_true.2 ⟨r, HM.out, by simp only [withinR, decide_eq_true_eq]; omega⟩
      rw [this]
      rfl
    · have hii : ¬ (i : Int) < (n : Int) := by omega
      obtain rfl : n = i := by omega
      have HT := Lib.hid (show (L.any fun r => withinR r x y) = false from by rw [← HA, List.take_of_length_le (by rw [← HN.out]; exact Nat.le_refl _)])
      go_wp2
      go_ret
      exact ⟨by rw [HT.out]; rfl, below_via HI.out HB.out⟩
end Go.Proofs.Ytekcheccelllcaa
