/- Layer 07: Area; RectOrder. -/
import Derived.Test.YtekcheccelllcaaRgQ
import Derived.Test.YtekcheccelllcaaRctU
import Derived.Test.YtekcheccelllcaaRctW
import Derived.Lib.MinMax
namespace Go.Proofs.Ytekcheccelllcaa
open Go.RowKit
set_option linter.unusedVariables false
set_option linter.unusedSimpArgs false

set_option maxHeartbeats 8000000 in
theorem law_same_any (p q : Option Addr) (n m c1 c2 : Nat) (L M : List R4) (w : World) (hn : L.length = n) (hm : M.length = m) (hlen : n ≤ 140737488351232) (hp : SlAt w p L) (hq : SlAt w q M) : Calls Try.prog 36 #[.slice p n c1, .slice q m c2] w fun e w' => ∃ b, e = .returned (.bool b) ∧ (b = true ↔ L = M) ∧ Below w.heap.size w w' := by
  by_cases hnm : n = m
  · subst hnm
    have HC := Lib.hid hp
    have HD := Lib.hid hq
    have HL := Lib.hid hn
    have HM := Lib.hid hm
    clear hp hq hn hm
    go_enter Try.func36, Try.ntmps36
    go_wp2
    go_loopw [5] (fun i wr => ∃ k : Nat, k ≤ n ∧ i = .int .i64 k ∧ RowKit.Hid (∀ j, j < k → L.getD j zR = M.getD j zR) ∧ Below w.heap.size w wr) (fun i _ => n - (intOf i).toNat)
    case atStart => exact ⟨0, Nat.zero_le _, rfl, Lib.hid (fun j hj => by omega), Below.refl _ _⟩
    case round =>
      obtain ⟨k, hk, rfl, SM, BW⟩ := hrel
      have S0 := BW.size
      by_cases hlt : k < n
      · obtain ⟨b, off, rfl, hb, hc⟩ := HC.out (by rw [HL.out]; omega)
        obtain ⟨b', off', rfl, hb', hc'⟩ := HD.out (by rw [HM.out]; omega)
        obtain ⟨c0, c1, c2, c3⟩ := hc.later BW hb k (by rw [HL.out]; exact hlt)
        obtain ⟨d0, d1, d2, d3⟩ := hc'.later BW hb' k (by rw [HM.out]; exact hlt)
        have e1 := Lib.hid (rfl : L.getD k zR = L.getD k zR)
        generalize hr : L.getD k zR = r at c0 c1 c2 c3
        generalize hs : M.getD k zR = s at d0 d1 d2 d3
        have HR := Lib.hid hr
        have HS := Lib.hid hs
        clear e1 hr hs
        by_cases e : r.x = s.x ∧ r.y = s.y ∧ r.w = s.w ∧ r.h = s.h
        · have ers := Lib.hid (R4_ext e.1 e.2.1 e.2.2.1 e.2.2.2)
          obtain ⟨e0, e1, e2, e3⟩ := e
          rw [e0] at c0; rw [e1] at c1; rw [e2] at c2; rw [e3] at c3
          clear hc hc' e0 e1 e2 e3
          go_wp2
          go_region
          go_wp2
          go_roundw
          case rel => exact ⟨k + 1, by omega, by go_num, Lib.hid (fun j hj => by
            by_cases hj' : j < k
            · exact SM.out j hj'
            · have : j = k := by omega
              rw [this, HR.out, HS.out, ers.out]), BW.drew⟩
          case measure => simp [intOf]; omega
        · have hne := Lib.hid (show ¬ L = M by
            intro h; apply e; rw [← HR.out, ← HS.out, h]; exact ⟨rfl, rfl, rfl, rfl⟩)
          clear hc hc'
          rcases (show r.x ≠ s.x ∨ (r.x = s.x ∧ r.y ≠ s.y) ∨ (r.x = s.x ∧ r.y = s.y ∧ r.w ≠ s.w) ∨ (r.x = s.x ∧ r.y = s.y ∧ r.w = s.w ∧ r.h ≠ s.h) by omega) with k | k | k | k
          all_goals
            clear e
            go_wp2
            go_region
            go_wp2
            go_ret
            exact ⟨false, rfl, by simp; exact hne.out, BW.drew⟩
      · have hkl : k = n := by omega
        subst hkl
        go_wp2
        go_ret
        exact ⟨true, rfl, by simp; exact getD_ext (by rw [HL.out, HM.out]) (by rw [HL.out]; exact SM.out), BW⟩
  · have hne := Lib.hid (show ¬ L = M by rintro rfl; omega)
    clear hp hq hn hm
    go_enter Try.func36, Try.ntmps36
    go_wp2
    go_ret
    exact ⟨false, rfl, by simp; exact hne.out, Below.refl _ _⟩

def areaS (n : Int) (r : R4) : Int := wrap64 (n + wrap64 (r.w * r.h))
def areaI (L : List R4) : Int := L.foldl areaS 0
theorem areaI_take (L : List R4) (k : Nat) (h : k < L.length) : areaI (L.take (k + 1)) = areaS (areaI (L.take k)) (L.getD k zR) := by
  unfold areaI
  rw [List.take_succ_eq_append_getElem h, List.foldl_append, List.getD_eq_getElem?_getD, List.getElem?_eq_getElem h]
  rfl
set_option maxRecDepth 100000 in
set_option maxHeartbeats 8000000 in
theorem area_any (base : Nat) (w : World) (g : Nat) (v : Value) (l : List BV) (h : RegAt base w g v l) (hok : RegOk (bdsOf l)) : Calls Try.prog 38 #[.pointer (some ⟨g, 0, none⟩)] w fun e w' => e = .returned (.int .i64 (areaI (rctsB (bdsOf l)))) ∧ Below w.heap.size w w' := by
  have HR := Lib.hid h
  have HOK := Lib.hid hok
  have hfew := hok.few
  have hlen : (rctsB (bdsOf l)).length ≤ 1024 := by rw [rctsB_len]; exact hfew
  obtain ⟨L, hL⟩ : ∃ L, L = rctsB (bdsOf l) := ⟨_, rfl⟩
  rw [← hL] at hlen ⊢
  have HLL := Lib.hid hL
  clear h hok hfew hL
  go_enter Try.func38, Try.ntmps38
  go_wp2_with fail
  refine (rects_any base w g v l HR.out HOK.out).mono ?_
  rintro e w1 ⟨v1, rfl, own, hb⟩
  rw [← HLL.out] at own
  obtain ⟨n, hn⟩ : ∃ n, n = L.length := ⟨_, rfl⟩
  rw [← hn] at own hlen
  obtain ⟨p, c, rfl, hc, sl, _, _⟩ := own_sl own hn
  have HSL := Lib.hid sl
  have HB := Lib.hid hb
  have HN := Lib.hid hn
  clear own sl hb hn HLL HR HOK
  go_wp2
  go_loopw [3, 9] (fun av iv wr => ∃ i : Nat, iv = .int .i64 i ∧ i ≤ n ∧ av = .int .i64 (areaI (L.take i)) ∧ RowKit.Hid (Below w1.heap.size w1 wr)) (fun _ iv _ => n - (intOf iv).toNat)
  case atStart => exact ⟨0, rfl, Nat.zero_le _, rfl, Lib.hid (Below.refl _ _)⟩
  case round =>
    obtain ⟨i, rfl, hi, rfl, HI⟩ := hrel
    by_cases hlt : i < n
    · have hii : (i : Int) < (n : Int) := by omega
      obtain ⟨rb, ro, rfl, zr, hrc⟩ := (HSL.out.later HI.out) (by rw [← HN.out]; omega)
      obtain ⟨c0, c1, c2, c3⟩ := hrc i (by rw [← HN.out]; exact hlt)
      have HA := Lib.hid (areaI_take L i (by rw [← HN.out]; exact hlt))
      generalize L.getD i zR = r at c0 c1 c2 c3 HA
      generalize areaI (L.take i) = a at HA ⊢
      clear hrc
      have HB2 := Lib.hid (show Below w1.heap.size w1 (wr.alloc (.cells #[.int .i64 r.x, .int .i64 r.y, .int .i64 r.w, .int .i64 r.h] 23)) from below_al HI.out _)
      clear HI
      go_wp2
      go_roundw
      case rel => exact ⟨i + 1, by go_num, by omega, by rw [HA.out]; rfl, HB2⟩
      case measure => simp [intOf] <;> omega
    · have hii : ¬ (i : Int) < (n : Int) := by omega
      obtain rfl : n = i := by omega
      have HT := Lib.hid (show areaI (L.take n) = areaI L from by rw [List.take_of_length_le (by rw [← HN.out]; exact Nat.le_refl _)])
      rw [HT.out]
      go_wp2
      go_ret
      exact ⟨rfl, below_via HI.out HB.out⟩
end Go.Proofs.Ytekcheccelllcaa
