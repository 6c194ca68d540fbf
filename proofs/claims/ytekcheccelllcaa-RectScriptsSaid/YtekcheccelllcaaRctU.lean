/- Contracts of the reference: Bound, Same. -/
import Derived.Test.YtekcheccelllcaaRctW
namespace Go.Proofs.Ytekcheccelllcaa
open Go.RowKit
set_option linter.unusedVariables false
set_option linter.unusedSimpArgs false

set_option maxHeartbeats 8000000 in
theorem ref_Bound_any (p : Option Addr) (len cap : Nat) (L : List R4) (w : World) (hL : L.length = len) (hlen : len ≤ 140737488351232) (hp : SlAt w p L) (hr : ∀ r ∈ L, isR r) : Calls Try.prog 17 #[.slice p len cap] w fun e w' => e = .returned (.agg #[.int .i64 (boundR L).x, .int .i64 (boundR L).y, .int .i64 (boundR L).w, .int .i64 (boundR L).h]) ∧ Below w.heap.size w w' := by
  have HC := Lib.hid hp
  have HR := Lib.hid hr
  have HL := Lib.hid hL
  clear hp hr hL
  go_enter Try.func17, Try.ntmps17
  go_wp2
  go_loopw [3, 4, 5, 6, 7, 8] (fun f x0 y0 x1 y1 i wr => ∃ k : Nat, k ≤ len ∧ i = .int .i64 k ∧ f = .bool (acc L k).any ∧ x0 = .int .i64 (acc L k).a ∧ y0 = .int .i64 (acc L k).b ∧ x1 = .int .i64 (acc L k).c ∧ y1 = .int .i64 (acc L k).d ∧ (w.heap.size < wr.heap.size ∧ wr.cell? ⟨w.heap.size, 0, none⟩ = some (.int .i64 0) ∧ wr.cell? ⟨w.heap.size, 1, none⟩ = some (.int .i64 0) ∧ wr.cell? ⟨w.heap.size, 2, none⟩ = some (.int .i64 0) ∧ wr.cell? ⟨w.heap.size, 3, none⟩ = some (.int .i64 0) ∧ wr.frozen? ⟨w.heap.size, 0, none⟩ = false ∧ wr.frozen? ⟨w.heap.size, 1, none⟩ = false ∧ wr.frozen? ⟨w.heap.size, 2, none⟩ = false ∧ wr.frozen? ⟨w.heap.size, 3, none⟩ = false) ∧ Below w.heap.size w wr) (fun _ _ _ _ _ i _ => len - (intOf i).toNat)
  case atStart => exact ⟨0, Nat.zero_le _, rfl, rfl, rfl, rfl, rfl, rfl, by simp [acc, go_sem], by go_grown⟩
  case round =>
    obtain ⟨k, hk, rfl, rfl, rfl, rfl, rfl, rfl, FW, BW⟩ := hrel
    by_cases hlt : k < len
    · obtain ⟨b, off, rfl, hb, hc⟩ := HC.out (by rw [HL.out]; omega)
      obtain ⟨c0, c1, c2, c3⟩ := (hc.later BW hb) k (by rw [HL.out]; exact hlt)
      have ir := HR.out (L.getD k zR) (by rw [List.getD_eq_getElem?_getD, List.getElem?_eq_getElem (by rw [HL.out]; exact hlt)]; simp)
      have hs := Lib.hid (acc_succ L k (by rw [HL.out]; exact hlt))
      generalize L.getD k zR = r at *
      have S0 := BW.size
      go_wp2_with fail
      refine (ref_Ends_any _ _ _ _ _ ir.x ir.y ir.w ir.h).mono ?_
      rw [ok_same]
      cases ok : okB r.x r.y r.w r.h
      · rintro e w1 ⟨rfl, hb1⟩
        have B1 : Below w.heap.size w w1 := below_via hb1 BW
        have S1 := B1.size
        have F1 : w.heap.size < w1.heap.size ∧ w1.cell? ⟨w.heap.size, 0, none⟩ = some (.int .i64 0) ∧ w1.cell? ⟨w.heap.size, 1, none⟩ = some (.int .i64 0) ∧ w1.cell? ⟨w.heap.size, 2, none⟩ = some (.int .i64 0) ∧ w1.cell? ⟨w.heap.size, 3, none⟩ = some (.int .i64 0) ∧ w1.frozen? ⟨w.heap.size, 0, none⟩ = false ∧ w1.frozen? ⟨w.heap.size, 1, none⟩ = false ∧ w1.frozen? ⟨w.heap.size, 2, none⟩ = false ∧ w1.frozen? ⟨w.heap.size, 3, none⟩ = false := by
          obtain ⟨hc, hf⟩ := bcell hb1
          have hz := hb1.size
          (try simp only [World.size_alloc, World.size_drew, World.size_setCell] at hz)
          (repeat' apply And.intro) <;> (first | omega | (rw [hc _ _ (by first | omega | (simp only [World.size_alloc, World.size_drew, World.size_setCell]; omega))]; first | (simp [go_sem, FW]; done) | (simp [*]; done)) | (rw [hf _ _ (by first | omega | (simp only [World.size_alloc, World.size_drew, World.size_setCell]; omega))]; first | (simp [go_sem, FW]; done) | (simp [*]; done)))
        clear hb1 FW BW c0 c1 c2 c3 hc
        have hs2 := Lib.hid (show acc L (k + 1) = acc L k by rw [hs.out]; unfold accStep okR4; rw [ok]; rfl)
        clear hs ok
        go_wp2
        go_roundw
        case rel => exact ⟨k + 1, by omega, by go_num, by rw [hs2.out], by rw [hs2.out], by rw [hs2.out], by rw [hs2.out], by rw [hs2.out], F1, B1⟩
        case measure => simp [intOf]; omega
      · have ok' := okB_spec.1 ok
        have s1 := side_same r.x r.w ok'.1
        have s2 := side_same r.y r.h ok'.2
        rw [s1.1, s1.2, s2.1, s2.2]
        rintro e w1 ⟨rfl, hb1⟩
        have B1 : Below w.heap.size w w1 := below_via hb1 BW
        have S1 := B1.size
        have F1 : w.heap.size < w1.heap.size ∧ w1.cell? ⟨w.heap.size, 0, none⟩ = some (.int .i64 0) ∧ w1.cell? ⟨w.heap.size, 1, none⟩ = some (.int .i64 0) ∧ w1.cell? ⟨w.heap.size, 2, none⟩ = some (.int .i64 0) ∧ w1.cell? ⟨w.heap.size, 3, none⟩ = some (.int .i64 0) ∧ w1.frozen? ⟨w.heap.size, 0, none⟩ = false ∧ w1.frozen? ⟨w.heap.size, 1, none⟩ = false ∧ w1.frozen? ⟨w.heap.size, 2, none⟩ = false ∧ w1.frozen? ⟨w.heap.size, 3, none⟩ = false := by
          obtain ⟨hc, hf⟩ := bcell hb1
          have hz := hb1.size
          (try simp only [World.size_alloc, World.size_drew, World.size_setCell] at hz)
          (repeat' apply And.intro) <;> (first | omega | (rw [hc _ _ (by first | omega | (simp only [World.size_alloc, World.size_drew, World.size_setCell]; omega))]; first | (simp [go_sem, FW]; done) | (simp [*]; done)) | (rw [hf _ _ (by first | omega | (simp only [World.size_alloc, World.size_drew, World.size_setCell]; omega))]; first | (simp [go_sem, FW]; done) | (simp [*]; done)))
        clear hb1 FW BW c0 c1 c2 c3 hc
        cases an : (acc L k).any
        · have hs2 := Lib.hid (show acc L (k + 1) = ⟨true, rlo r.x, rlo r.y, rhi r.x r.w, rhi r.y r.h⟩ by rw [hs.out]; unfold accStep okR4; rw [ok, an]; rfl)
          clear hs ok
          go_wp2
          go_roundw
          case rel => exact ⟨k + 1, by omega, by go_num, by rw [hs2.out], by rw [hs2.out], by rw [hs2.out], by rw [hs2.out], by rw [hs2.out], F1, B1⟩
          case measure => simp [intOf]; omega
        · have hs2 := Lib.hid (show acc L (k + 1) = ⟨true, min (acc L k).a (rlo r.x), min (acc L k).b (rlo r.y), max (acc L k).c (rhi r.x r.w), max (acc L k).d (rhi r.y r.h)⟩ by rw [hs.out]; unfold accStep okR4; rw [ok, an]; rfl)
          clear hs ok
          go_wp2
          go_roundw
          case rel => exact ⟨k + 1, by omega, by go_num, by rw [hs2.out], by rw [hs2.out], by rw [hs2.out], by rw [hs2.out], by rw [hs2.out], F1, B1⟩
          case measure => simp [intOf]; omega
    · have hkl : k = len := by omega
      subst hkl
      have S0 := BW.size
      have hfin := Lib.hid (show boundR L = mkR (acc L k).a (acc L k).b (acc L k).c (acc L k).d by unfold boundR; rw [HL.out])
      go_wp2_with fail
      refine (ref_Rect_any _ _ _ _ _).mono ?_
      rintro e w3 ⟨rfl, hb3⟩
      have B3 : Below w.heap.size w w3 := below_via hb3 BW
      have S3 := B3.size
      have F3 : w.heap.size < w3.heap.size ∧ w3.cell? ⟨w.heap.size, 0, none⟩ = some (.int .i64 0) ∧ w3.cell? ⟨w.heap.size, 1, none⟩ = some (.int .i64 0) ∧ w3.cell? ⟨w.heap.size, 2, none⟩ = some (.int .i64 0) ∧ w3.cell? ⟨w.heap.size, 3, none⟩ = some (.int .i64 0) ∧ w3.frozen? ⟨w.heap.size, 0, none⟩ = false ∧ w3.frozen? ⟨w.heap.size, 1, none⟩ = false ∧ w3.frozen? ⟨w.heap.size, 2, none⟩ = false ∧ w3.frozen? ⟨w.heap.size, 3, none⟩ = false := by
        obtain ⟨hc, hf⟩ := bcell hb3
        have hz := hb3.size
        (try simp only [World.size_alloc, World.size_drew, World.size_setCell] at hz)
        (repeat' apply And.intro) <;> (first | omega | (rw [hc _ _ (by first | omega | (simp only [World.size_alloc, World.size_drew, World.size_setCell]; omega))]; first | (simp [go_sem, FW]; done) | (simp [*]; done)) | (rw [hf _ _ (by first | omega | (simp only [World.size_alloc, World.size_drew, World.size_setCell]; omega))]; first | (simp [go_sem, FW]; done) | (simp [*]; done)))
      clear hb3 FW BW
      go_wp2
      exact bodyPost_ret (v := .agg #[.int .i64 (mkR (acc L k).a (acc L k).b (acc L k).c (acc L k).d).x, .int .i64 (mkR (acc L k).a (acc L k).b (acc L k).c (acc L k).d).y, .int .i64 (mkR (acc L k).a (acc L k).b (acc L k).c (acc L k).d).w, .int .i64 (mkR (acc L k).a (acc L k).b (acc L k).c (acc L k).d).h]) (by simp [results, Try.results17, go_sem, F3]) rfl ⟨by rw [hfin.out], by go_grown⟩

theorem getD_ext {L M : List R4} (hl : L.length = M.length) (h : ∀ i, i < L.length → L.getD i zR = M.getD i zR) : L = M := by
  apply List.ext_getElem hl
  intro i h1 h2
  have := h i h1
  simpa [List.getD_eq_getElem?_getD, h1, h2] using this
theorem R4_ext {r s : R4} (h0 : r.x = s.x) (h1 : r.y = s.y) (h2 : r.w = s.w) (h3 : r.h = s.h) : r = s := by
  cases r; cases s; simp_all

set_option maxHeartbeats 8000000 in
theorem ref_Same_any (p q : Option Addr) (n m c1 c2 : Nat) (L M : List R4) (w : World) (hn : L.length = n) (hm : M.length = m) (hlen : n ≤ 140737488351232) (hp : SlAt w p L) (hq : SlAt w q M) : Calls Try.prog 19 #[.slice p n c1, .slice q m c2] w fun e w' => ∃ b, e = .returned (.bool b) ∧ (b = true ↔ L = M) ∧ Below w.heap.size w w' := by
  by_cases hnm : n = m
  · subst hnm
    have HC := Lib.hid hp
    have HD := Lib.hid hq
    have HL := Lib.hid hn
    have HM := Lib.hid hm
    clear hp hq hn hm
    go_enter Try.func19, Try.ntmps19
    go_wp2
    go_loopw [5] (fun i wr => ∃ k : Nat, k ≤ n ∧ i = .int .i64 k ∧ RowKit.Hid (∀ j, j < k → L.getD j zR = M.getD j zR) ∧ Below w.heap.size w wr) (fun i _ => n - (intOf i).toNat)
    case atStart => exact ⟨0, Nat.zero_le _, rfl, Lib.hid (fun j hj => by omega), Below.refl _ _⟩
    case round =>
      obtain ⟨k, hk, rfl, SM, BW⟩ := hrel
      have S0 := BW.size
      by_cases hlt : k < n
      · obtain ⟨b, off, rfl, hb, hc⟩ := HC.out (by rw [HL.out]; omega)
        obtain ⟨b', off', rfl, hb', hc'⟩ := HD.out (by rw [HM.out]; omega)
        obtain ⟨c0, c1, c2, c3⟩ := hc.later BW hb k (by rw [HL.out]; exact hlt)
        obtain ⟨d0, d1, d2, d3⟩ := hc'.later BW hb' k (by rw [HM.out]; exact hlt)
        have e1 := Lib.hid (rfl : L.getD k zR = L.getD k zR)
        generalize hr : L.getD k zR = r at c0 c1 c2 c3
        generalize hs : M.getD k zR = s at d0 d1 d2 d3
        have HR := Lib.hid hr
        have HS := Lib.hid hs
        clear e1 hr hs
        by_cases e : r.x = s.x ∧ r.y = s.y ∧ r.w = s.w ∧ r.h = s.h
        · have ers := Lib.hid (R4_ext e.1 e.2.1 e.2.2.1 e.2.2.2)
          obtain ⟨e0, e1, e2, e3⟩ := e
          rw [e0] at c0; rw [e1] at c1; rw [e2] at c2; rw [e3] at c3
          clear hc hc' e0 e1 e2 e3
          go_wp2
          go_region
          go_wp2
          go_roundw
          case rel => exact ⟨k + 1, by omega, by go_num, Lib.hid (fun j hj => by
            by_cases hj' : j < k
            · exact SM.out j hj'
            · have : j = k := by omega
              rw [this, HR.out, HS.out, ers.out]), BW.drew⟩
          case measure => simp [intOf]; omega
        · have hne := Lib.hid (show ¬ L = M by
            intro h; apply e; rw [← HR.out, ← HS.out, h]; exact ⟨rfl, rfl, rfl, rfl⟩)
          clear hc hc'
          rcases (show r.x ≠ s.x ∨ (r.x = s.x ∧ r.y ≠ s.y) ∨ (r.x = s.x ∧ r.y = s.y ∧ r.w ≠ s.w) ∨ (r.x = s.x ∧ r.y = s.y ∧ r.w = s.w ∧ r.h ≠ s.h) by omega) with k | k | k | k
          all_goals
            clear e
            go_wp2
            go_region
            go_wp2
            go_ret
            exact ⟨false, rfl, by simp; exact hne.out, BW.drew⟩
      · have hkl : k = n := by omega
        subst hkl
        go_wp2
        go_ret
        exact ⟨true, rfl, by simp; exact getD_ext (by rw [HL.out, HM.out]) (by rw [HL.out]; exact SM.out), BW⟩
  · have hne := Lib.hid (show ¬ L = M by rintro rfl; omega)
    clear hp hq hn hm
    go_enter Try.func19, Try.ntmps19
    go_wp2
    go_ret
    exact ⟨false, rfl, by simp; exact hne.out, Below.refl _ _⟩
end Go.Proofs.Ytekcheccelllcaa
