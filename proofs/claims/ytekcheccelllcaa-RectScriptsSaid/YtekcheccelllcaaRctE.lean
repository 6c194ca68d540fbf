/- Contract of rect.Bound. -/
import Derived.Test.YtekcheccelllcaaRctD
namespace Go.Proofs.Ytekcheccelllcaa
open Go.RowKit
set_option linter.unusedVariables false
set_option linter.unusedSimpArgs false

structure Acc where
  any : Bool
  a : Int
  b : Int
  c : Int
  d : Int
def accStep (s : Acc) (r : R4) : Acc := if okR4 r then (if s.any then ⟨true, min s.a (rlo r.x), min s.b (rlo r.y), max s.c (rhi r.x r.w), max s.d (rhi r.y r.h)⟩ else ⟨true, rlo r.x, rlo r.y, rhi r.x r.w, rhi r.y r.h⟩) else s
def acc (L : List R4) (k : Nat) : Acc := (L.take k).foldl accStep ⟨false, 0, 0, 0, 0⟩
def boundR (L : List R4) : R4 := mkR (acc L L.length).a (acc L L.length).b (acc L L.length).c (acc L L.length).d
theorem acc_succ (L : List R4) (k : Nat) (h : k < L.length) : acc L (k + 1) = accStep (acc L k) (L.getD k zR) := by
  unfold acc
  rw [List.take_succ_eq_append_getElem h, List.foldl_append]
  simp [List.getD_eq_getElem?_getD, h]
/-- rectangles that lie in memory one behind the other -/
def RectsAt (w : World) (b off : Nat) (L : List R4) : Prop := ∀ i, i < L.length → w.cell? ⟨b, off + i * 4, none⟩ = some (.int .i64 (L.getD i zR).x) ∧ w.cell? ⟨b, off + i * 4 + 1, none⟩ = some (.int .i64 (L.getD i zR).y) ∧ w.cell? ⟨b, off + i * 4 + 2, none⟩ = some (.int .i64 (L.getD i zR).w) ∧ w.cell? ⟨b, off + i * 4 + 3, none⟩ = some (.int .i64 (L.getD i zR).h)
theorem RectsAt.later {w wr : World} {b off : Nat} {L : List R4} {B : Nat} (h : RectsAt w b off L) (hb : Below B w wr) (hB : b < B) : RectsAt wr b off L := by
  intro i hi
  obtain ⟨h0, h1, h2, h3⟩ := h i hi
  obtain ⟨hc, hf⟩ := bcell hb
  exact ⟨by rw [hc _ _ hB]; exact h0, by rw [hc _ _ hB]; exact h1, by rw [hc _ _ hB]; exact h2, by rw [hc _ _ hB]; exact h3⟩
/-- what a slice's address holds -/
def SlAt (w : World) (p : Option Addr) (L : List R4) : Prop := L.length ≠ 0 → ∃ b off, p = some ⟨b, off, none⟩ ∧ b < w.heap.size ∧ RectsAt w b off L
theorem SlAt.later {w wr : World} {p : Option Addr} {L : List R4} (h : SlAt w p L) (hb : Below w.heap.size w wr) : SlAt wr p L := by
  intro h0
  obtain ⟨b, off, rfl, h1, h2⟩ := h h0
  exact ⟨b, off, rfl, Nat.lt_of_lt_of_le h1 hb.size, h2.later hb h1⟩

theorem set4 {w : World} {b : Nat} {o0 o1 o2 o3 : Value} (h0 : w.cell? ⟨b, 0, none⟩ = some o0) (h1 : w.cell? ⟨b, 1, none⟩ = some o1) (h2 : w.cell? ⟨b, 2, none⟩ = some o2) (h3 : w.cell? ⟨b, 3, none⟩ = some o3) (v0 v1 v2 v3 : Value) :
    ∃ w', w' = (((w.setCell ⟨b, 0, none⟩ v0).setCell ⟨b, 1, none⟩ v1).setCell ⟨b, 2, none⟩ v2).setCell ⟨b, 3, none⟩ v3 ∧ w'.cell? ⟨b, 0, none⟩ = some v0 ∧ w'.cell? ⟨b, 1, none⟩ = some v1 ∧ w'.cell? ⟨b, 2, none⟩ = some v2 ∧ w'.cell? ⟨b, 3, none⟩ = some v3 ∧
      (∀ c o, c ≠ b → w'.cell? ⟨c, o, none⟩ = w.cell? ⟨c, o, none⟩) ∧ (∀ c o, w'.frozen? ⟨c, o, none⟩ = w.frozen? ⟨c, o, none⟩) ∧ w'.heap.size = w.heap.size := by
  refine ⟨_, rfl, ?_, ?_, ?_, ?_, ?_, ?_, ?_⟩
  · rw [World.cell?_setCell_other _ _ _ _ (by simp), World.cell?_setCell_other _ _ _ _ (by simp), World.cell?_setCell_other _ _ _ _ (by simp), World.cell?_setCell_same _ _ _ h0]
  · rw [World.cell?_setCell_other _ _ _ _ (by simp), World.cell?_setCell_other _ _ _ _ (by simp)]
    exact World.cell?_setCell_same _ _ _ (by rw [World.cell?_setCell_other _ _ _ _ (by simp)]; exact h1)
  · rw [World.cell?_setCell_other _ _ _ _ (by simp)]
    exact World.cell?_setCell_same _ _ _ (by rw [World.cell?_setCell_other _ _ _ _ (by simp), World.cell?_setCell_other _ _ _ _ (by simp)]; exact h2)
  · exact World.cell?_setCell_same _ _ _ (by rw [World.cell?_setCell_other _ _ _ _ (by simp), World.cell?_setCell_other _ _ _ _ (by simp), World.cell?_setCell_other _ _ _ _ (by simp)]; exact h3)
  · intro c o hne
    rw [World.cell?_setCell_other _ _ _ _ (by intro h; cases h; exact hne rfl), World.cell?_setCell_other _ _ _ _ (by intro h; cases h; exact hne rfl), World.cell?_setCell_other _ _ _ _ (by intro h; cases h; exact hne rfl), World.cell?_setCell_other _ _ _ _ (by intro h; cases h; exact hne rfl)]
  · intro c o; simp [go_sem]
  · simp [go_sem]

set_option maxHeartbeats 8000000 in
theorem rect_Bound_any (p : Option Addr) (len cap : Nat) (L : List R4) (w : World) (hL : L.length = len) (hlen : len ≤ 140737488351232) (hp : SlAt w p L) (hr : ∀ r ∈ L, isR r) : Calls Try.prog 18 #[.slice p len cap] w fun e w' => e = .returned (.agg #[.int .i64 (boundR L).x, .int .i64 (boundR L).y, .int .i64 (boundR L).w, .int .i64 (boundR L).h]) ∧ Below w.heap.size w w' := by
  have HC := Lib.hid hp
  have HR := Lib.hid hr
  have HL := Lib.hid hL
  clear hp hr hL
  go_enter Try.func18, Try.ntmps18
  go_wp2
  go_loopw [4, 11] (fun f i wr => ∃ k : Nat, k ≤ len ∧ i = .int .i64 k ∧ f = .bool (!(acc L k).any) ∧ (w.heap.size < wr.heap.size ∧ w.heap.size + 1 < wr.heap.size ∧ wr.cell? ⟨w.heap.size, 0, none⟩ = some (.int .i64 0) ∧ wr.cell? ⟨w.heap.size, 1, none⟩ = some (.int .i64 0) ∧ wr.cell? ⟨w.heap.size, 2, none⟩ = some (.int .i64 0) ∧ wr.cell? ⟨w.heap.size, 3, none⟩ = some (.int .i64 0) ∧ wr.cell? ⟨w.heap.size + 1, 0, none⟩ = some (.int .i64 (acc L k).a) ∧ wr.cell? ⟨w.heap.size + 1, 1, none⟩ = some (.int .i64 (acc L k).b) ∧ wr.cell? ⟨w.heap.size + 1, 2, none⟩ = some (.int .i64 (acc L k).c) ∧ wr.cell? ⟨w.heap.size + 1, 3, none⟩ = some (.int .i64 (acc L k).d) ∧ wr.frozen? ⟨w.heap.size, 0, none⟩ = false ∧ wr.frozen? ⟨w.heap.size, 1, none⟩ = false ∧ wr.frozen? ⟨w.heap.size, 2, none⟩ = false ∧ wr.frozen? ⟨w.heap.size, 3, none⟩ = false ∧ wr.frozen? ⟨w.heap.size + 1, 0, none⟩ = false ∧ wr.frozen? ⟨w.heap.size + 1, 1, none⟩ = false ∧ wr.frozen? ⟨w.heap.size + 1, 2, none⟩ = false ∧ wr.frozen? ⟨w.heap.size + 1, 3, none⟩ = false) ∧ Below w.heap.size w wr) (fun _ i _ => len - (intOf i).toNat)
  case atStart => exact ⟨0, Nat.zero_le _, rfl, rfl, by simp [acc, go_sem], by go_grown⟩
  case round =>
    obtain ⟨k, hk, rfl, rfl, FW, BW⟩ := hrel
    by_cases hlt : k < len
    · obtain ⟨b, off, rfl, hb, hc⟩ := HC.out (by rw [HL.out]; omega)
      obtain ⟨c0, c1, c2, c3⟩ := (hc.later BW hb) k (by rw [HL.out]; exact hlt)
      have ir := HR.out (L.getD k zR) (by rw [List.getD_eq_getElem?_getD, List.getElem?_eq_getElem (by rw [HL.out]; exact hlt)]; simp)
      have hs := Lib.hid (acc_succ L k (by rw [HL.out]; exact hlt))
      generalize L.getD k zR = r at *
      have S0 := BW.size
      go_wp2_with fail
      refine (rect_ends_any _ _ _ _ _ ir.x ir.y ir.w ir.h).mono ?_
      cases ok : okB r.x r.y r.w r.h
      all_goals
        rintro e w1 ⟨rfl, hb1⟩
        have B1 : Below w.heap.size w w1 := below_via hb1 (below_al BW _)
        have S1 := B1.size
        have F1 : w.heap.size < w1.heap.size ∧ w.heap.size + 1 < w1.heap.size ∧ w1.cell? ⟨w.heap.size, 0, none⟩ = some (.int .i64 0) ∧ w1.cell? ⟨w.heap.size, 1, none⟩ = some (.int .i64 0) ∧ w1.cell? ⟨w.heap.size, 2, none⟩ = some (.int .i64 0) ∧ w1.cell? ⟨w.heap.size, 3, none⟩ = some (.int .i64 0) ∧ w1.cell? ⟨w.heap.size + 1, 0, none⟩ = some (.int .i64 (acc L k).a) ∧ w1.cell? ⟨w.heap.size + 1, 1, none⟩ = some (.int .i64 (acc L k).b) ∧ w1.cell? ⟨w.heap.size + 1, 2, none⟩ = some (.int .i64 (acc L k).c) ∧ w1.cell? ⟨w.heap.size + 1, 3, none⟩ = some (.int .i64 (acc L k).d) ∧ w1.frozen? ⟨w.heap.size, 0, none⟩ = false ∧ w1.frozen? ⟨w.heap.size, 1, none⟩ = false ∧ w1.frozen? ⟨w.heap.size, 2, none⟩ = false ∧ w1.frozen? ⟨w.heap.size, 3, none⟩ = false ∧ w1.frozen? ⟨w.heap.size + 1, 0, none⟩ = false ∧ w1.frozen? ⟨w.heap.size + 1, 1, none⟩ = false ∧ w1.frozen? ⟨w.heap.size + 1, 2, none⟩ = false ∧ w1.frozen? ⟨w.heap.size + 1, 3, none⟩ = false := by
          obtain ⟨hc, hf⟩ := bcell hb1
          have hz := hb1.size
          (try simp only [World.size_alloc, World.size_drew, World.size_setCell] at hz)
          (repeat' apply And.intro) <;> (first | omega | (rw [hc _ _ (by first | omega | (simp only [World.size_alloc, World.size_drew, World.size_setCell]; omega))]; first | (simp [go_sem, FW]; done) | (simp [*]; done)) | (rw [hf _ _ (by first | omega | (simp only [World.size_alloc, World.size_drew, World.size_setCell]; omega))]; first | (simp [go_sem, FW]; done) | (simp [*]; done)))
        clear hb1 FW BW c0 c1 c2 c3 hc
      · have hs2 := Lib.hid (show acc L (k + 1) = acc L k by rw [hs.out]; unfold accStep okR4; rw [ok]; rfl)
        clear hs ok
        go_wp2
        go_roundw
        case rel => exact ⟨k + 1, by omega, by go_num, by rw [hs2.out], by rw [hs2.out]; simp [go_sem, F1], by go_grown⟩
        case measure => simp [intOf]; omega
      · cases an : (acc L k).any
        · have hs2 := Lib.hid (show acc L (k + 1) = ⟨true, rlo r.x, rlo r.y, rhi r.x r.w, rhi r.y r.h⟩ by rw [hs.out]; unfold accStep okR4; rw [ok, an]; rfl)
          clear hs ok
          go_wp2
          go_roundw
          case rel =>
            refine ⟨k + 1, by omega, by go_num, by rw [hs2.out]; rfl, ?_, by go_grown⟩
            rw [hs2.out]
            obtain ⟨x1, e1, p0, p1, p2, p3, po, pf, ps⟩ := set4 F1.2.2.2.2.2.2.1 F1.2.2.2.2.2.2.2.1 F1.2.2.2.2.2.2.2.2.1 F1.2.2.2.2.2.2.2.2.2.1 (.int .i64 (rlo r.x)) (.int .i64 (rlo r.y)) (.int .i64 (rhi r.x r.w)) (.int .i64 (rhi r.y r.h))
            rw [← e1]
            obtain ⟨x2, e2, q0, q1, q2, q3, qo, qf, qs⟩ := set4 p0 p1 p2 p3 (.int .i64 (rlo r.x)) (.int .i64 (rlo r.y)) (.int .i64 (rhi r.x r.w)) (.int .i64 (rhi r.y r.h))
            rw [← e2]
            simp [go_sem, q0, q1, q2, q3, qo, qf, qs, po, pf, ps, F1, Nat.lt_succ_of_lt F1.1, Nat.lt_succ_of_lt F1.2.1]
          case measure => simp [intOf]; omega
        · have hs2 := Lib.hid (show acc L (k + 1) = ⟨true, min (acc L k).a (rlo r.x), min (acc L k).b (rlo r.y), max (acc L k).c (rhi r.x r.w), max (acc L k).d (rhi r.y r.h)⟩ by rw [hs.out]; unfold accStep okR4; rw [ok, an]; rfl)
          clear hs ok
          go_wp2
          go_roundw
          case rel =>
            refine ⟨k + 1, by omega, by go_num, by rw [hs2.out]; rfl, ?_, by go_grown⟩
            rw [hs2.out]
            obtain ⟨x1, e1, p0, p1, p2, p3, po, pf, ps⟩ := set4 F1.2.2.2.2.2.2.1 F1.2.2.2.2.2.2.2.1 F1.2.2.2.2.2.2.2.2.1 F1.2.2.2.2.2.2.2.2.2.1 (.int .i64 (min (acc L k).a (rlo r.x))) (.int .i64 (min (acc L k).b (rlo r.y))) (.int .i64 (max (acc L k).c (rhi r.x r.w))) (.int .i64 (max (acc L k).d (rhi r.y r.h)))
            rw [← e1]
            simp [go_sem, p0, p1, p2, p3, po, pf, ps, F1, Nat.lt_succ_of_lt F1.1, Nat.lt_succ_of_lt F1.2.1]
          case measure => simp [intOf]; omega
    · have hkl : k = len := by omega
      subst hkl
      have S0 := BW.size
      have hfin := Lib.hid (show boundR L = mkR (acc L k).a (acc L k).b (acc L k).c (acc L k).d by unfold boundR; rw [HL.out])
      go_wp2_with fail
      refine (rect_rect_any _ _ _ _ _).mono ?_
      rintro e w3 ⟨rfl, hb3⟩
      have B3 : Below w.heap.size w w3 := below_via hb3 BW
      have S3 := B3.size
      have F3 : w.heap.size < w3.heap.size ∧ w.heap.size + 1 < w3.heap.size ∧ w3.cell? ⟨w.heap.size, 0, none⟩ = some (.int .i64 0) ∧ w3.cell? ⟨w.heap.size, 1, none⟩ = some (.int .i64 0) ∧ w3.cell? ⟨w.heap.size, 2, none⟩ = some (.int .i64 0) ∧ w3.cell? ⟨w.heap.size, 3, none⟩ = some (.int .i64 0) ∧ w3.frozen? ⟨w.heap.size, 0, none⟩ = false ∧ w3.frozen? ⟨w.heap.size, 1, none⟩ = false ∧ w3.frozen? ⟨w.heap.size, 2, none⟩ = false ∧ w3.frozen? ⟨w.heap.size, 3, none⟩ = false := by
        obtain ⟨hc, hf⟩ := bcell hb3
        have hz := hb3.size
        (try simp only [World.size_alloc, World.size_drew, World.size_setCell] at hz)
        (repeat' apply And.intro) <;> (first | omega | (rw [hc _ _ (by first | omega | (simp only [World.size_alloc, World.size_drew, World.size_setCell]; omega))]; first | (simp [go_sem, FW]; done) | (simp [*]; done)) | (rw [hf _ _ (by first | omega | (simp only [World.size_alloc, World.size_drew, World.size_setCell]; omega))]; first | (simp [go_sem, FW]; done) | (simp [*]; done)))
      clear hb3 FW BW
      go_wp2
      exact bodyPost_ret (v := .agg #[.int .i64 (mkR (acc L k).a (acc L k).b (acc L k).c (acc L k).d).x, .int .i64 (mkR (acc L k).a (acc L k).b (acc L k).c (acc L k).d).y, .int .i64 (mkR (acc L k).a (acc L k).b (acc L k).c (acc L k).d).w, .int .i64 (mkR (acc L k).a (acc L k).b (acc L k).c (acc L k).d).h]) (by simp [results, Try.results18, go_sem, F3]) rfl ⟨by rw [hfin.out], by go_grown⟩
end Go.Proofs.Ytekcheccelllcaa
