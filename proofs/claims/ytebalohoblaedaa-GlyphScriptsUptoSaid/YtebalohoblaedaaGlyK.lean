/- Layer 13: the reference's Merge. -/
import Derived.Test.YtebalohoblaedaaGlyJ
namespace Go.Proofs.Ytebalohoblaedaa
open Go.RowKit
set_option linter.unusedVariables false
set_option linter.unusedSimpArgs false

set_option maxRecDepth 100000 in
set_option maxHeartbeats 16000000 in
theorem rmerge_any (p : Option Addr) (len cap : Nat) (L : List A4) (w : World) (hL : L.length = len) (hlen : len ≤ 140737488351232) (hp : SlA w p L) : Calls Try.prog 19 #[.slice p len cap] w fun e w' => e = .returned (.agg #[.int .i8 ((mergeA L).u), .int .i8 ((mergeA L).r), .int .i8 ((mergeA L).d), .int .i8 ((mergeA L).l)]) ∧ Below w.heap.size w w' := by
  have Z : RowKit.Hid (mergeA L = macc L len) := Lib.hid (by rw [← hL]; exact (macc_all L).symm)
  generalize mergeA L = z at Z ⊢
  have HC := Lib.hid hp
  have HL := Lib.hid hL
  clear hp hL
  go_enter Try.func19, Try.ntmps19
  go_wp2
  go_loopw [4, 5, 6] (fun i _ _ wr => ∃ k : Nat, k ≤ len ∧ i = .int .i64 k ∧ (w.heap.size < wr.heap.size ∧ w.heap.size + 1 < wr.heap.size ∧ wr.cell? ⟨w.heap.size, 0, none⟩ = some (.int .i8 0) ∧ wr.cell? ⟨w.heap.size, 1, none⟩ = some (.int .i8 0) ∧ wr.cell? ⟨w.heap.size, 2, none⟩ = some (.int .i8 0) ∧ wr.cell? ⟨w.heap.size, 3, none⟩ = some (.int .i8 0) ∧ wr.frozen? ⟨w.heap.size, 0, none⟩ = false ∧ wr.frozen? ⟨w.heap.size, 1, none⟩ = false ∧ wr.frozen? ⟨w.heap.size, 2, none⟩ = false ∧ wr.frozen? ⟨w.heap.size, 3, none⟩ = false ∧ wr.frozen? ⟨w.heap.size + 1, 0, none⟩ = false ∧ wr.frozen? ⟨w.heap.size + 1, 1, none⟩ = false ∧ wr.frozen? ⟨w.heap.size + 1, 2, none⟩ = false ∧ wr.frozen? ⟨w.heap.size + 1, 3, none⟩ = false) ∧ RowKit.Hid (wr.cell? ⟨w.heap.size + 1, 0, none⟩ = some (.int .i8 (macc L k).u) ∧ wr.cell? ⟨w.heap.size + 1, 1, none⟩ = some (.int .i8 (macc L k).r) ∧ wr.cell? ⟨w.heap.size + 1, 2, none⟩ = some (.int .i8 (macc L k).d) ∧ wr.cell? ⟨w.heap.size + 1, 3, none⟩ = some (.int .i8 (macc L k).l)) ∧ Below w.heap.size w wr) (fun i _ _ _ => len - (intOf i).toNat)
  case atStart => exact ⟨0, by omega, rfl, by simp [go_sem], Lib.hid (by simp [go_sem, macc, zA]), by go_grown⟩
  case round =>
    rename_i wr
    obtain ⟨m, hm, rfl, hsz, hcs, BW⟩ := hrel
    by_cases hlt : m < len
    · obtain ⟨b, off, rfl, hbw, hcl⟩ := HC.out (by rw [HL.out]; omega)
      obtain ⟨l0, l1, l2, l3⟩ := (hcl.later BW hbw) m (by rw [HL.out]; exact hlt)
      have EM := Lib.hid (macc_succ L m (by rw [HL.out]; exact hlt))
      generalize L.getD m zA = a at l0 l1 l2 l3 EM
      generalize macc L m = o at EM hcs
      obtain ⟨a0, a1, a2, a3⟩ := a
      simp only [] at l0 l1 l2 l3
      clear hcl
      go_wp2_with fail
      refine (rcounted_any _ _ _ _ _).mono ?_
      rintro e w1 ⟨rfl, hb⟩
      have B1 : Below w.heap.size w w1 := below_via hb (show Below w.heap.size w _ by go_grown)
      have hsz1 : (w.heap.size < w1.heap.size ∧ w.heap.size + 1 < w1.heap.size ∧ w1.cell? ⟨w.heap.size, 0, none⟩ = some (.int .i8 0) ∧ w1.cell? ⟨w.heap.size, 1, none⟩ = some (.int .i8 0) ∧ w1.cell? ⟨w.heap.size, 2, none⟩ = some (.int .i8 0) ∧ w1.cell? ⟨w.heap.size, 3, none⟩ = some (.int .i8 0) ∧ w1.frozen? ⟨w.heap.size, 0, none⟩ = false ∧ w1.frozen? ⟨w.heap.size, 1, none⟩ = false ∧ w1.frozen? ⟨w.heap.size, 2, none⟩ = false ∧ w1.frozen? ⟨w.heap.size, 3, none⟩ = false ∧ w1.frozen? ⟨w.heap.size + 1, 0, none⟩ = false ∧ w1.frozen? ⟨w.heap.size + 1, 1, none⟩ = false ∧ w1.frozen? ⟨w.heap.size + 1, 2, none⟩ = false ∧ w1.frozen? ⟨w.heap.size + 1, 3, none⟩ = false) := by
        obtain ⟨hc, hf⟩ := bcell hb
        have hz := hb.size
        (try simp only [World.size_alloc] at hz)
        refine ⟨by omega, by omega, ?_⟩
        (repeat' apply And.intro) <;> first | (rw [hc _ _ (by omega)]; simp [go_sem, hsz]; done) | (rw [hf _ _ (by omega)]; simp [go_sem, hsz]; done)
      have hcs1 : RowKit.Hid (w1.cell? ⟨w.heap.size + 1, 0, none⟩ = some (.int .i8 (o).u) ∧ w1.cell? ⟨w.heap.size + 1, 1, none⟩ = some (.int .i8 (o).r) ∧ w1.cell? ⟨w.heap.size + 1, 2, none⟩ = some (.int .i8 (o).d) ∧ w1.cell? ⟨w.heap.size + 1, 3, none⟩ = some (.int .i8 (o).l)) := by
        obtain ⟨hc, hf⟩ := bcell hb
        have hcs' := hcs.out
        refine Lib.hid ⟨?_, ?_, ?_, ?_⟩ <;> (rw [hc _ _ (by omega)]; simp [go_sem, hcs', hsz])
      clear hb hsz hcs l0 l1 l2 l3 BW
      have EM2 : RowKit.Hid (macc L (m + 1) = it (mst ⟨cnt a0, cnt a1, cnt a2, cnt a3⟩) o 4) := EM
      clear EM
      generalize cnt a0 = x0 at EM2 ⊢
      generalize cnt a1 = x1 at EM2 ⊢
      generalize cnt a2 = x2 at EM2 ⊢
      generalize cnt a3 = x3 at EM2 ⊢
      go_wp2
      obtain ⟨g, hg⟩ : ∃ g, g = w1.heap.size := ⟨_, rfl⟩
      have hcs1' := hcs1.out
      go_loopw [6] (fun i wr2 => ∃ k : Nat, k ≤ 4 ∧ i = .int .i64 k ∧ (w.heap.size < wr2.heap.size ∧ w.heap.size + 1 < wr2.heap.size ∧ wr2.cell? ⟨w.heap.size, 0, none⟩ = some (.int .i8 0) ∧ wr2.cell? ⟨w.heap.size, 1, none⟩ = some (.int .i8 0) ∧ wr2.cell? ⟨w.heap.size, 2, none⟩ = some (.int .i8 0) ∧ wr2.cell? ⟨w.heap.size, 3, none⟩ = some (.int .i8 0) ∧ wr2.frozen? ⟨w.heap.size, 0, none⟩ = false ∧ wr2.frozen? ⟨w.heap.size, 1, none⟩ = false ∧ wr2.frozen? ⟨w.heap.size, 2, none⟩ = false ∧ wr2.frozen? ⟨w.heap.size, 3, none⟩ = false ∧ wr2.frozen? ⟨w.heap.size + 1, 0, none⟩ = false ∧ wr2.frozen? ⟨w.heap.size + 1, 1, none⟩ = false ∧ wr2.frozen? ⟨w.heap.size + 1, 2, none⟩ = false ∧ wr2.frozen? ⟨w.heap.size + 1, 3, none⟩ = false) ∧ (w1.heap.size < wr2.heap.size ∧ w.heap.size + 1 < w1.heap.size ∧ wr2.cell? ⟨w1.heap.size, 0, none⟩ = some (.int .i8 x0) ∧ wr2.cell? ⟨w1.heap.size, 1, none⟩ = some (.int .i8 x1) ∧ wr2.cell? ⟨w1.heap.size, 2, none⟩ = some (.int .i8 x2) ∧ wr2.cell? ⟨w1.heap.size, 3, none⟩ = some (.int .i8 x3)) ∧ RowKit.Hid (wr2.cell? ⟨w.heap.size + 1, 0, none⟩ = some (.int .i8 (it (mst ⟨x0, x1, x2, x3⟩) o k).u) ∧ wr2.cell? ⟨w.heap.size + 1, 1, none⟩ = some (.int .i8 (it (mst ⟨x0, x1, x2, x3⟩) o k).r) ∧ wr2.cell? ⟨w.heap.size + 1, 2, none⟩ = some (.int .i8 (it (mst ⟨x0, x1, x2, x3⟩) o k).d) ∧ wr2.cell? ⟨w.heap.size + 1, 3, none⟩ = some (.int .i8 (it (mst ⟨x0, x1, x2, x3⟩) o k).l)) ∧ Below w.heap.size w wr2) (fun i _ => 4 - (intOf i).toNat)
      case atStart => exact ⟨0, by omega, rfl, by (simp [go_sem, hsz1] <;> omega), by (simp [go_sem, hsz1] <;> omega), Lib.hid (by simp [go_sem, hsz1, hcs1', it]), by go_grown⟩
      case round =>
        clear hsz1 hcs1 hcs1' B1
        obtain ⟨k, hk, rfl, hsz, hgx, hcs, BW⟩ := hrel
        by_cases hlt : k < 4
        · have E : RowKit.Hid (it (mst ⟨x0, x1, x2, x3⟩) o (k + 1) = mst ⟨x0, x1, x2, x3⟩ (it (mst ⟨x0, x1, x2, x3⟩) o k) k) := Lib.hid rfl
          clear EM2
          generalize it (mst ⟨x0, x1, x2, x3⟩) o k = s at E hcs
          obtain ⟨s0, s1, s2, s3⟩ := s
          rcases (show k = 0 ∨ k = 1 ∨ k = 2 ∨ k = 3 by omega) with rfl | rfl | rfl | rfl
          · have hcs' := hcs.out
            simp only [] at hcs'
            clear hcs
            by_cases hr : rnk s0 < rnk x0
            · have E2 : RowKit.Hid (it (mst ⟨x0, x1, x2, x3⟩) o 1 = (⟨x0, s1, s2, s3⟩ : A4)) := Lib.hid (by rw [E.out]; simp [mst, A4.get, A4.put, hr])
              have hd : decide (rnk s0 < rnk x0) = true := by simp [hr]
              clear E hr
              have F0 : w.heap.size < wr.heap.size ∧ w.heap.size + 1 < wr.heap.size ∧ w1.heap.size < wr.heap.size ∧ wr.cell? ⟨w.heap.size, 0, none⟩ = some (.int .i8 0) ∧ wr.cell? ⟨w.heap.size, 1, none⟩ = some (.int .i8 0) ∧ wr.cell? ⟨w.heap.size, 2, none⟩ = some (.int .i8 0) ∧ wr.cell? ⟨w.heap.size, 3, none⟩ = some (.int .i8 0) ∧ wr.frozen? ⟨w.heap.size, 0, none⟩ = false ∧ wr.frozen? ⟨w.heap.size, 1, none⟩ = false ∧ wr.frozen? ⟨w.heap.size, 2, none⟩ = false ∧ wr.frozen? ⟨w.heap.size, 3, none⟩ = false ∧ wr.frozen? ⟨w.heap.size + 1, 0, none⟩ = false ∧ wr.frozen? ⟨w.heap.size + 1, 1, none⟩ = false ∧ wr.frozen? ⟨w.heap.size + 1, 2, none⟩ = false ∧ wr.frozen? ⟨w.heap.size + 1, 3, none⟩ = false ∧ wr.cell? ⟨w.heap.size + 1, 0, none⟩ = some (.int .i8 s0) ∧ wr.cell? ⟨w.heap.size + 1, 1, none⟩ = some (.int .i8 s1) ∧ wr.cell? ⟨w.heap.size + 1, 2, none⟩ = some (.int .i8 s2) ∧ wr.cell? ⟨w.heap.size + 1, 3, none⟩ = some (.int .i8 s3) ∧ wr.cell? ⟨w1.heap.size, 0, none⟩ = some (.int .i8 x0) ∧ wr.cell? ⟨w1.heap.size, 1, none⟩ = some (.int .i8 x1) ∧ wr.cell? ⟨w1.heap.size, 2, none⟩ = some (.int .i8 x2) ∧ wr.cell? ⟨w1.heap.size, 3, none⟩ = some (.int .i8 x3) := by simp [hsz, hcs', hgx]
              clear hsz hcs'
              have gl := hgx.2.1
              clear hgx
              go_wp2_with fail
              go_region_held3 (fun w' => w.heap.size < w'.heap.size ∧ w.heap.size + 1 < w'.heap.size ∧ w1.heap.size < w'.heap.size ∧ w'.cell? ⟨w.heap.size, 0, none⟩ = some (.int .i8 0) ∧ w'.cell? ⟨w.heap.size, 1, none⟩ = some (.int .i8 0) ∧ w'.cell? ⟨w.heap.size, 2, none⟩ = some (.int .i8 0) ∧ w'.cell? ⟨w.heap.size, 3, none⟩ = some (.int .i8 0) ∧ w'.frozen? ⟨w.heap.size, 0, none⟩ = false ∧ w'.frozen? ⟨w.heap.size, 1, none⟩ = false ∧ w'.frozen? ⟨w.heap.size, 2, none⟩ = false ∧ w'.frozen? ⟨w.heap.size, 3, none⟩ = false ∧ w'.frozen? ⟨w.heap.size + 1, 0, none⟩ = false ∧ w'.frozen? ⟨w.heap.size + 1, 1, none⟩ = false ∧ w'.frozen? ⟨w.heap.size + 1, 2, none⟩ = false ∧ w'.frozen? ⟨w.heap.size + 1, 3, none⟩ = false ∧ w'.cell? ⟨w.heap.size + 1, 0, none⟩ = some (.int .i8 s0) ∧ w'.cell? ⟨w.heap.size + 1, 1, none⟩ = some (.int .i8 s1) ∧ w'.cell? ⟨w.heap.size + 1, 2, none⟩ = some (.int .i8 s2) ∧ w'.cell? ⟨w.heap.size + 1, 3, none⟩ = some (.int .i8 s3) ∧ w'.cell? ⟨w1.heap.size, 0, none⟩ = some (.int .i8 x0) ∧ w'.cell? ⟨w1.heap.size, 1, none⟩ = some (.int .i8 x1) ∧ w'.cell? ⟨w1.heap.size, 2, none⟩ = some (.int .i8 x2) ∧ w'.cell? ⟨w1.heap.size, 3, none⟩ = some (.int .i8 x3)) (first | (simp [go_sem, F0]; done) | (go_split_ands; refine ⟨by omega, by omega, by omega, ?_⟩; ((repeat' apply And.intro) <;> (first | (rw [hc _ _ (by omega)]; assumption) | (rw [hf _ _ (by omega)]; assumption))))) (first | (go_at_call 41; refine (strength_any _ _).mono ?_; rintro e w9 ⟨rfl, hb⟩; obtain ⟨hc, hf⟩ := bcell hb; have hz := hb.size))
              all_goals
                have B9 : Below w.heap.size w w9 := below_via hb (below_via (by assumption) (Below.drew BW))
                rename_i hHeld
                clear hb hc hf F0
                go_wp2_with fail
                go_roundw
                case rel =>
                  refine ⟨1, by omega, by first | rfl | go_num, by simp [go_sem, hHeld], by (simp [go_sem, hHeld] <;> omega), Lib.hid (by rw [E2.out]; simp [go_sem, hHeld]), by go_grown⟩
                case measure => simp [intOf]
            · have E2 : RowKit.Hid (it (mst ⟨x0, x1, x2, x3⟩) o 1 = (⟨s0, s1, s2, s3⟩ : A4)) := Lib.hid (by rw [E.out]; simp [mst, A4.get, A4.put, hr])
              have hd : decide (rnk s0 < rnk x0) = false := by simp; omega
              clear E hr
              have F0 : w.heap.size < wr.heap.size ∧ w.heap.size + 1 < wr.heap.size ∧ w1.heap.size < wr.heap.size ∧ wr.cell? ⟨w.heap.size, 0, none⟩ = some (.int .i8 0) ∧ wr.cell? ⟨w.heap.size, 1, none⟩ = some (.int .i8 0) ∧ wr.cell? ⟨w.heap.size, 2, none⟩ = some (.int .i8 0) ∧ wr.cell? ⟨w.heap.size, 3, none⟩ = some (.int .i8 0) ∧ wr.frozen? ⟨w.heap.size, 0, none⟩ = false ∧ wr.frozen? ⟨w.heap.size, 1, none⟩ = false ∧ wr.frozen? ⟨w.heap.size, 2, none⟩ = false ∧ wr.frozen? ⟨w.heap.size, 3, none⟩ = false ∧ wr.frozen? ⟨w.heap.size + 1, 0, none⟩ = false ∧ wr.frozen? ⟨w.heap.size + 1, 1, none⟩ = false ∧ wr.frozen? ⟨w.heap.size + 1, 2, none⟩ = false ∧ wr.frozen? ⟨w.heap.size + 1, 3, none⟩ = false ∧ wr.cell? ⟨w.heap.size + 1, 0, none⟩ = some (.int .i8 s0) ∧ wr.cell? ⟨w.heap.size + 1, 1, none⟩ = some (.int .i8 s1) ∧ wr.cell? ⟨w.heap.size + 1, 2, none⟩ = some (.int .i8 s2) ∧ wr.cell? ⟨w.heap.size + 1, 3, none⟩ = some (.int .i8 s3) ∧ wr.cell? ⟨w1.heap.size, 0, none⟩ = some (.int .i8 x0) ∧ wr.cell? ⟨w1.heap.size, 1, none⟩ = some (.int .i8 x1) ∧ wr.cell? ⟨w1.heap.size, 2, none⟩ = some (.int .i8 x2) ∧ wr.cell? ⟨w1.heap.size, 3, none⟩ = some (.int .i8 x3) := by simp [hsz, hcs', hgx]
              clear hsz hcs'
              have gl := hgx.2.1
              clear hgx
              go_wp2_with fail
              go_region_held3 (fun w' => w.heap.size < w'.heap.size ∧ w.heap.size + 1 < w'.heap.size ∧ w1.heap.size < w'.heap.size ∧ w'.cell? ⟨w.heap.size, 0, none⟩ = some (.int .i8 0) ∧ w'.cell? ⟨w.heap.size, 1, none⟩ = some (.int .i8 0) ∧ w'.cell? ⟨w.heap.size, 2, none⟩ = some (.int .i8 0) ∧ w'.cell? ⟨w.heap.size, 3, none⟩ = some (.int .i8 0) ∧ w'.frozen? ⟨w.heap.size, 0, none⟩ = false ∧ w'.frozen? ⟨w.heap.size, 1, none⟩ = false ∧ w'.frozen? ⟨w.heap.size, 2, none⟩ = false ∧ w'.frozen? ⟨w.heap.size, 3, none⟩ = false ∧ w'.frozen? ⟨w.heap.size + 1, 0, none⟩ = false ∧ w'.frozen? ⟨w.heap.size + 1, 1, none⟩ = false ∧ w'.frozen? ⟨w.heap.size + 1, 2, none⟩ = false ∧ w'.frozen? ⟨w.heap.size + 1, 3, none⟩ = false ∧ w'.cell? ⟨w.heap.size + 1, 0, none⟩ = some (.int .i8 s0) ∧ w'.cell? ⟨w.heap.size + 1, 1, none⟩ = some (.int .i8 s1) ∧ w'.cell? ⟨w.heap.size + 1, 2, none⟩ = some (.int .i8 s2) ∧ w'.cell? ⟨w.heap.size + 1, 3, none⟩ = some (.int .i8 s3) ∧ w'.cell? ⟨w1.heap.size, 0, none⟩ = some (.int .i8 x0) ∧ w'.cell? ⟨w1.heap.size, 1, none⟩ = some (.int .i8 x1) ∧ w'.cell? ⟨w1.heap.size, 2, none⟩ = some (.int .i8 x2) ∧ w'.cell? ⟨w1.heap.size, 3, none⟩ = some (.int .i8 x3)) (first | (simp [go_sem, F0]; done) | (go_split_ands; refine ⟨by omega, by omega, by omega, ?_⟩; ((repeat' apply And.intro) <;> (first | (rw [hc _ _ (by omega)]; assumption) | (rw [hf _ _ (by omega)]; assumption))))) (first | (go_at_call 41; refine (strength_any _ _).mono ?_; rintro e w9 ⟨rfl, hb⟩; obtain ⟨hc, hf⟩ := bcell hb; have hz := hb.size))
              all_goals
                have B9 : Below w.heap.size w w9 := below_via hb (below_via (by assumption) (Below.drew BW))
                rename_i hHeld
                clear hb hc hf F0
                go_wp2_with fail
                go_roundw
                case rel =>
                  refine ⟨1, by omega, by first | rfl | go_num, by simp [go_sem, hHeld], by (simp [go_sem, hHeld] <;> omega), Lib.hid (by rw [E2.out]; simp [go_sem, hHeld]), by go_grown⟩
                case measure => simp [intOf]
          · have hcs' := hcs.out
            simp only [] at hcs'
            clear hcs
            by_cases hr : rnk s1 < rnk x1
            · have E2 : RowKit.Hid (it (mst ⟨x0, x1, x2, x3⟩) o 2 = (⟨s0, x1, s2, s3⟩ : A4)) := Lib.hid (by rw [E.out]; simp [mst, A4.get, A4.put, hr])
              have hd : decide (rnk s1 < rnk x1) = true := by simp [hr]
              clear E hr
              have F0 : w.heap.size < wr.heap.size ∧ w.heap.size + 1 < wr.heap.size ∧ w1.heap.size < wr.heap.size ∧ wr.cell? ⟨w.heap.size, 0, none⟩ = some (.int .i8 0) ∧ wr.cell? ⟨w.heap.size, 1, none⟩ = some (.int .i8 0) ∧ wr.cell? ⟨w.heap.size, 2, none⟩ = some (.int .i8 0) ∧ wr.cell? ⟨w.heap.size, 3, none⟩ = some (.int .i8 0) ∧ wr.frozen? ⟨w.heap.size, 0, none⟩ = false ∧ wr.frozen? ⟨w.heap.size, 1, none⟩ = false ∧ wr.frozen? ⟨w.heap.size, 2, none⟩ = false ∧ wr.frozen? ⟨w.heap.size, 3, none⟩ = false ∧ wr.frozen? ⟨w.heap.size + 1, 0, none⟩ = false ∧ wr.frozen? ⟨w.heap.size + 1, 1, none⟩ = false ∧ wr.frozen? ⟨w.heap.size + 1, 2, none⟩ = false ∧ wr.frozen? ⟨w.heap.size + 1, 3, none⟩ = false ∧ wr.cell? ⟨w.heap.size + 1, 0, none⟩ = some (.int .i8 s0) ∧ wr.cell? ⟨w.heap.size + 1, 1, none⟩ = some (.int .i8 s1) ∧ wr.cell? ⟨w.heap.size + 1, 2, none⟩ = some (.int .i8 s2) ∧ wr.cell? ⟨w.heap.size + 1, 3, none⟩ = some (.int .i8 s3) ∧ wr.cell? ⟨w1.heap.size, 0, none⟩ = some (.int .i8 x0) ∧ wr.cell? ⟨w1.heap.size, 1, none⟩ = some (.int .i8 x1) ∧ wr.cell? ⟨w1.heap.size, 2, none⟩ = some (.int .i8 x2) ∧ wr.cell? ⟨w1.heap.size, 3, none⟩ = some (.int .i8 x3) := by simp [hsz, hcs', hgx]
              clear hsz hcs'
              have gl := hgx.2.1
              clear hgx
              go_wp2_with fail
              go_region_held3 (fun w' => w.heap.size < w'.heap.size ∧ w.heap.size + 1 < w'.heap.size ∧ w1.heap.size < w'.heap.size ∧ w'.cell? ⟨w.heap.size, 0, none⟩ = some (.int .i8 0) ∧ w'.cell? ⟨w.heap.size, 1, none⟩ = some (.int .i8 0) ∧ w'.cell? ⟨w.heap.size, 2, none⟩ = some (.int .i8 0) ∧ w'.cell? ⟨w.heap.size, 3, none⟩ = some (.int .i8 0) ∧ w'.frozen? ⟨w.heap.size, 0, none⟩ = false ∧ w'.frozen? ⟨w.heap.size, 1, none⟩ = false ∧ w'.frozen? ⟨w.heap.size, 2, none⟩ = false ∧ w'.frozen? ⟨w.heap.size, 3, none⟩ = false ∧ w'.frozen? ⟨w.heap.size + 1, 0, none⟩ = false ∧ w'.frozen? ⟨w.heap.size + 1, 1, none⟩ = false ∧ w'.frozen? ⟨w.heap.size + 1, 2, none⟩ = false ∧ w'.frozen? ⟨w.heap.size + 1, 3, none⟩ = false ∧ w'.cell? ⟨w.heap.size + 1, 0, none⟩ = some (.int .i8 s0) ∧ w'.cell? ⟨w.heap.size + 1, 1, none⟩ = some (.int .i8 s1) ∧ w'.cell? ⟨w.heap.size + 1, 2, none⟩ = some (.int .i8 s2) ∧ w'.cell? ⟨w.heap.size + 1, 3, none⟩ = some (.int .i8 s3) ∧ w'.cell? ⟨w1.heap.size, 0, none⟩ = some (.int .i8 x0) ∧ w'.cell? ⟨w1.heap.size, 1, none⟩ = some (.int .i8 x1) ∧ w'.cell? ⟨w1.heap.size, 2, none⟩ = some (.int .i8 x2) ∧ w'.cell? ⟨w1.heap.size, 3, none⟩ = some (.int .i8 x3)) (first | (simp [go_sem, F0]; done) | (go_split_ands; refine ⟨by omega, by omega, by omega, ?_⟩; ((repeat' apply And.intro) <;> (first | (rw [hc _ _ (by omega)]; assumption) | (rw [hf _ _ (by omega)]; assumption))))) (first | (go_at_call 41; refine (strength_any _ _).mono ?_; rintro e w9 ⟨rfl, hb⟩; obtain ⟨hc, hf⟩ := bcell hb; have hz := hb.size))
              all_goals
                have B9 : Below w.heap.size w w9 := below_via hb (below_via (by assumption) (Below.drew BW))
                rename_i hHeld
                clear hb hc hf F0
                go_wp2_with fail
                go_roundw
                case rel =>
                  refine ⟨2, by omega, by first | rfl | go_num, by simp [go_sem, hHeld], by (simp [go_sem, hHeld] <;> omega), Lib.hid (by rw [E2.out]; simp [go_sem, hHeld]), by go_grown⟩
                case measure => simp [intOf]
            · have E2 : RowKit.Hid (it (mst ⟨x0, x1, x2, x3⟩) o 2 = (⟨s0, s1, s2, s3⟩ : A4)) := Lib.hid (by rw [E.out]; simp [mst, A4.get, A4.put, hr])
              have hd : decide (rnk s1 < rnk x1) = false := by simp; omega
              clear E hr
              have F0 : w.heap.size < wr.heap.size ∧ w.heap.size + 1 < wr.heap.size ∧ w1.heap.size < wr.heap.size ∧ wr.cell? ⟨w.heap.size, 0, none⟩ = some (.int .i8 0) ∧ wr.cell? ⟨w.heap.size, 1, none⟩ = some (.int .i8 0) ∧ wr.cell? ⟨w.heap.size, 2, none⟩ = some (.int .i8 0) ∧ wr.cell? ⟨w.heap.size, 3, none⟩ = some (.int .i8 0) ∧ wr.frozen? ⟨w.heap.size, 0, none⟩ = false ∧ wr.frozen? ⟨w.heap.size, 1, none⟩ = false ∧ wr.frozen? ⟨w.heap.size, 2, none⟩ = false ∧ wr.frozen? ⟨w.heap.size, 3, none⟩ = false ∧ wr.frozen? ⟨w.heap.size + 1, 0, none⟩ = false ∧ wr.frozen? ⟨w.heap.size + 1, 1, none⟩ = false ∧ wr.frozen? ⟨w.heap.size + 1, 2, none⟩ = false ∧ wr.frozen? ⟨w.heap.size + 1, 3, none⟩ = false ∧ wr.cell? ⟨w.heap.size + 1, 0, none⟩ = some (.int .i8 s0) ∧ wr.cell? ⟨w.heap.size + 1, 1, none⟩ = some (.int .i8 s1) ∧ wr.cell? ⟨w.heap.size + 1, 2, none⟩ = some (.int .i8 s2) ∧ wr.cell? ⟨w.heap.size + 1, 3, none⟩ = some (.int .i8 s3) ∧ wr.cell? ⟨w1.heap.size, 0, none⟩ = some (.int .i8 x0) ∧ wr.cell? ⟨w1.heap.size, 1, none⟩ = some (.int .i8 x1) ∧ wr.cell? ⟨w1.heap.size, 2, none⟩ = some (.int .i8 x2) ∧ wr.cell? ⟨w1.heap.size, 3, none⟩ = some (.int .i8 x3) := by simp [hsz, hcs', hgx]
              clear hsz hcs'
              have gl := hgx.2.1
              clear hgx
              go_wp2_with fail
              go_region_held3 (fun w' => w.heap.size < w'.heap.size ∧ w.heap.size + 1 < w'.heap.size ∧ w1.heap.size < w'.heap.size ∧ w'.cell? ⟨w.heap.size, 0, none⟩ = some (.int .i8 0) ∧ w'.cell? ⟨w.heap.size, 1, none⟩ = some (.int .i8 0) ∧ w'.cell? ⟨w.heap.size, 2, none⟩ = some (.int .i8 0) ∧ w'.cell? ⟨w.heap.size, 3, none⟩ = some (.int .i8 0) ∧ w'.frozen? ⟨w.heap.size, 0, none⟩ = false ∧ w'.frozen? ⟨w.heap.size, 1, none⟩ = false ∧ w'.frozen? ⟨w.heap.size, 2, none⟩ = false ∧ w'.frozen? ⟨w.heap.size, 3, none⟩ = false ∧ w'.frozen? ⟨w.heap.size + 1, 0, none⟩ = false ∧ w'.frozen? ⟨w.heap.size + 1, 1, none⟩ = false ∧ w'.frozen? ⟨w.heap.size + 1, 2, none⟩ = false ∧ w'.frozen? ⟨w.heap.size + 1, 3, none⟩ = false ∧ w'.cell? ⟨w.heap.size + 1, 0, none⟩ = some (.int .i8 s0) ∧ w'.cell? ⟨w.heap.size + 1, 1, none⟩ = some (.int .i8 s1) ∧ w'.cell? ⟨w.heap.size + 1, 2, none⟩ = some (.int .i8 s2) ∧ w'.cell? ⟨w.heap.size + 1, 3, none⟩ = some (.int .i8 s3) ∧ w'.cell? ⟨w1.heap.size, 0, none⟩ = some (.int .i8 x0) ∧ w'.cell? ⟨w1.heap.size, 1, none⟩ = some (.int .i8 x1) ∧ w'.cell? ⟨w1.heap.size, 2, none⟩ = some (.int .i8 x2) ∧ w'.cell? ⟨w1.heap.size, 3, none⟩ = some (.int .i8 x3)) (first | (simp [go_sem, F0]; done) | (go_split_ands; refine ⟨by omega, by omega, by omega, ?_⟩; ((repeat' apply And.intro) <;> (first | (rw [hc _ _ (by omega)]; assumption) | (rw [hf _ _ (by omega)]; assumption))))) (first | (go_at_call 41; refine (strength_any _ _).mono ?_; rintro e w9 ⟨rfl, hb⟩; obtain ⟨hc, hf⟩ := bcell hb; have hz := hb.size))
              all_goals
                have B9 : Below w.heap.size w w9 := below_via hb (below_via (by assumption) (Below.drew BW))
                rename_i hHeld
                clear hb hc hf F0
                go_wp2_with fail
                go_roundw
                case rel =>
                  refine ⟨2, by omega, by first | rfl | go_num, by simp [go_sem, hHeld], by (simp [go_sem, hHeld] <;> omega), Lib.hid (by rw [E2.out]; simp [go_sem, hHeld]), by go_grown⟩
                case measure => simp [intOf]
          · have hcs' := hcs.out
            simp only [] at hcs'
            clear hcs
            by_cases hr : rnk s2 < rnk x2
            · have E2 : RowKit.Hid (it (mst ⟨x0, x1, x2, x3⟩) o 3 = (⟨s0, s1, x2, s3⟩ : A4)) := Lib.hid (by rw [E.out]; simp [mst, A4.get, A4.put, hr])
              have hd : decide (rnk s2 < rnk x2) = true := by simp [hr]
              clear E hr
              have F0 : w.heap.size < wr.heap.size ∧ w.heap.size + 1 < wr.heap.size ∧ w1.heap.size < wr.heap.size ∧ wr.cell? ⟨w.heap.size, 0, none⟩ = some (.int .i8 0) ∧ wr.cell? ⟨w.heap.size, 1, none⟩ = some (.int .i8 0) ∧ wr.cell? ⟨w.heap.size, 2, none⟩ = some (.int .i8 0) ∧ wr.cell? ⟨w.heap.size, 3, none⟩ = some (.int .i8 0) ∧ wr.frozen? ⟨w.heap.size, 0, none⟩ = false ∧ wr.frozen? ⟨w.heap.size, 1, none⟩ = false ∧ wr.frozen? ⟨w.heap.size, 2, none⟩ = false ∧ wr.frozen? ⟨w.heap.size, 3, none⟩ = false ∧ wr.frozen? ⟨w.heap.size + 1, 0, none⟩ = false ∧ wr.frozen? ⟨w.heap.size + 1, 1, none⟩ = false ∧ wr.frozen? ⟨w.heap.size + 1, 2, none⟩ = false ∧ wr.frozen? ⟨w.heap.size + 1, 3, none⟩ = false ∧ wr.cell? ⟨w.heap.size + 1, 0, none⟩ = some (.int .i8 s0) ∧ wr.cell? ⟨w.heap.size + 1, 1, none⟩ = some (.int .i8 s1) ∧ wr.cell? ⟨w.heap.size + 1, 2, none⟩ = some (.int .i8 s2) ∧ wr.cell? ⟨w.heap.size + 1, 3, none⟩ = some (.int .i8 s3) ∧ wr.cell? ⟨w1.heap.size, 0, none⟩ = some (.int .i8 x0) ∧ wr.cell? ⟨w1.heap.size, 1, none⟩ = some (.int .i8 x1) ∧ wr.cell? ⟨w1.heap.size, 2, none⟩ = some (.int .i8 x2) ∧ wr.cell? ⟨w1.heap.size, 3, none⟩ = some (.int .i8 x3) := by simp [hsz, hcs', hgx]
              clear hsz hcs'
              have gl := hgx.2.1
              clear hgx
              go_wp2_with fail
              go_region_held3 (fun w' => w.heap.size < w'.heap.size ∧ w.heap.size + 1 < w'.heap.size ∧ w1.heap.size < w'.heap.size ∧ w'.cell? ⟨w.heap.size, 0, none⟩ = some (.int .i8 0) ∧ w'.cell? ⟨w.heap.size, 1, none⟩ = some (.int .i8 0) ∧ w'.cell? ⟨w.heap.size, 2, none⟩ = some (.int .i8 0) ∧ w'.cell? ⟨w.heap.size, 3, none⟩ = some (.int .i8 0) ∧ w'.frozen? ⟨w.heap.size, 0, none⟩ = false ∧ w'.frozen? ⟨w.heap.size, 1, none⟩ = false ∧ w'.frozen? ⟨w.heap.size, 2, none⟩ = false ∧ w'.frozen? ⟨w.heap.size, 3, none⟩ = false ∧ w'.frozen? ⟨w.heap.size + 1, 0, none⟩ = false ∧ w'.frozen? ⟨w.heap.size + 1, 1, none⟩ = false ∧ w'.frozen? ⟨w.heap.size + 1, 2, none⟩ = false ∧ w'.frozen? ⟨w.heap.size + 1, 3, none⟩ = false ∧ w'.cell? ⟨w.heap.size + 1, 0, none⟩ = some (.int .i8 s0) ∧ w'.cell? ⟨w.heap.size + 1, 1, none⟩ = some (.int .i8 s1) ∧ w'.cell? ⟨w.heap.size + 1, 2, none⟩ = some (.int .i8 s2) ∧ w'.cell? ⟨w.heap.size + 1, 3, none⟩ = some (.int .i8 s3) ∧ w'.cell? ⟨w1.heap.size, 0, none⟩ = some (.int .i8 x0) ∧ w'.cell? ⟨w1.heap.size, 1, none⟩ = some (.int .i8 x1) ∧ w'.cell? ⟨w1.heap.size, 2, none⟩ = some (.int .i8 x2) ∧ w'.cell? ⟨w1.heap.size, 3, none⟩ = some (.int .i8 x3)) (first | (simp [go_sem, F0]; done) | (go_split_ands; refine ⟨by omega, by omega, by omega, ?_⟩; ((repeat' apply And.intro) <;> (first | (rw [hc _ _ (by omega)]; assumption) | (rw [hf _ _ (by omega)]; assumption))))) (first | (go_at_call 41; refine (strength_any _ _).mono ?_; rintro e w9 ⟨rfl, hb⟩; obtain ⟨hc, hf⟩ := bcell hb; have hz := hb.size))
              all_goals
                have B9 : Below w.heap.size w w9 := below_via hb (below_via (by assumption) (Below.drew BW))
                rename_i hHeld
                clear hb hc hf F0
                go_wp2_with fail
                go_roundw
                case rel =>
                  refine ⟨3, by omega, by first | rfl | go_num, by simp [go_sem, hHeld], by (simp [go_sem, hHeld] <;> omega), Lib.hid (by rw [E2.out]; simp [go_sem, hHeld]), by go_grown⟩
                case measure => simp [intOf]
            · have E2 : RowKit.Hid (it (mst ⟨x0, x1, x2, x3⟩) o 3 = (⟨s0, s1, s2, s3⟩ : A4)) := Lib.hid (by rw [E.out]; simp [mst, A4.get, A4.put, hr])
              have hd : decide (rnk s2 < rnk x2) = false := by simp; omega
              clear E hr
              have F0 : w.heap.size < wr.heap.size ∧ w.heap.size + 1 < wr.heap.size ∧ w1.heap.size < wr.heap.size ∧ wr.cell? ⟨w.heap.size, 0, none⟩ = some (.int .i8 0) ∧ wr.cell? ⟨w.heap.size, 1, none⟩ = some (.int .i8 0) ∧ wr.cell? ⟨w.heap.size, 2, none⟩ = some (.int .i8 0) ∧ wr.cell? ⟨w.heap.size, 3, none⟩ = some (.int .i8 0) ∧ wr.frozen? ⟨w.heap.size, 0, none⟩ = false ∧ wr.frozen? ⟨w.heap.size, 1, none⟩ = false ∧ wr.frozen? ⟨w.heap.size, 2, none⟩ = false ∧ wr.frozen? ⟨w.heap.size, 3, none⟩ = false ∧ wr.frozen? ⟨w.heap.size + 1, 0, none⟩ = false ∧ wr.frozen? ⟨w.heap.size + 1, 1, none⟩ = false ∧ wr.frozen? ⟨w.heap.size + 1, 2, none⟩ = false ∧ wr.frozen? ⟨w.heap.size + 1, 3, none⟩ = false ∧ wr.cell? ⟨w.heap.size + 1, 0, none⟩ = some (.int .i8 s0) ∧ wr.cell? ⟨w.heap.size + 1, 1, none⟩ = some (.int .i8 s1) ∧ wr.cell? ⟨w.heap.size + 1, 2, none⟩ = some (.int .i8 s2) ∧ wr.cell? ⟨w.heap.size + 1, 3, none⟩ = some (.int .i8 s3) ∧ wr.cell? ⟨w1.heap.size, 0, none⟩ = some (.int .i8 x0) ∧ wr.cell? ⟨w1.heap.size, 1, none⟩ = some (.int .i8 x1) ∧ wr.cell? ⟨w1.heap.size, 2, none⟩ = some (.int .i8 x2) ∧ wr.cell? ⟨w1.heap.size, 3, none⟩ = some (.int .i8 x3) := by simp [hsz, hcs', hgx]
              clear hsz hcs'
              have gl := hgx.2.1
              clear hgx
              go_wp2_with fail
              go_region_held3 (fun w' => w.heap.size < w'.heap.size ∧ w.heap.size + 1 < w'.heap.size ∧ w1.heap.size < w'.heap.size ∧ w'.cell? ⟨w.heap.size, 0, none⟩ = some (.int .i8 0) ∧ w'.cell? ⟨w.heap.size, 1, none⟩ = some (.int .i8 0) ∧ w'.cell? ⟨w.heap.size, 2, none⟩ = some (.int .i8 0) ∧ w'.cell? ⟨w.heap.size, 3, none⟩ = some (.int .i8 0) ∧ w'.frozen? ⟨w.heap.size, 0, none⟩ = false ∧ w'.frozen? ⟨w.heap.size, 1, none⟩ = false ∧ w'.frozen? ⟨w.heap.size, 2, none⟩ = false ∧ w'.frozen? ⟨w.heap.size, 3, none⟩ = false ∧ w'.frozen? ⟨w.heap.size + 1, 0, none⟩ = false ∧ w'.frozen? ⟨w.heap.size + 1, 1, none⟩ = false ∧ w'.frozen? ⟨w.heap.size + 1, 2, none⟩ = false ∧ w'.frozen? ⟨w.heap.size + 1, 3, none⟩ = false ∧ w'.cell? ⟨w.heap.size + 1, 0, none⟩ = some (.int .i8 s0) ∧ w'.cell? ⟨w.heap.size + 1, 1, none⟩ = some (.int .i8 s1) ∧ w'.cell? ⟨w.heap.size + 1, 2, none⟩ = some (.int .i8 s2) ∧ w'.cell? ⟨w.heap.size + 1, 3, none⟩ = some (.int .i8 s3) ∧ w'.cell? ⟨w1.heap.size, 0, none⟩ = some (.int .i8 x0) ∧ w'.cell? ⟨w1.heap.size, 1, none⟩ = some (.int .i8 x1) ∧ w'.cell? ⟨w1.heap.size, 2, none⟩ = some (.int .i8 x2) ∧ w'.cell? ⟨w1.heap.size, 3, none⟩ = some (.int .i8 x3)) (first | (simp [go_sem, F0]; done) | (go_split_ands; refine ⟨by omega, by omega, by omega, ?_⟩; ((repeat' apply And.intro) <;> (first | (rw [hc _ _ (by omega)]; assumption) | (rw [hf _ _ (by omega)]; assumption))))) (first | (go_at_call 41; refine (strength_any _ _).mono ?_; rintro e w9 ⟨rfl, hb⟩; obtain ⟨hc, hf⟩ := bcell hb; have hz := hb.size))
              all_goals
                have B9 : Below w.heap.size w w9 := below_via hb (below_via (by assumption) (Below.drew BW))
                rename_i hHeld
                clear hb hc hf F0
                go_wp2_with fail
                go_roundw
                case rel =>
                  refine ⟨3, by omega, by first | rfl | go_num, by simp [go_sem, hHeld], by (simp [go_sem, hHeld] <;> omega), Lib.hid (by rw [E2.out]; simp [go_sem, hHeld]), by go_grown⟩
                case measure => simp [intOf]
          · have hcs' := hcs.out
            simp only [] at hcs'
            clear hcs
            by_cases hr : rnk s3 < rnk x3
            · have E2 : RowKit.Hid (it (mst ⟨x0, x1, x2, x3⟩) o 4 = (⟨s0, s1, s2, x3⟩ : A4)) := Lib.hid (by rw [E.out]; simp [mst, A4.get, A4.put, hr])
              have hd : decide (rnk s3 < rnk x3) = true := by simp [hr]
              clear E hr
              have F0 : w.heap.size < wr.heap.size ∧ w.heap.size + 1 < wr.heap.size ∧ w1.heap.size < wr.heap.size ∧ wr.cell? ⟨w.heap.size, 0, none⟩ = some (.int .i8 0) ∧ wr.cell? ⟨w.heap.size, 1, none⟩ = some (.int .i8 0) ∧ wr.cell? ⟨w.heap.size, 2, none⟩ = some (.int .i8 0) ∧ wr.cell? ⟨w.heap.size, 3, none⟩ = some (.int .i8 0) ∧ wr.frozen? ⟨w.heap.size, 0, none⟩ = false ∧ wr.frozen? ⟨w.heap.size, 1, none⟩ = false ∧ wr.frozen? ⟨w.heap.size, 2, none⟩ = false ∧ wr.frozen? ⟨w.heap.size, 3, none⟩ = false ∧ wr.frozen? ⟨w.heap.size + 1, 0, none⟩ = false ∧ wr.frozen? ⟨w.heap.size + 1, 1, none⟩ = false ∧ wr.frozen? ⟨w.heap.size + 1, 2, none⟩ = false ∧ wr.frozen? ⟨w.heap.size + 1, 3, none⟩ = false ∧ wr.cell? ⟨w.heap.size + 1, 0, none⟩ = some (.int .i8 s0) ∧ wr.cell? ⟨w.heap.size + 1, 1, none⟩ = some (.int .i8 s1) ∧ wr.cell? ⟨w.heap.size + 1, 2, none⟩ = some (.int .i8 s2) ∧ wr.cell? ⟨w.heap.size + 1, 3, none⟩ = some (.int .i8 s3) ∧ wr.cell? ⟨w1.heap.size, 0, none⟩ = some (.int .i8 x0) ∧ wr.cell? ⟨w1.heap.size, 1, none⟩ = some (.int .i8 x1) ∧ wr.cell? ⟨w1.heap.size, 2, none⟩ = some (.int .i8 x2) ∧ wr.cell? ⟨w1.heap.size, 3, none⟩ = some (.int .i8 x3) := by simp [hsz, hcs', hgx]
              clear hsz hcs'
              have gl := hgx.2.1
              clear hgx
              go_wp2_with fail
              go_region_held3 (fun w' => w.heap.size < w'.heap.size ∧ w.heap.size + 1 < w'.heap.size ∧ w1.heap.size < w'.heap.size ∧ w'.cell? ⟨w.heap.size, 0, none⟩ = some (.int .i8 0) ∧ w'.cell? ⟨w.heap.size, 1, none⟩ = some (.int .i8 0) ∧ w'.cell? ⟨w.heap.size, 2, none⟩ = some (.int .i8 0) ∧ w'.cell? ⟨w.heap.size, 3, none⟩ = some (.int .i8 0) ∧ w'.frozen? ⟨w.heap.size, 0, none⟩ = false ∧ w'.frozen? ⟨w.heap.size, 1, none⟩ = false ∧ w'.frozen? ⟨w.heap.size, 2, none⟩ = false ∧ w'.frozen? ⟨w.heap.size, 3, none⟩ = false ∧ w'.frozen? ⟨w.heap.size + 1, 0, none⟩ = false ∧ w'.frozen? ⟨w.heap.size + 1, 1, none⟩ = false ∧ w'.frozen? ⟨w.heap.size + 1, 2, none⟩ = false ∧ w'.frozen? ⟨w.heap.size + 1, 3, none⟩ = false ∧ w'.cell? ⟨w.heap.size + 1, 0, none⟩ = some (.int .i8 s0) ∧ w'.cell? ⟨w.heap.size + 1, 1, none⟩ = some (.int .i8 s1) ∧ w'.cell? ⟨w.heap.size + 1, 2, none⟩ = some (.int .i8 s2) ∧ w'.cell? ⟨w.heap.size + 1, 3, none⟩ = some (.int .i8 s3) ∧ w'.cell? ⟨w1.heap.size, 0, none⟩ = some (.int .i8 x0) ∧ w'.cell? ⟨w1.heap.size, 1, none⟩ = some (.int .i8 x1) ∧ w'.cell? ⟨w1.heap.size, 2, none⟩ = some (.int .i8 x2) ∧ w'.cell? ⟨w1.heap.size, 3, none⟩ = some (.int .i8 x3)) (first | (simp [go_sem, F0]; done) | (go_split_ands; refine ⟨by omega, by omega, by omega, ?_⟩; ((repeat' apply And.intro) <;> (first | (rw [hc _ _ (by omega)]; assumption) | (rw [hf _ _ (by omega)]; assumption))))) (first | (go_at_call 41; refine (strength_any _ _).mono ?_; rintro e w9 ⟨rfl, hb⟩; obtain ⟨hc, hf⟩ := bcell hb; have hz := hb.size))
              all_goals
                have B9 : Below w.heap.size w w9 := below_via hb (below_via (by assumption) (Below.drew BW))
                rename_i hHeld
                clear hb hc hf F0
                go_wp2_with fail
                go_roundw
                case rel =>
                  refine ⟨4, by omega, by first | rfl | go_num, by simp [go_sem, hHeld], by (simp [go_sem, hHeld] <;> omega), Lib.hid (by rw [E2.out]; simp [go_sem, hHeld]), by go_grown⟩
                case measure => simp [intOf]
            · have E2 : RowKit.Hid (it (mst ⟨x0, x1, x2, x3⟩) o 4 = (⟨s0, s1, s2, s3⟩ : A4)) := Lib.hid (by rw [E.out]; simp [mst, A4.get, A4.put, hr])
              have hd : decide (rnk s3 < rnk x3) = false := by simp; omega
              clear E hr
              have F0 : w.heap.size < wr.heap.size ∧ w.heap.size + 1 < wr.heap.size ∧ w1.heap.size < wr.heap.size ∧ wr.cell? ⟨w.heap.size, 0, none⟩ = some (.int .i8 0) ∧ wr.cell? ⟨w.heap.size, 1, none⟩ = some (.int .i8 0) ∧ wr.cell? ⟨w.heap.size, 2, none⟩ = some (.int .i8 0) ∧ wr.cell? ⟨w.heap.size, 3, none⟩ = some (.int .i8 0) ∧ wr.frozen? ⟨w.heap.size, 0, none⟩ = false ∧ wr.frozen? ⟨w.heap.size, 1, none⟩ = false ∧ wr.frozen? ⟨w.heap.size, 2, none⟩ = false ∧ wr.frozen? ⟨w.heap.size, 3, none⟩ = false ∧ wr.frozen? ⟨w.heap.size + 1, 0, none⟩ = false ∧ wr.frozen? ⟨w.heap.size + 1, 1, none⟩ = false ∧ wr.frozen? ⟨w.heap.size + 1, 2, none⟩ = false ∧ wr.frozen? ⟨w.heap.size + 1, 3, none⟩ = false ∧ wr.cell? ⟨w.heap.size + 1, 0, none⟩ = some (.int .i8 s0) ∧ wr.cell? ⟨w.heap.size + 1, 1, none⟩ = some (.int .i8 s1) ∧ wr.cell? ⟨w.heap.size + 1, 2, none⟩ = some (.int .i8 s2) ∧ wr.cell? ⟨w.heap.size + 1, 3, none⟩ = some (.int .i8 s3) ∧ wr.cell? ⟨w1.heap.size, 0, none⟩ = some (.int .i8 x0) ∧ wr.cell? ⟨w1.heap.size, 1, none⟩ = some (.int .i8 x1) ∧ wr.cell? ⟨w1.heap.size, 2, none⟩ = some (.int .i8 x2) ∧ wr.cell? ⟨w1.heap.size, 3, none⟩ = some (.int .i8 x3) := by simp [hsz, hcs', hgx]
              clear hsz hcs'
              have gl := hgx.2.1
              clear hgx
              go_wp2_with fail
              go_region_held3 (fun w' => w.heap.size < w'.heap.size ∧ w.heap.size + 1 < w'.heap.size ∧ w1.heap.size < w'.heap.size ∧ w'.cell? ⟨w.heap.size, 0, none⟩ = some (.int .i8 0) ∧ w'.cell? ⟨w.heap.size, 1, none⟩ = some (.int .i8 0) ∧ w'.cell? ⟨w.heap.size, 2, none⟩ = some (.int .i8 0) ∧ w'.cell? ⟨w.heap.size, 3, none⟩ = some (.int .i8 0) ∧ w'.frozen? ⟨w.heap.size, 0, none⟩ = false ∧ w'.frozen? ⟨w.heap.size, 1, none⟩ = false ∧ w'.frozen? ⟨w.heap.size, 2, none⟩ = false ∧ w'.frozen? ⟨w.heap.size, 3, none⟩ = false ∧ w'.frozen? ⟨w.heap.size + 1, 0, none⟩ = false ∧ w'.frozen? ⟨w.heap.size + 1, 1, none⟩ = false ∧ w'.frozen? ⟨w.heap.size + 1, 2, none⟩ = false ∧ w'.frozen? ⟨w.heap.size + 1, 3, none⟩ = false ∧ w'.cell? ⟨w.heap.size + 1, 0, none⟩ = some (.int .i8 s0) ∧ w'.cell? ⟨w.heap.size + 1, 1, none⟩ = some (.int .i8 s1) ∧ w'.cell? ⟨w.heap.size + 1, 2, none⟩ = some (.int .i8 s2) ∧ w'.cell? ⟨w.heap.size + 1, 3, none⟩ = some (.int .i8 s3) ∧ w'.cell? ⟨w1.heap.size, 0, none⟩ = some (.int .i8 x0) ∧ w'.cell? ⟨w1.heap.size, 1, none⟩ = some (.int .i8 x1) ∧ w'.cell? ⟨w1.heap.size, 2, none⟩ = some (.int .i8 x2) ∧ w'.cell? ⟨w1.heap.size, 3, none⟩ = some (.int .i8 x3)) (first | (simp [go_sem, F0]; done) | (go_split_ands; refine ⟨by omega, by omega, by omega, ?_⟩; ((repeat' apply And.intro) <;> (first | (rw [hc _ _ (by omega)]; assumption) | (rw [hf _ _ (by omega)]; assumption))))) (first | (go_at_call 41; refine (strength_any _ _).mono ?_; rintro e w9 ⟨rfl, hb⟩; obtain ⟨hc, hf⟩ := bcell hb; have hz := hb.size))
              all_goals
                have B9 : Below w.heap.size w w9 := below_via hb (below_via (by assumption) (Below.drew BW))
                rename_i hHeld
                clear hb hc hf F0
                go_wp2_with fail
                go_roundw
                case rel =>
                  refine ⟨4, by omega, by first | rfl | go_num, by simp [go_sem, hHeld], by (simp [go_sem, hHeld] <;> omega), Lib.hid (by rw [E2.out]; simp [go_sem, hHeld]), by go_grown⟩
                case measure => simp [intOf]
        · obtain rfl : k = 4 := by omega
          rw [← EM2.out] at hcs
          go_wp2
          go_roundw
          case rel => exact ⟨m + 1, by omega, by go_num, hsz, hcs, BW⟩
          case measure => simp [intOf]; omega
    · obtain rfl : m = len := by omega
      rw [← Z.out] at hcs
      have hcs' := hcs.out
      go_wp2
      exact bodyPost_ret (v := .agg #[.int .i8 z.u, .int .i8 z.r, .int .i8 z.d, .int .i8 z.l]) (by simp [results, Try.results19, go_sem, hsz, hcs']) rfl ⟨rfl, by go_grown⟩
end Go.Proofs.Ytebalohoblaedaa
