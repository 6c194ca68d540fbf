/- Layer 13: the reference's counted and Rune. -/
import Derived.Test.YtebalohoblaedaaGlyG
namespace Go.Proofs.Ytebalohoblaedaa
open Go.RowKit
set_option linter.unusedVariables false
set_option linter.unusedSimpArgs false

set_option maxRecDepth 100000 in
set_option maxHeartbeats 16000000 in
theorem rcounted_any (a b c d : Int) (w : World) : Calls Try.prog 36 #[.agg #[.int .i8 a, .int .i8 b, .int .i8 c, .int .i8 d]] w fun e w' => e = .returned (.agg #[.int .i8 (cnt a), .int .i8 (cnt b), .int .i8 (cnt c), .int .i8 (cnt d)]) ∧ Below w.heap.size w w' := by
  go_enter Try.func36, Try.ntmps36
  go_wp2
  go_loopw [3] (fun i wr => ∃ k : Nat, k ≤ 4 ∧ i = .int .i64 k ∧ (w.heap.size < wr.heap.size ∧ w.heap.size + 1 < wr.heap.size ∧ wr.cell? ⟨w.heap.size + 1, 0, none⟩ = some (.int .i8 0) ∧ wr.cell? ⟨w.heap.size + 1, 1, none⟩ = some (.int .i8 0) ∧ wr.cell? ⟨w.heap.size + 1, 2, none⟩ = some (.int .i8 0) ∧ wr.cell? ⟨w.heap.size + 1, 3, none⟩ = some (.int .i8 0) ∧ wr.frozen? ⟨w.heap.size, 0, none⟩ = false ∧ wr.frozen? ⟨w.heap.size, 1, none⟩ = false ∧ wr.frozen? ⟨w.heap.size, 2, none⟩ = false ∧ wr.frozen? ⟨w.heap.size, 3, none⟩ = false ∧ wr.frozen? ⟨w.heap.size + 1, 0, none⟩ = false ∧ wr.frozen? ⟨w.heap.size + 1, 1, none⟩ = false ∧ wr.frozen? ⟨w.heap.size + 1, 2, none⟩ = false ∧ wr.frozen? ⟨w.heap.size + 1, 3, none⟩ = false) ∧ RowKit.Hid (wr.cell? ⟨w.heap.size, 0, none⟩ = some (.int .i8 (if 0 < k then cnt a else a)) ∧ wr.cell? ⟨w.heap.size, 1, none⟩ = some (.int .i8 (if 1 < k then cnt b else b)) ∧ wr.cell? ⟨w.heap.size, 2, none⟩ = some (.int .i8 (if 2 < k then cnt c else c)) ∧ wr.cell? ⟨w.heap.size, 3, none⟩ = some (.int .i8 (if 3 < k then cnt d else d))) ∧ Below w.heap.size w wr) (fun i _ => 4 - (intOf i).toNat)
  case atStart => exact ⟨0, by omega, rfl, by simp [go_sem], Lib.hid (by simp [go_sem]), by go_grown⟩
  case round =>
    rename_i wr
    obtain ⟨k, hk, rfl, hsz, hcs, BW⟩ := hrel
    by_cases hlt : k < 4
    · have hlt' := hlt
      rcases (show k = 0 ∨ k = 1 ∨ k = 2 ∨ k = 3 by omega) with rfl | rfl | rfl | rfl
      · have hcs' := hcs.out
        simp only [Nat.reduceLT, reduceIte, Nat.lt_irrefl, Nat.not_lt_zero] at hcs'
        clear hcs
        by_cases h1 : a < 0
        · have KZ : RowKit.Hid (cnt a = 0) := Lib.hid (by unfold cnt; rw [if_neg (by omega), if_neg (by omega), if_neg (by omega), if_neg (by omega)])
          go_wp2
          go_roundw
          case rel => exact ⟨1, by omega, by first | rfl | go_num, by simp [go_sem, hsz], Lib.hid (by simp only [KZ.out]; simp [go_sem, hsz, hcs']), by go_grown⟩
          case measure => simp [intOf]
        by_cases h2 : 4 < a
        · have KZ : RowKit.Hid (cnt a = 0) := Lib.hid (by unfold cnt; rw [if_neg (by omega), if_neg (by omega), if_neg (by omega), if_neg (by omega)])
          go_wp2
          go_roundw
          case rel => exact ⟨1, by omega, by first | rfl | go_num, by simp [go_sem, hsz], Lib.hid (by simp only [KZ.out]; simp [go_sem, hsz, hcs']), by go_grown⟩
          case measure => simp [intOf]
        have KZ : RowKit.Hid (cnt a = a) := Lib.hid (by unfold cnt; (repeat' split) <;> omega)
        go_wp2
        go_roundw
        case rel => exact ⟨1, by omega, by first | rfl | go_num, by simp [go_sem, hsz], Lib.hid (by simp only [KZ.out]; simp [go_sem, hsz, hcs']), by go_grown⟩
        case measure => simp [intOf]
      · have hcs' := hcs.out
        simp only [Nat.reduceLT, reduceIte, Nat.lt_irrefl, Nat.not_lt_zero] at hcs'
        clear hcs
        by_cases h1 : b < 0
        · have KZ : RowKit.Hid (cnt b = 0) := Lib.hid (by unfold cnt; rw [if_neg (by omega), if_neg (by omega), if_neg (by omega), if_neg (by omega)])
          go_wp2
          go_roundw
          case rel => exact ⟨2, by omega, by first | rfl | go_num, by simp [go_sem, hsz], Lib.hid (by simp only [KZ.out]; simp [go_sem, hsz, hcs']), by go_grown⟩
          case measure => simp [intOf]
        by_cases h2 : 4 < b
        · have KZ : RowKit.Hid (cnt b = 0) := Lib.hid (by unfold cnt; rw [if_neg (by omega), if_neg (by omega), if_neg (by omega), if_neg (by omega)])
          go_wp2
          go_roundw
          case rel => exact ⟨2, by omega, by first | rfl | go_num, by simp [go_sem, hsz], Lib.hid (by simp only [KZ.out]; simp [go_sem, hsz, hcs']), by go_grown⟩
          case measure => simp [intOf]
        have KZ : RowKit.Hid (cnt b = b) := Lib.hid (by unfold cnt; (repeat' split) <;> omega)
        go_wp2
        go_roundw
        case rel => exact ⟨2, by omega, by first | rfl | go_num, by simp [go_sem, hsz], Lib.hid (by simp only [KZ.out]; simp [go_sem, hsz, hcs']), by go_grown⟩
        case measure => simp [intOf]
      · have hcs' := hcs.out
        simp only [Nat.reduceLT, reduceIte, Nat.lt_irrefl, Nat.not_lt_zero] at hcs'
        clear hcs
        by_cases h1 : c < 0
        · have KZ : RowKit.Hid (cnt c = 0) := Lib.hid (by unfold cnt; rw [if_neg (by omega), if_neg (by omega), if_neg (by omega), if_neg (by omega)])
          go_wp2
          go_roundw
          case rel => exact ⟨3, by omega, by first | rfl | go_num, by simp [go_sem, hsz], Lib.hid (by simp only [KZ.out]; simp [go_sem, hsz, hcs']), by go_grown⟩
          case measure => simp [intOf]
        by_cases h2 : 4 < c
        · have KZ : RowKit.Hid (cnt c = 0) := Lib.hid (by unfold cnt; rw [if_neg (by omega), if_neg (by omega), if_neg (by omega), if_neg (by omega)])
          go_wp2
          go_roundw
          case rel => exact ⟨3, by omega, by first | rfl | go_num, by simp [go_sem, hsz], Lib.hid (by simp only [KZ.out]; simp [go_sem, hsz, hcs']), by go_grown⟩
          case measure => simp [intOf]
        have KZ : RowKit.Hid (cnt c = c) := Lib.hid (by unfold cnt; (repeat' split) <;> omega)
        go_wp2
        go_roundw
        case rel => exact ⟨3, by omega, by first | rfl | go_num, by simp [go_sem, hsz], Lib.hid (by simp only [KZ.out]; simp [go_sem, hsz, hcs']), by go_grown⟩
        case measure => simp [intOf]
      · have hcs' := hcs.out
        simp only [Nat.reduceLT, reduceIte, Nat.lt_irrefl, Nat.not_lt_zero] at hcs'
        clear hcs
        by_cases h1 : d < 0
        · have KZ : RowKit.Hid (cnt d = 0) := Lib.hid (by unfold cnt; rw [if_neg (by omega), if_neg (by omega), if_neg (by omega), if_neg (by omega)])
          go_wp2
          go_roundw
          case rel => exact ⟨4, by omega, by first | rfl | go_num, by simp [go_sem, hsz], Lib.hid (by simp only [KZ.out]; simp [go_sem, hsz, hcs']), by go_grown⟩
          case measure => simp [intOf]
        by_cases h2 : 4 < d
        · have KZ : RowKit.Hid (cnt d = 0) := Lib.hid (by unfold cnt; rw [if_neg (by omega), if_neg (by omega), if_neg (by omega), if_neg (by omega)])
          go_wp2
          go_roundw
          case rel => exact ⟨4, by omega, by first | rfl | go_num, by simp [go_sem, hsz], Lib.hid (by simp only [KZ.out]; simp [go_sem, hsz, hcs']), by go_grown⟩
          case measure => simp [intOf]
        have KZ : RowKit.Hid (cnt d = d) := Lib.hid (by unfold cnt; (repeat' split) <;> omega)
        go_wp2
        go_roundw
        case rel => exact ⟨4, by omega, by first | rfl | go_num, by simp [go_sem, hsz], Lib.hid (by simp only [KZ.out]; simp [go_sem, hsz, hcs']), by go_grown⟩
        case measure => simp [intOf]
    · obtain rfl : k = 4 := by omega
      have hcs' := hcs.out
      simp only [Nat.reduceLT, reduceIte] at hcs'
      clear hcs
      go_wp2
      exact bodyPost_ret (v := .agg #[.int .i8 (cnt a), .int .i8 (cnt b), .int .i8 (cnt c), .int .i8 (cnt d)]) (by simp [results, Try.results36, go_sem, hsz, hcs']) rfl ⟨rfl, by go_grown⟩

structure NB where
  n : Int
  b : Bool
def nbs (c : A4) (s : NB) (i : Nat) : NB := if c.get i = 0 then s else ⟨s.n + 1, s.b || c.get i == 3⟩
def nbt (c : A4) : Nat → NB | 0 => ⟨0, false⟩ | k + 1 => nbs c (nbt c k) k
def crn2 (n : Int) (c : A4) (i : Nat) : Bool := n == 2 && c.get i == 4 && c.get ((i + 1) % 4) == 4
def r3s (b : Bool) (s : A4) (i : Nat) : A4 := if s.get i = 4 then s.put i 1 else if b = true ∧ s.get i = 2 then s.put i 3 else s
def rruneN (s : NB) (c : A4) : Int := if s.n = 0 then 32 else if (crn2 s.n c 0 || crn2 s.n c 1 || crn2 s.n c 2 || crn2 s.n c 3) = true then withA c else withA (it (d2s s.n) (it (r3s s.b) c 4) 4)
/-- the reference's character of arms that count -/
def rruneC (c : A4) : Int := rruneN (nbt c 4) c
def rruneA (a : A4) : Int := rruneC (cntA a)
theorem rrune_corner (n : Int) (c : A4) {b : Bool} (h : nbt c 4 = ⟨n, b⟩) (hn : ¬ n = 0) (j : Nat) (hj : j < 4) (hc : crn2 n c j = true) : rruneC c = withA c := by
  unfold rruneC rruneN
  rw [h]
  simp only [hn, if_false]
  rw [if_pos]
  rcases (show j = 0 ∨ j = 1 ∨ j = 2 ∨ j = 3 by omega) with rfl | rfl | rfl | rfl <;> simp [hc]
theorem rrune_none (c : A4) {b : Bool} (h : nbt c 4 = ⟨0, b⟩) : rruneC c = 32 := by
  unfold rruneC rruneN
  rw [h]
  rfl
theorem rrune_other (n : Int) (c : A4) {b : Bool} (h : nbt c 4 = ⟨n, b⟩) (hn : ¬ n = 0) (hc : ∀ j, j < 4 → crn2 n c j = false) : rruneC c = withA (it (d2s n) (it (r3s b) c 4) 4) := by
  unfold rruneC rruneN
  rw [h]
  simp only [hn, if_false, hc 0 (by omega), hc 1 (by omega), hc 2 (by omega), hc 3 (by omega)]
  rfl
theorem with4 (a b c d : Int) (w : World) : Calls Try.prog 37 #[.agg #[.int .i8 a, .int .i8 b, .int .i8 c, .int .i8 d]] w fun e w' => e = .returned (.int .i32 (withA ⟨a, b, c, d⟩)) ∧ Below w.heap.size w w' := with_any ⟨a, b, c, d⟩ w

set_option maxRecDepth 100000 in
set_option maxHeartbeats 16000000 in
theorem rrune_any (a : A4) (w : World) : Calls Try.prog 15 #[.agg #[.int .i8 a.u, .int .i8 a.r, .int .i8 a.d, .int .i8 a.l]] w fun e w' => e = .returned (.int .i32 (rruneA a)) ∧ Below w.heap.size w w' := by
  have Z : RowKit.Hid (rruneA a = rruneC ⟨cnt a.u, cnt a.r, cnt a.d, cnt a.l⟩) := Lib.hid rfl
  generalize rruneA a = z at Z ⊢
  go_enter Try.func15, Try.ntmps15
  go_wp2_with fail
  refine (rcounted_any _ _ _ _ _).mono ?_
  rintro e w1 ⟨rfl, hb⟩
  have B1 : Below w.heap.size w w1 := below_via hb (show Below w.heap.size w _ by go_grown)
  have hsz : (w.heap.size < w1.heap.size ∧ w1.frozen? ⟨w.heap.size, 0, none⟩ = false ∧ w1.frozen? ⟨w.heap.size, 1, none⟩ = false ∧ w1.frozen? ⟨w.heap.size, 2, none⟩ = false ∧ w1.frozen? ⟨w.heap.size, 3, none⟩ = false) := by
    obtain ⟨hc, hf⟩ := bcell hb
    have hz := hb.size
    simp only [World.size_alloc] at hz
    refine ⟨by omega, ?_, ?_, ?_, ?_⟩ <;> (rw [hf _ _ (by simp)]; simp [go_sem])
  have hcs : w1.cell? ⟨w.heap.size, 0, none⟩ = some (.int .i8 a.u) ∧ w1.cell? ⟨w.heap.size, 1, none⟩ = some (.int .i8 a.r) ∧ w1.cell? ⟨w.heap.size, 2, none⟩ = some (.int .i8 a.d) ∧ w1.cell? ⟨w.heap.size, 3, none⟩ = some (.int .i8 a.l) := by
    obtain ⟨hc, hf⟩ := bcell hb
    refine ⟨?_, ?_, ?_, ?_⟩ <;> (rw [hc _ _ (by simp)]; simp [go_sem])
  clear hb
  generalize cnt a.u = c0 at Z ⊢
  generalize cnt a.r = c1 at Z ⊢
  generalize cnt a.d = c2 at Z ⊢
  generalize cnt a.l = c3 at Z ⊢
  go_wp2
  go_loopw [3, 4, 5] (fun n b i wr => ∃ k : Nat, ∃ s : NB, k ≤ 4 ∧ i = .int .i64 k ∧ n = .int .i64 s.n ∧ b = .bool s.b ∧ RowKit.Hid (nbt ⟨c0, c1, c2, c3⟩ k = s) ∧ 0 ≤ s.n ∧ s.n ≤ k ∧ (w.heap.size < wr.heap.size ∧ wr.frozen? ⟨w.heap.size, 0, none⟩ = false ∧ wr.frozen? ⟨w.heap.size, 1, none⟩ = false ∧ wr.frozen? ⟨w.heap.size, 2, none⟩ = false ∧ wr.frozen? ⟨w.heap.size, 3, none⟩ = false) ∧ (wr.cell? ⟨w.heap.size, 0, none⟩ = some (.int .i8 c0) ∧ wr.cell? ⟨w.heap.size, 1, none⟩ = some (.int .i8 c1) ∧ wr.cell? ⟨w.heap.size, 2, none⟩ = some (.int .i8 c2) ∧ wr.cell? ⟨w.heap.size, 3, none⟩ = some (.int .i8 c3)) ∧ Below w.heap.size w wr) (fun _ _ i _ => 4 - (intOf i).toNat)
  case atStart => exact ⟨0, ⟨0, false⟩, by omega, rfl, rfl, rfl, Lib.hid rfl, by dsimp only; omega, by dsimp only; omega, by simp [go_sem, hsz], by simp [go_sem, hsz, hcs], by go_grown⟩
  case round =>
    clear hsz hcs B1
    rename_i wr
    obtain ⟨k, s, hk, rfl, rfl, rfl, ES, hn0, hn1, hsz, hcs, BW⟩ := hrel
    obtain ⟨sn, sb⟩ := s
    simp only [] at hn0 hn1
    by_cases hlt : k < 4
    · have E : RowKit.Hid (nbt ⟨c0, c1, c2, c3⟩ (k + 1) = nbs ⟨c0, c1, c2, c3⟩ ⟨sn, sb⟩ k) := by rw [← ES.out]; exact Lib.hid rfl
      clear ES
      rcases (show k = 0 ∨ k = 1 ∨ k = 2 ∨ k = 3 by omega) with rfl | rfl | rfl | rfl
      · cases sb
        · have hx : 0 = 0 := rfl
          by_cases h0 : c0 = 0
          · have h0' : (c0 == 0) = true := by simp [h0]
            have h0'' : (c0 != 0) = false := by simp [h0]
            have h3' : (c0 == 3) = false := by simp [h0]
            have H0 := Lib.hid h0
            clear h0
            have E2 : RowKit.Hid (nbt ⟨c0, c1, c2, c3⟩ 1 = ⟨sn, false⟩) := Lib.hid (by rw [E.out]; simp [nbs, A4.get, H0.out])
            clear E
            go_wp2
            go_roundw
            case rel => exact ⟨1, ⟨sn, false⟩, by omega, by first | rfl | go_num, rfl, by first | rfl | simp, E2, by dsimp only; omega, by dsimp only; omega, by simp [go_sem, hsz], by simp [go_sem, hcs], by go_grown⟩
            case measure => simp [intOf]
          have h0' : (c0 == 0) = false := by simp [h0]
          have h0'' : (c0 != 0) = true := by simp [h0]
          by_cases h3 : c0 = 3
          · have h3' : (c0 == 3) = true := by simp [h3]
            have H3 := Lib.hid h3
            have H0 := Lib.hid h0
            clear h3 h0
            have E2 : RowKit.Hid (nbt ⟨c0, c1, c2, c3⟩ 1 = ⟨sn + 1, true⟩) := Lib.hid (by rw [E.out]; simp [nbs, A4.get, H3.out])
            clear E
            go_wp2
            go_roundw
            case rel => exact ⟨1, ⟨sn + 1, true⟩, by omega, by first | rfl | go_num, rfl, by first | rfl | simp, E2, by dsimp only; omega, by dsimp only; omega, by simp [go_sem, hsz], by simp [go_sem, hcs], by go_grown⟩
            case measure => simp [intOf]
          have h3' : (c0 == 3) = false := by simp [h3]
          have H0 := Lib.hid h0
          clear h0 h3
          have E2 : RowKit.Hid (nbt ⟨c0, c1, c2, c3⟩ 1 = ⟨sn + 1, false⟩) := Lib.hid (by rw [E.out]; simp [nbs, A4.get, H0.out, h3'])
          clear E
          go_wp2
          go_roundw
          case rel => exact ⟨1, ⟨sn + 1, false⟩, by omega, by first | rfl | go_num, rfl, by first | rfl | simp, E2, by dsimp only; omega, by dsimp only; omega, by simp [go_sem, hsz], by simp [go_sem, hcs], by go_grown⟩
          case measure => simp [intOf]
        · have hx : 0 = 0 := rfl
          by_cases h0 : c0 = 0
          · have h0' : (c0 == 0) = true := by simp [h0]
            have h0'' : (c0 != 0) = false := by simp [h0]
            have h3' : (c0 == 3) = false := by simp [h0]
            have H0 := Lib.hid h0
            clear h0
            have E2 : RowKit.Hid (nbt ⟨c0, c1, c2, c3⟩ 1 = ⟨sn, true⟩) := Lib.hid (by rw [E.out]; simp [nbs, A4.get, H0.out])
            clear E
            go_wp2
            go_roundw
            case rel => exact ⟨1, ⟨sn, true⟩, by omega, by first | rfl | go_num, rfl, by first | rfl | simp, E2, by dsimp only; omega, by dsimp only; omega, by simp [go_sem, hsz], by simp [go_sem, hcs], by go_grown⟩
            case measure => simp [intOf]
          have h0' : (c0 == 0) = false := by simp [h0]
          have h0'' : (c0 != 0) = true := by simp [h0]
          by_cases h3 : c0 = 3
          · have h3' : (c0 == 3) = true := by simp [h3]
            have H3 := Lib.hid h3
            have H0 := Lib.hid h0
            clear h3 h0
            have E2 : RowKit.Hid (nbt ⟨c0, c1, c2, c3⟩ 1 = ⟨sn + 1, true⟩) := Lib.hid (by rw [E.out]; simp [nbs, A4.get, H3.out])
            clear E
            go_wp2
            go_roundw
            case rel => exact ⟨1, ⟨sn + 1, true⟩, by omega, by first | rfl | go_num, rfl, by first | rfl | simp, E2, by dsimp only; omega, by dsimp only; omega, by simp [go_sem, hsz], by simp [go_sem, hcs], by go_grown⟩
            case measure => simp [intOf]
          have h3' : (c0 == 3) = false := by simp [h3]
          have H0 := Lib.hid h0
          clear h0 h3
          have E2 : RowKit.Hid (nbt ⟨c0, c1, c2, c3⟩ 1 = ⟨sn + 1, true⟩) := Lib.hid (by rw [E.out]; simp [nbs, A4.get, H0.out, h3'])
          clear E
          go_wp2
          go_roundw
          case rel => exact ⟨1, ⟨sn + 1, true⟩, by omega, by first | rfl | go_num, rfl, by first | rfl | simp, E2, by dsimp only; omega, by dsimp only; omega, by simp [go_sem, hsz], by simp [go_sem, hcs], by go_grown⟩
          case measure => simp [intOf]
      · cases sb
        · have hx : 0 = 0 := rfl
          by_cases h0 : c1 = 0
          · have h0' : (c1 == 0) = true := by simp [h0]
            have h0'' : (c1 != 0) = false := by simp [h0]
            have h3' : (c1 == 3) = false := by simp [h0]
            have H0 := Lib.hid h0
            clear h0
            have E2 : RowKit.Hid (nbt ⟨c0, c1, c2, c3⟩ 2 = ⟨sn, false⟩) := Lib.hid (by rw [E.out]; simp [nbs, A4.get, H0.out])
            clear E
            go_wp2
            go_roundw
            case rel => exact ⟨2, ⟨sn, false⟩, by omega, by first | rfl | go_num, rfl, by first | rfl | simp, E2, by dsimp only; omega, by dsimp only; omega, by simp [go_sem, hsz], by simp [go_sem, hcs], by go_grown⟩
            case measure => simp [intOf]
          have h0' : (c1 == 0) = false := by simp [h0]
          have h0'' : (c1 != 0) = true := by simp [h0]
          by_cases h3 : c1 = 3
          · have h3' : (c1 == 3) = true := by simp [h3]
            have H3 := Lib.hid h3
            have H0 := Lib.hid h0
            clear h3 h0
            have E2 : RowKit.Hid (nbt ⟨c0, c1, c2, c3⟩ 2 = ⟨sn + 1, true⟩) := Lib.hid (by rw [E.out]; simp [nbs, A4.get, H3.out])
            clear E
            go_wp2
            go_roundw
            case rel => exact ⟨2, ⟨sn + 1, true⟩, by omega, by first | rfl | go_num, rfl, by first | rfl | simp, E2, by dsimp only; omega, by dsimp only; omega, by simp [go_sem, hsz], by simp [go_sem, hcs], by go_grown⟩
            case measure => simp [intOf]
          have h3' : (c1 == 3) = false := by simp [h3]
          have H0 := Lib.hid h0
          clear h0 h3
          have E2 : RowKit.Hid (nbt ⟨c0, c1, c2, c3⟩ 2 = ⟨sn + 1, false⟩) := Lib.hid (by rw [E.out]; simp [nbs, A4.get, H0.out, h3'])
          clear E
          go_wp2
          go_roundw
          case rel => exact ⟨2, ⟨sn + 1, false⟩, by omega, by first | rfl | go_num, rfl, by first | rfl | simp, E2, by dsimp only; omega, by dsimp only; omega, by simp [go_sem, hsz], by simp [go_sem, hcs], by go_grown⟩
          case measure => simp [intOf]
        · have hx : 0 = 0 := rfl
          by_cases h0 : c1 = 0
          · have h0' : (c1 == 0) = true := by simp [h0]
            have h0'' : (c1 != 0) = false := by simp [h0]
            have h3' : (c1 == 3) = false := by simp [h0]
            have H0 := Lib.hid h0
            clear h0
            have E2 : RowKit.Hid (nbt ⟨c0, c1, c2, c3⟩ 2 = ⟨sn, true⟩) := Lib.hid (by rw [E.out]; simp [nbs, A4.get, H0.out])
            clear E
            go_wp2
            go_roundw
            case rel => exact ⟨2, ⟨sn, true⟩, by omega, by first | rfl | go_num, rfl, by first | rfl | simp, E2, by dsimp only; omega, by dsimp only; omega, by simp [go_sem, hsz], by simp [go_sem, hcs], by go_grown⟩
            case measure => simp [intOf]
          have h0' : (c1 == 0) = false := by simp [h0]
          have h0'' : (c1 != 0) = true := by simp [h0]
          by_cases h3 : c1 = 3
          · have h3' : (c1 == 3) = true := by simp [h3]
            have H3 := Lib.hid h3
            have H0 := Lib.hid h0
            clear h3 h0
            have E2 : RowKit.Hid (nbt ⟨c0, c1, c2, c3⟩ 2 = ⟨sn + 1, true⟩) := Lib.hid (by rw [E.out]; simp [nbs, A4.get, H3.out])
            clear E
            go_wp2
            go_roundw
            case rel => exact ⟨2, ⟨sn + 1, true⟩, by omega, by first | rfl | go_num, rfl, by first | rfl | simp, E2, by dsimp only; omega, by dsimp only; omega, by simp [go_sem, hsz], by simp [go_sem, hcs], by go_grown⟩
            case measure => simp [intOf]
          have h3' : (c1 == 3) = false := by simp [h3]
          have H0 := Lib.hid h0
          clear h0 h3
          have E2 : RowKit.Hid (nbt ⟨c0, c1, c2, c3⟩ 2 = ⟨sn + 1, true⟩) := Lib.hid (by rw [E.out]; simp [nbs, A4.get, H0.out, h3'])
          clear E
          go_wp2
          go_roundw
          case rel => exact ⟨2, ⟨sn + 1, true⟩, by omega, by first | rfl | go_num, rfl, by first | rfl | simp, E2, by dsimp only; omega, by dsimp only; omega, by simp [go_sem, hsz], by simp [go_sem, hcs], by go_grown⟩
          case measure => simp [intOf]
      · cases sb
        · have hx : 0 = 0 := rfl
          by_cases h0 : c2 = 0
          · have h0' : (c2 == 0) = true := by simp [h0]
            have h0'' : (c2 != 0) = false := by simp [h0]
            have h3' : (c2 == 3) = false := by simp [h0]
            have H0 := Lib.hid h0
            clear h0
            have E2 : RowKit.Hid (nbt ⟨c0, c1, c2, c3⟩ 3 = ⟨sn, false⟩) := Lib.hid (by rw [E.out]; simp [nbs, A4.get, H0.out])
            clear E
            go_wp2
            go_roundw
            case rel => exact ⟨3, ⟨sn, false⟩, by omega, by first | rfl | go_num, rfl, by first | rfl | simp, E2, by dsimp only; omega, by dsimp only; omega, by simp [go_sem, hsz], by simp [go_sem, hcs], by go_grown⟩
            case measure => simp [intOf]
          have h0' : (c2 == 0) = false := by simp [h0]
          have h0'' : (c2 != 0) = true := by simp [h0]
          by_cases h3 : c2 = 3
          · have h3' : (c2 == 3) = true := by simp [h3]
            have H3 := Lib.hid h3
            have H0 := Lib.hid h0
            clear h3 h0
            have E2 : RowKit.Hid (nbt ⟨c0, c1, c2, c3⟩ 3 = ⟨sn + 1, true⟩) := Lib.hid (by rw [E.out]; simp [nbs, A4.get, H3.out])
            clear E
            go_wp2
            go_roundw
            case rel => exact ⟨3, ⟨sn + 1, true⟩, by omega, by first | rfl | go_num, rfl, by first | rfl | simp, E2, by dsimp only; omega, by dsimp only; omega, by simp [go_sem, hsz], by simp [go_sem, hcs], by go_grown⟩
            case measure => simp [intOf]
          have h3' : (c2 == 3) = false := by simp [h3]
          have H0 := Lib.hid h0
          clear h0 h3
          have E2 : RowKit.Hid (nbt ⟨c0, c1, c2, c3⟩ 3 = ⟨sn + 1, false⟩) := Lib.hid (by rw [E.out]; simp [nbs, A4.get, H0.out, h3'])
          clear E
          go_wp2
          go_roundw
          case rel => exact ⟨3, ⟨sn + 1, false⟩, by omega, by first | rfl | go_num, rfl, by first | rfl | simp, E2, by dsimp only; omega, by dsimp only; omega, by simp [go_sem, hsz], by simp [go_sem, hcs], by go_grown⟩
          case measure => simp [intOf]
        · have hx : 0 = 0 := rfl
          by_cases h0 : c2 = 0
          · have h0' : (c2 == 0) = true := by simp [h0]
            have h0'' : (c2 != 0) = false := by simp [h0]
            have h3' : (c2 == 3) = false := by simp [h0]
            have H0 := Lib.hid h0
            clear h0
            have E2 : RowKit.Hid (nbt ⟨c0, c1, c2, c3⟩ 3 = ⟨sn, true⟩) := Lib.hid (by rw [E.out]; simp [nbs, A4.get, H0.out])
            clear E
            go_wp2
            go_roundw
            case rel => exact ⟨3, ⟨sn, true⟩, by omega, by first | rfl | go_num, rfl, by first | rfl | simp, E2, by dsimp only; omega, by dsimp only; omega, by simp [go_sem, hsz], by simp [go_sem, hcs], by go_grown⟩
            case measure => simp [intOf]
          have h0' : (c2 == 0) = false := by simp [h0]
          have h0'' : (c2 != 0) = true := by simp [h0]
          by_cases h3 : c2 = 3
          · have h3' : (c2 == 3) = true := by simp [h3]
            have H3 := Lib.hid h3
            have H0 := Lib.hid h0
            clear h3 h0
            have E2 : RowKit.Hid (nbt ⟨c0, c1, c2, c3⟩ 3 = ⟨sn + 1, true⟩) := Lib.hid (by rw [E.out]; simp [nbs, A4.get, H3.out])
            clear E
            go_wp2
            go_roundw
            case rel => exact ⟨3, ⟨sn + 1, true⟩, by omega, by first | rfl | go_num, rfl, by first | rfl | simp, E2, by dsimp only; omega, by dsimp only; omega, by simp [go_sem, hsz], by simp [go_sem, hcs], by go_grown⟩
            case measure => simp [intOf]
          have h3' : (c2 == 3) = false := by simp [h3]
          have H0 := Lib.hid h0
          clear h0 h3
          have E2 : RowKit.Hid (nbt ⟨c0, c1, c2, c3⟩ 3 = ⟨sn + 1, true⟩) := Lib.hid (by rw [E.out]; simp [nbs, A4.get, H0.out, h3'])
          clear E
          go_wp2
          go_roundw
          case rel => exact ⟨3, ⟨sn + 1, true⟩, by omega, by first | rfl | go_num, rfl, by first | rfl | simp, E2, by dsimp only; omega, by dsimp only; omega, by simp [go_sem, hsz], by simp [go_sem, hcs], by go_grown⟩
          case measure => simp [intOf]
      · cases sb
        · have hx : 0 = 0 := rfl
          by_cases h0 : c3 = 0
          · have h0' : (c3 == 0) = true := by simp [h0]
            have h0'' : (c3 != 0) = false := by simp [h0]
            have h3' : (c3 == 3) = false := by simp [h0]
            have H0 := Lib.hid h0
            clear h0
            have E2 : RowKit.Hid (nbt ⟨c0, c1, c2, c3⟩ 4 = ⟨sn, false⟩) := Lib.hid (by rw [E.out]; simp [nbs, A4.get, H0.out])
            clear E
            go_wp2
            go_roundw
            case rel => exact ⟨4, ⟨sn, false⟩, by omega, by first | rfl | go_num, rfl, by first | rfl | simp, E2, by dsimp only; omega, by dsimp only; omega, by simp [go_sem, hsz], by simp [go_sem, hcs], by go_grown⟩
            case measure => simp [intOf]
          have h0' : (c3 == 0) = false := by simp [h0]
          have h0'' : (c3 != 0) = true := by simp [h0]
          by_cases h3 : c3 = 3
          · have h3' : (c3 == 3) = true := by simp [h3]
            have H3 := Lib.hid h3
            have H0 := Lib.hid h0
            clear h3 h0
            have E2 : RowKit.Hid (nbt ⟨c0, c1, c2, c3⟩ 4 = ⟨sn + 1, true⟩) := Lib.hid (by rw [E.out]; simp [nbs, A4.get, H3.out])
            clear E
            go_wp2
            go_roundw
            case rel => exact ⟨4, ⟨sn + 1, true⟩, by omega, by first | rfl | go_num, rfl, by first | rfl | simp, E2, by dsimp only; omega, by dsimp only; omega, by simp [go_sem, hsz], by simp [go_sem, hcs], by go_grown⟩
            case measure => simp [intOf]
          have h3' : (c3 == 3) = false := by simp [h3]
          have H0 := Lib.hid h0
          clear h0 h3
          have E2 : RowKit.Hid (nbt ⟨c0, c1, c2, c3⟩ 4 = ⟨sn + 1, false⟩) := Lib.hid (by rw [E.out]; simp [nbs, A4.get, H0.out, h3'])
          clear E
          go_wp2
          go_roundw
          case rel => exact ⟨4, ⟨sn + 1, false⟩, by omega, by first | rfl | go_num, rfl, by first | rfl | simp, E2, by dsimp only; omega, by dsimp only; omega, by simp [go_sem, hsz], by simp [go_sem, hcs], by go_grown⟩
          case measure => simp [intOf]
        · have hx : 0 = 0 := rfl
          by_cases h0 : c3 = 0
          · have h0' : (c3 == 0) = true := by simp [h0]
            have h0'' : (c3 != 0) = false := by simp [h0]
            have h3' : (c3 == 3) = false := by simp [h0]
            have H0 := Lib.hid h0
            clear h0
            have E2 : RowKit.Hid (nbt ⟨c0, c1, c2, c3⟩ 4 = ⟨sn, true⟩) := Lib.hid (by rw [E.out]; simp [nbs, A4.get, H0.out])
            clear E
            go_wp2
            go_roundw
            case rel => exact ⟨4, ⟨sn, true⟩, by omega, by first | rfl | go_num, rfl, by first | rfl | simp, E2, by dsimp only; omega, by dsimp only; omega, by simp [go_sem, hsz], by simp [go_sem, hcs], by go_grown⟩
            case measure => simp [intOf]
          have h0' : (c3 == 0) = false := by simp [h0]
          have h0'' : (c3 != 0) = true := by simp [h0]
          by_cases h3 : c3 = 3
          · have h3' : (c3 == 3) = true := by simp [h3]
            have H3 := Lib.hid h3
            have H0 := Lib.hid h0
            clear h3 h0
            have E2 : RowKit.Hid (nbt ⟨c0, c1, c2, c3⟩ 4 = ⟨sn + 1, true⟩) := Lib.hid (by rw [E.out]; simp [nbs, A4.get, H3.out])
            clear E
            go_wp2
            go_roundw
            case rel => exact ⟨4, ⟨sn + 1, true⟩, by omega, by first | rfl | go_num, rfl, by first | rfl | simp, E2, by dsimp only; omega, by dsimp only; omega, by simp [go_sem, hsz], by simp [go_sem, hcs], by go_grown⟩
            case measure => simp [intOf]
          have h3' : (c3 == 3) = false := by simp [h3]
          have H0 := Lib.hid h0
          clear h0 h3
          have E2 : RowKit.Hid (nbt ⟨c0, c1, c2, c3⟩ 4 = ⟨sn + 1, true⟩) := Lib.hid (by rw [E.out]; simp [nbs, A4.get, H0.out, h3'])
          clear E
          go_wp2
          go_roundw
          case rel => exact ⟨4, ⟨sn + 1, true⟩, by omega, by first | rfl | go_num, rfl, by first | rfl | simp, E2, by dsimp only; omega, by dsimp only; omega, by simp [go_sem, hsz], by simp [go_sem, hcs], by go_grown⟩
          case measure => simp [intOf]
    · obtain rfl : k = 4 := by omega
      by_cases h0 : sn = 0
      · subst h0
        have Z2 := Lib.hid (Z.out.trans (rrune_none _ ES.out))
        clear Z
        go_wp2
        go_ret
        exact ⟨by rw [Z2.out]; rfl, BW⟩
      have h0' : (sn == 0) = false := by simp [h0]
      have hsn := Lib.hid h0
      clear h0
      have HNB := ES
      clear ES
      go_wp2
      clear hk hlt
      go_loopw [6] (fun i wr => ∃ k : Nat, k ≤ 4 ∧ i = .int .i64 k ∧ RowKit.Hid (∀ j, j < k → crn2 sn ⟨c0, c1, c2, c3⟩ j = false) ∧ (w.heap.size < wr.heap.size ∧ wr.frozen? ⟨w.heap.size, 0, none⟩ = false ∧ wr.frozen? ⟨w.heap.size, 1, none⟩ = false ∧ wr.frozen? ⟨w.heap.size, 2, none⟩ = false ∧ wr.frozen? ⟨w.heap.size, 3, none⟩ = false) ∧ (wr.cell? ⟨w.heap.size, 0, none⟩ = some (.int .i8 c0) ∧ wr.cell? ⟨w.heap.size, 1, none⟩ = some (.int .i8 c1) ∧ wr.cell? ⟨w.heap.size, 2, none⟩ = some (.int .i8 c2) ∧ wr.cell? ⟨w.heap.size, 3, none⟩ = some (.int .i8 c3)) ∧ Below w.heap.size w wr) (fun i _ => 4 - (intOf i).toNat)
      case atStart => exact ⟨0, by omega, rfl, Lib.hid fun j hj => by omega, hsz, hcs, BW⟩
      case round =>
        clear hsz hcs BW
        rename_i wr
        obtain ⟨k, hk, rfl, HJ, hsz, hcs, BW⟩ := hrel
        by_cases hlt : k < 4
        · have hx := hlt
          rcases (show k = 0 ∨ k = 1 ∨ k = 2 ∨ k = 3 by omega) with rfl | rfl | rfl | rfl
          · have hx : 0 = 0 := rfl
            cases h2 : (sn == 2)
            · have HJ2 : RowKit.Hid (∀ j, j < 1 → crn2 sn ⟨c0, c1, c2, c3⟩ j = false) := Lib.hid fun j hj => by
                by_cases h : j < 0
                · exact HJ.out j h
                · obtain rfl : j = 0 := by omega
                  simp [crn2, A4.get, h2]
              clear HJ
              go_wp2
              go_roundw
              case rel => exact ⟨1, by omega, by first | rfl | go_num, HJ2, hsz, hcs, BW⟩
              case measure => simp [intOf]
            cases h3 : (c0 == 4)
            · have HJ2 : RowKit.Hid (∀ j, j < 1 → crn2 sn ⟨c0, c1, c2, c3⟩ j = false) := Lib.hid fun j hj => by
                by_cases h : j < 0
                · exact HJ.out j h
                · obtain rfl : j = 0 := by omega
                  simp [crn2, A4.get, h2, h3]
              clear HJ
              go_wp2
              go_roundw
              case rel => exact ⟨1, by omega, by first | rfl | go_num, HJ2, hsz, hcs, BW⟩
              case measure => simp [intOf]
            cases h4 : (c1 == 4)
            · have HJ2 : RowKit.Hid (∀ j, j < 1 → crn2 sn ⟨c0, c1, c2, c3⟩ j = false) := Lib.hid fun j hj => by
                by_cases h : j < 0
                · exact HJ.out j h
                · obtain rfl : j = 0 := by omega
                  simp [crn2, A4.get, h2, h3, h4]
              clear HJ
              go_wp2
              go_roundw
              case rel => exact ⟨1, by omega, by first | rfl | go_num, HJ2, hsz, hcs, BW⟩
              case measure => simp [intOf]
            have Z2 := Lib.hid (Z.out.trans (rrune_corner sn ⟨c0, c1, c2, c3⟩ (HNB.out) hsn.out 0 (by omega) (by simp [crn2, A4.get, h2, h3, h4])))
            clear Z HJ
            go_wp2_with fail
            refine (with4 _ _ _ _ _).mono ?_
            rintro e w2 ⟨rfl, hb2⟩
            have B2 := below_via hb2 BW
            clear hb2
            go_wp2
            go_ret
            exact ⟨by rw [Z2.out]; rfl, B2⟩
          · have hx : 0 = 0 := rfl
            cases h2 : (sn == 2)
            · have HJ2 : RowKit.Hid (∀ j, j < 2 → crn2 sn ⟨c0, c1, c2, c3⟩ j = false) := Lib.hid fun j hj => by
                by_cases h : j < 1
                · exact HJ.out j h
                · obtain rfl : j = 1 := by omega
                  simp [crn2, A4.get, h2]
              clear HJ
              go_wp2
              go_roundw
              case rel => exact ⟨2, by omega, by first | rfl | go_num, HJ2, hsz, hcs, BW⟩
              case measure => simp [intOf]
            cases h3 : (c1 == 4)
            · have HJ2 : RowKit.Hid (∀ j, j < 2 → crn2 sn ⟨c0, c1, c2, c3⟩ j = false) := Lib.hid fun j hj => by
                by_cases h : j < 1
                · exact HJ.out j h
                · obtain rfl : j = 1 := by omega
                  simp [crn2, A4.get, h2, h3]
              clear HJ
              go_wp2
              go_roundw
              case rel => exact ⟨2, by omega, by first | rfl | go_num, HJ2, hsz, hcs, BW⟩
              case measure => simp [intOf]
            cases h4 : (c2 == 4)
            · have HJ2 : RowKit.Hid (∀ j, j < 2 → crn2 sn ⟨c0, c1, c2, c3⟩ j = false) := Lib.hid fun j hj => by
                by_cases h : j < 1
                · exact HJ.out j h
                · obtain rfl : j = 1 := by omega
                  simp [crn2, A4.get, h2, h3, h4]
              clear HJ
              go_wp2
              go_roundw
              case rel => exact ⟨2, by omega, by first | rfl | go_num, HJ2, hsz, hcs, BW⟩
              case measure => simp [intOf]
            have Z2 := Lib.hid (Z.out.trans (rrune_corner sn ⟨c0, c1, c2, c3⟩ (HNB.out) hsn.out 1 (by omega) (by simp [crn2, A4.get, h2, h3, h4])))
            clear Z HJ
            go_wp2_with fail
            refine (with4 _ _ _ _ _).mono ?_
            rintro e w2 ⟨rfl, hb2⟩
            have B2 := below_via hb2 BW
            clear hb2
            go_wp2
            go_ret
            exact ⟨by rw [Z2.out]; rfl, B2⟩
          · have hx : 0 = 0 := rfl
            cases h2 : (sn == 2)
            · have HJ2 : RowKit.Hid (∀ j, j < 3 → crn2 sn ⟨c0, c1, c2, c3⟩ j = false) := Lib.hid fun j hj => by
                by_cases h : j < 2
                · exact HJ.out j h
                · obtain rfl : j = 2 := by omega
                  simp [crn2, A4.get, h2]
              clear HJ
              go_wp2
              go_roundw
              case rel => exact ⟨3, by omega, by first | rfl | go_num, HJ2, hsz, hcs, BW⟩
              case measure => simp [intOf]
            cases h3 : (c2 == 4)
            · have HJ2 : RowKit.Hid (∀ j, j < 3 → crn2 sn ⟨c0, c1, c2, c3⟩ j = false) := Lib.hid fun j hj => by
                by_cases h : j < 2
                · exact HJ.out j h
                · obtain rfl : j = 2 := by omega
                  simp [crn2, A4.get, h2, h3]
              clear HJ
              go_wp2
              go_roundw
              case rel => exact ⟨3, by omega, by first | rfl | go_num, HJ2, hsz, hcs, BW⟩
              case measure => simp [intOf]
            cases h4 : (c3 == 4)
            · have HJ2 : RowKit.Hid (∀ j, j < 3 → crn2 sn ⟨c0, c1, c2, c3⟩ j = false) := Lib.hid fun j hj => by
                by_cases h : j < 2
                · exact HJ.out j h
                · obtain rfl : j = 2 := by omega
                  simp [crn2, A4.get, h2, h3, h4]
              clear HJ
              go_wp2
              go_roundw
              case rel => exact ⟨3, by omega, by first | rfl | go_num, HJ2, hsz, hcs, BW⟩
              case measure => simp [intOf]
            have Z2 := Lib.hid (Z.out.trans (rrune_corner sn ⟨c0, c1, c2, c3⟩ (HNB.out) hsn.out 2 (by omega) (by simp [crn2, A4.get, h2, h3, h4])))
            clear Z HJ
            go_wp2_with fail
            refine (with4 _ _ _ _ _).mono ?_
            rintro e w2 ⟨rfl, hb2⟩
            have B2 := below_via hb2 BW
            clear hb2
            go_wp2
            go_ret
            exact ⟨by rw [Z2.out]; rfl, B2⟩
          · have hx : 0 = 0 := rfl
            cases h2 : (sn == 2)
            · have HJ2 : RowKit.Hid (∀ j, j < 4 → crn2 sn ⟨c0, c1, c2, c3⟩ j = false) := Lib.hid fun j hj => by
                by_cases h : j < 3
                · exact HJ.out j h
                · obtain rfl : j = 3 := by omega
                  simp [crn2, A4.get, h2]
              clear HJ
              go_wp2
              go_roundw
              case rel => exact ⟨4, by omega, by first | rfl | go_num, HJ2, hsz, hcs, BW⟩
              case measure => simp [intOf]
            cases h3 : (c3 == 4)
            · have HJ2 : RowKit.Hid (∀ j, j < 4 → crn2 sn ⟨c0, c1, c2, c3⟩ j = false) := Lib.hid fun j hj => by
                by_cases h : j < 3
                · exact HJ.out j h
                · obtain rfl : j = 3 := by omega
                  simp [crn2, A4.get, h2, h3]
              clear HJ
              go_wp2
              go_roundw
              case rel => exact ⟨4, by omega, by first | rfl | go_num, HJ2, hsz, hcs, BW⟩
              case measure => simp [intOf]
            cases h4 : (c0 == 4)
            · have HJ2 : RowKit.Hid (∀ j, j < 4 → crn2 sn ⟨c0, c1, c2, c3⟩ j = false) := Lib.hid fun j hj => by
                by_cases h : j < 3
                · exact HJ.out j h
                · obtain rfl : j = 3 := by omega
                  simp [crn2, A4.get, h2, h3, h4]
              clear HJ
              go_wp2
              go_roundw
              case rel => exact ⟨4, by omega, by first | rfl | go_num, HJ2, hsz, hcs, BW⟩
              case measure => simp [intOf]
            have Z2 := Lib.hid (Z.out.trans (rrune_corner sn ⟨c0, c1, c2, c3⟩ (HNB.out) hsn.out 3 (by omega) (by simp [crn2, A4.get, h2, h3, h4])))
            clear Z HJ
            go_wp2_with fail
            refine (with4 _ _ _ _ _).mono ?_
            rintro e w2 ⟨rfl, hb2⟩
            have B2 := below_via hb2 BW
            clear hb2
            go_wp2
            go_ret
            exact ⟨by rw [Z2.out]; rfl, B2⟩
        · obtain rfl : k = 4 := by omega
          have Z2 := Lib.hid (Z.out.trans (rrune_other sn ⟨c0, c1, c2, c3⟩ HNB.out hsn.out HJ.out))
          clear Z HJ HNB hk hlt
          obtain ⟨c, hc⟩ : ∃ c : A4, c = ⟨c0, c1, c2, c3⟩ := ⟨_, rfl⟩
          rw [← hc] at Z2
          have HC := Lib.hid hc
          clear hc
          have n_ := sn
          go_wp2
          go_loopw [7] (fun i wr => ∃ k : Nat, k ≤ 4 ∧ i = .int .i64 k ∧ (w.heap.size < wr.heap.size ∧ wr.frozen? ⟨w.heap.size, 0, none⟩ = false ∧ wr.frozen? ⟨w.heap.size, 1, none⟩ = false ∧ wr.frozen? ⟨w.heap.size, 2, none⟩ = false ∧ wr.frozen? ⟨w.heap.size, 3, none⟩ = false) ∧ RowKit.Hid (wr.cell? ⟨w.heap.size, 0, none⟩ = some (.int .i8 (it (r3s sb) c k).u) ∧ wr.cell? ⟨w.heap.size, 1, none⟩ = some (.int .i8 (it (r3s sb) c k).r) ∧ wr.cell? ⟨w.heap.size, 2, none⟩ = some (.int .i8 (it (r3s sb) c k).d) ∧ wr.cell? ⟨w.heap.size, 3, none⟩ = some (.int .i8 (it (r3s sb) c k).l)) ∧ Below w.heap.size w wr) (fun i _ => 4 - (intOf i).toNat)
          case atStart => exact ⟨0, by omega, rfl, hsz, Lib.hid (by rw [show it (r3s sb) c 0 = c from rfl, HC.out]; exact hcs), BW⟩
          case round =>
            clear hsz hcs BW HC
            rename_i wr
            obtain ⟨k, hk, rfl, hsz, hcs, BW⟩ := hrel
            by_cases hlt : k < 4
            · have E : RowKit.Hid (it (r3s sb) c (k + 1) = r3s sb (it (r3s sb) c k) k) := Lib.hid rfl
              generalize it (r3s sb) c k = s at E hcs
              obtain ⟨s0, s1, s2, s3⟩ := s
              clear Z2
              rcases (show k = 0 ∨ k = 1 ∨ k = 2 ∨ k = 3 by omega) with rfl | rfl | rfl | rfl
              · have hcs' := hcs.out
                simp only [] at hcs'
                clear hcs
                cases sb
                · by_cases h4 : s0 = 4
                  · subst h4
                    have E2 : RowKit.Hid (it (r3s false) c 1 = (⟨1, s1, s2, s3⟩ : A4)) := Lib.hid (by rw [E.out]; simp [r3s, A4.get, A4.put])
                    clear E
                    go_wp2
                    go_roundw
                    case rel => exact ⟨1, by omega, by first | rfl | go_num, by simp [go_sem, hsz], Lib.hid (by rw [E2.out]; simp [go_sem, hsz, hcs']), by go_grown⟩
                    case measure => simp [intOf]
                  have h4' : (s0 == 4) = false := by simp [h4]
                  have E2 : RowKit.Hid (it (r3s false) c 1 = (⟨s0, s1, s2, s3⟩ : A4)) := Lib.hid (by rw [E.out]; simp [r3s, A4.get, A4.put, h4])
                  clear E
                  go_wp2
                  go_roundw
                  case rel => exact ⟨1, by omega, by first | rfl | go_num, by simp [go_sem, hsz], Lib.hid (by rw [E2.out]; simp [go_sem, hsz, hcs']), by go_grown⟩
                  case measure => simp [intOf]
                · by_cases h4 : s0 = 4
                  · subst h4
                    have E2 : RowKit.Hid (it (r3s true) c 1 = (⟨1, s1, s2, s3⟩ : A4)) := Lib.hid (by rw [E.out]; simp [r3s, A4.get, A4.put])
                    clear E
                    go_wp2
                    go_roundw
                    case rel => exact ⟨1, by omega, by first | rfl | go_num, by simp [go_sem, hsz], Lib.hid (by rw [E2.out]; simp [go_sem, hsz, hcs']), by go_grown⟩
                    case measure => simp [intOf]
                  have h4' : (s0 == 4) = false := by simp [h4]
                  by_cases h2 : s0 = 2
                  · subst h2
                    have E2 : RowKit.Hid (it (r3s true) c 1 = (⟨3, s1, s2, s3⟩ : A4)) := Lib.hid (by rw [E.out]; simp [r3s, A4.get, A4.put])
                    clear E
                    go_wp2
                    go_roundw
                    case rel => exact ⟨1, by omega, by first | rfl | go_num, by simp [go_sem, hsz], Lib.hid (by rw [E2.out]; simp [go_sem, hsz, hcs']), by go_grown⟩
                    case measure => simp [intOf]
                  have h2' : (s0 == 2) = false := by simp [h2]
                  have E2 : RowKit.Hid (it (r3s true) c 1 = (⟨s0, s1, s2, s3⟩ : A4)) := Lib.hid (by rw [E.out]; simp [r3s, A4.get, A4.put, h4, h2])
                  clear E
                  go_wp2
                  go_roundw
                  case rel => exact ⟨1, by omega, by first | rfl | go_num, by simp [go_sem, hsz], Lib.hid (by rw [E2.out]; simp [go_sem, hsz, hcs']), by go_grown⟩
                  case measure => simp [intOf]
              · have hcs' := hcs.out
                simp only [] at hcs'
                clear hcs
                cases sb
                · by_cases h4 : s1 = 4
                  · subst h4
                    have E2 : RowKit.Hid (it (r3s false) c 2 = (⟨s0, 1, s2, s3⟩ : A4)) := Lib.hid (by rw [E.out]; simp [r3s, A4.get, A4.put])
                    clear E
                    go_wp2
                    go_roundw
                    case rel => exact ⟨2, by omega, by first | rfl | go_num, by simp [go_sem, hsz], Lib.hid (by rw [E2.out]; simp [go_sem, hsz, hcs']), by go_grown⟩
                    case measure => simp [intOf]
                  have h4' : (s1 == 4) = false := by simp [h4]
                  have E2 : RowKit.Hid (it (r3s false) c 2 = (⟨s0, s1, s2, s3⟩ : A4)) := Lib.hid (by rw [E.out]; simp [r3s, A4.get, A4.put, h4])
                  clear E
                  go_wp2
                  go_roundw
                  case rel => exact ⟨2, by omega, by first | rfl | go_num, by simp [go_sem, hsz], Lib.hid (by rw [E2.out]; simp [go_sem, hsz, hcs']), by go_grown⟩
                  case measure => simp [intOf]
                · by_cases h4 : s1 = 4
                  · subst h4
                    have E2 : RowKit.Hid (it (r3s true) c 2 = (⟨s0, 1, s2, s3⟩ : A4)) := Lib.hid (by rw [E.out]; simp [r3s, A4.get, A4.put])
                    clear E
                    go_wp2
                    go_roundw
                    case rel => exact ⟨2, by omega, by first | rfl | go_num, by simp [go_sem, hsz], Lib.hid (by rw [E2.out]; simp [go_sem, hsz, hcs']), by go_grown⟩
                    case measure => simp [intOf]
                  have h4' : (s1 == 4) = false := by simp [h4]
                  by_cases h2 : s1 = 2
                  · subst h2
                    have E2 : RowKit.Hid (it (r3s true) c 2 = (⟨s0, 3, s2, s3⟩ : A4)) := Lib.hid (by rw [E.out]; simp [r3s, A4.get, A4.put])
                    clear E
                    go_wp2
                    go_roundw
                    case rel => exact ⟨2, by omega, by first | rfl | go_num, by simp [go_sem, hsz], Lib.hid (by rw [E2.out]; simp [go_sem, hsz, hcs']), by go_grown⟩
                    case measure => simp [intOf]
                  have h2' : (s1 == 2) = false := by simp [h2]
                  have E2 : RowKit.Hid (it (r3s true) c 2 = (⟨s0, s1, s2, s3⟩ : A4)) := Lib.hid (by rw [E.out]; simp [r3s, A4.get, A4.put, h4, h2])
                  clear E
                  go_wp2
                  go_roundw
                  case rel => exact ⟨2, by omega, by first | rfl | go_num, by simp [go_sem, hsz], Lib.hid (by rw [E2.out]; simp [go_sem, hsz, hcs']), by go_grown⟩
                  case measure => simp [intOf]
              · have hcs' := hcs.out
                simp only [] at hcs'
                clear hcs
                cases sb
                · by_cases h4 : s2 = 4
                  · subst h4
                    have E2 : RowKit.Hid (it (r3s false) c 3 = (⟨s0, s1, 1, s3⟩ : A4)) := Lib.hid (by rw [E.out]; simp [r3s, A4.get, A4.put])
                    clear E
                    go_wp2
                    go_roundw
                    case rel => exact ⟨3, by omega, by first | rfl | go_num, by simp [go_sem, hsz], Lib.hid (by rw [E2.out]; simp [go_sem, hsz, hcs']), by go_grown⟩
                    case measure => simp [intOf]
                  have h4' : (s2 == 4) = false := by simp [h4]
                  have E2 : RowKit.Hid (it (r3s false) c 3 = (⟨s0, s1, s2, s3⟩ : A4)) := Lib.hid (by rw [E.out]; simp [r3s, A4.get, A4.put, h4])
                  clear E
                  go_wp2
                  go_roundw
                  case rel => exact ⟨3, by omega, by first | rfl | go_num, by simp [go_sem, hsz], Lib.hid (by rw [E2.out]; simp [go_sem, hsz, hcs']), by go_grown⟩
                  case measure => simp [intOf]
                · by_cases h4 : s2 = 4
                  · subst h4
                    have E2 : RowKit.Hid (it (r3s true) c 3 = (⟨s0, s1, 1, s3⟩ : A4)) := Lib.hid (by rw [E.out]; simp [r3s, A4.get, A4.put])
                    clear E
                    go_wp2
                    go_roundw
                    case rel => exact ⟨3, by omega, by first | rfl | go_num, by simp [go_sem, hsz], Lib.hid (by rw [E2.out]; simp [go_sem, hsz, hcs']), by go_grown⟩
                    case measure => simp [intOf]
                  have h4' : (s2 == 4) = false := by simp [h4]
                  by_cases h2 : s2 = 2
                  · subst h2
                    have E2 : RowKit.Hid (it (r3s true) c 3 = (⟨s0, s1, 3, s3⟩ : A4)) := Lib.hid (by rw [E.out]; simp [r3s, A4.get, A4.put])
                    clear E
                    go_wp2
                    go_roundw
                    case rel => exact ⟨3, by omega, by first | rfl | go_num, by simp [go_sem, hsz], Lib.hid (by rw [E2.out]; simp [go_sem, hsz, hcs']), by go_grown⟩
                    case measure => simp [intOf]
                  have h2' : (s2 == 2) = false := by simp [h2]
                  have E2 : RowKit.Hid (it (r3s true) c 3 = (⟨s0, s1, s2, s3⟩ : A4)) := Lib.hid (by rw [E.out]; simp [r3s, A4.get, A4.put, h4, h2])
                  clear E
                  go_wp2
                  go_roundw
                  case rel => exact ⟨3, by omega, by first | rfl | go_num, by simp [go_sem, hsz], Lib.hid (by rw [E2.out]; simp [go_sem, hsz, hcs']), by go_grown⟩
                  case measure => simp [intOf]
              · have hcs' := hcs.out
                simp only [] at hcs'
                clear hcs
                cases sb
                · by_cases h4 : s3 = 4
                  · subst h4
                    have E2 : RowKit.Hid (it (r3s false) c 4 = (⟨s0, s1, s2, 1⟩ : A4)) := Lib.hid (by rw [E.out]; simp [r3s, A4.get, A4.put])
                    clear E
                    go_wp2
                    go_roundw
                    case rel => exact ⟨4, by omega, by first | rfl | go_num, by simp [go_sem, hsz], Lib.hid (by rw [E2.out]; simp [go_sem, hsz, hcs']), by go_grown⟩
                    case measure => simp [intOf]
                  have h4' : (s3 == 4) = false := by simp [h4]
                  have E2 : RowKit.Hid (it (r3s false) c 4 = (⟨s0, s1, s2, s3⟩ : A4)) := Lib.hid (by rw [E.out]; simp [r3s, A4.get, A4.put, h4])
                  clear E
                  go_wp2
                  go_roundw
                  case rel => exact ⟨4, by omega, by first | rfl | go_num, by simp [go_sem, hsz], Lib.hid (by rw [E2.out]; simp [go_sem, hsz, hcs']), by go_grown⟩
                  case measure => simp [intOf]
                · by_cases h4 : s3 = 4
                  · subst h4
                    have E2 : RowKit.Hid (it (r3s true) c 4 = (⟨s0, s1, s2, 1⟩ : A4)) := Lib.hid (by rw [E.out]; simp [r3s, A4.get, A4.put])
                    clear E
                    go_wp2
                    go_roundw
                    case rel => exact ⟨4, by omega, by first | rfl | go_num, by simp [go_sem, hsz], Lib.hid (by rw [E2.out]; simp [go_sem, hsz, hcs']), by go_grown⟩
                    case measure => simp [intOf]
                  have h4' : (s3 == 4) = false := by simp [h4]
                  by_cases h2 : s3 = 2
                  · subst h2
                    have E2 : RowKit.Hid (it (r3s true) c 4 = (⟨s0, s1, s2, 3⟩ : A4)) := Lib.hid (by rw [E.out]; simp [r3s, A4.get, A4.put])
                    clear E
                    go_wp2
                    go_roundw
                    case rel => exact ⟨4, by omega, by first | rfl | go_num, by simp [go_sem, hsz], Lib.hid (by rw [E2.out]; simp [go_sem, hsz, hcs']), by go_grown⟩
                    case measure => simp [intOf]
                  have h2' : (s3 == 2) = false := by simp [h2]
                  have E2 : RowKit.Hid (it (r3s true) c 4 = (⟨s0, s1, s2, s3⟩ : A4)) := Lib.hid (by rw [E.out]; simp [r3s, A4.get, A4.put, h4, h2])
                  clear E
                  go_wp2
                  go_roundw
                  case rel => exact ⟨4, by omega, by first | rfl | go_num, by simp [go_sem, hsz], Lib.hid (by rw [E2.out]; simp [go_sem, hsz, hcs']), by go_grown⟩
                  case measure => simp [intOf]
            · obtain rfl : k = 4 := by omega
              generalize it (r3s sb) c 4 = b2 at Z2 hcs
              have hcs' := hcs.out
              clear hcs hk hlt
              go_wp2
              go_loopw [8] (fun i wr => ∃ k : Nat, k ≤ 4 ∧ i = .int .i64 k ∧ (w.heap.size < wr.heap.size ∧ wr.frozen? ⟨w.heap.size, 0, none⟩ = false ∧ wr.frozen? ⟨w.heap.size, 1, none⟩ = false ∧ wr.frozen? ⟨w.heap.size, 2, none⟩ = false ∧ wr.frozen? ⟨w.heap.size, 3, none⟩ = false) ∧ RowKit.Hid (wr.cell? ⟨w.heap.size, 0, none⟩ = some (.int .i8 (it (d2s sn) b2 k).u) ∧ wr.cell? ⟨w.heap.size, 1, none⟩ = some (.int .i8 (it (d2s sn) b2 k).r) ∧ wr.cell? ⟨w.heap.size, 2, none⟩ = some (.int .i8 (it (d2s sn) b2 k).d) ∧ wr.cell? ⟨w.heap.size, 3, none⟩ = some (.int .i8 (it (d2s sn) b2 k).l)) ∧ Below w.heap.size w wr) (fun i _ => 4 - (intOf i).toNat)
              case atStart => exact ⟨0, by omega, rfl, hsz, Lib.hid hcs', BW⟩
              case round =>
                clear hcs' hsz BW
                rename_i wr
                obtain ⟨k, hk, rfl, hsz, hcs, BW⟩ := hrel
                by_cases hlt : k < 4
                · have E : RowKit.Hid (it (d2s sn) b2 (k + 1) = d2b sn (d2a (it (d2s sn) b2 k) k) k) := Lib.hid rfl
                  generalize it (d2s sn) b2 k = s at E hcs
                  obtain ⟨s0, s1, s2, s3⟩ := s
                  clear Z2
                  rcases (show k = 0 ∨ k = 1 ∨ k = 2 ∨ k = 3 by omega) with rfl | rfl | rfl | rfl
                  · have hcs' := hcs.out
                    simp only [] at hcs'
                    clear hcs
                    by_cases h2 : s0 = 3
                    · subst h2
                      by_cases h3 : s2 = 0
                      · subst h3
                        by_cases ht : sn = 1
                        · have ht' : (sn == 1) = true := by simp [ht]
                          have HT := Lib.hid ht
                          clear ht
                          have E2 : RowKit.Hid (it (d2s sn) b2 1 = (⟨2, s1, 0, s3⟩ : A4)) := Lib.hid (by rw [E.out]; simp [d2a, d2b, A4.get, A4.put, HT.out])
                          clear E
                          go_wp2
                          go_roundw
                          case rel => exact ⟨1, by omega, by first | rfl | go_num, by simp [go_sem, hsz], Lib.hid (by rw [E2.out]; simp [go_sem, hsz, hcs']), by go_grown⟩
                          case measure => simp [intOf]
                        · have ht' : (sn == 1) = false := by simp [ht]
                          have E2 : RowKit.Hid (it (d2s sn) b2 1 = (⟨3, s1, 0, s3⟩ : A4)) := Lib.hid (by rw [E.out]; simp [d2a, d2b, A4.get, A4.put, ht])
                          clear E
                          go_wp2
                          go_roundw
                          case rel => exact ⟨1, by omega, by first | rfl | go_num, by simp [go_sem, hsz], Lib.hid (by rw [E2.out]; simp [go_sem, hsz, hcs']), by go_grown⟩
                          case measure => simp [intOf]
                      · have h4 : (s2 == 0) = false := by simp [h3]
                        have h5 : (s2 != 0) = true := by simp [h3]
                        by_cases ht : sn = 1
                        · have ht' : (sn == 1) = true := by simp [ht]
                          have HT := Lib.hid ht
                          clear ht
                          have E2 : RowKit.Hid (it (d2s sn) b2 1 = (⟨2, s1, 3, s3⟩ : A4)) := Lib.hid (by rw [E.out]; simp [d2a, d2b, A4.get, A4.put, h3, HT.out])
                          clear E
                          go_wp2
                          go_roundw
                          case rel => exact ⟨1, by omega, by first | rfl | go_num, by simp [go_sem, hsz], Lib.hid (by rw [E2.out]; simp [go_sem, hsz, hcs']), by go_grown⟩
                          case measure => simp [intOf]
                        · have ht' : (sn == 1) = false := by simp [ht]
                          have E2 : RowKit.Hid (it (d2s sn) b2 1 = (⟨3, s1, 3, s3⟩ : A4)) := Lib.hid (by rw [E.out]; simp [d2a, d2b, A4.get, A4.put, h3, ht])
                          clear E
                          go_wp2
                          go_roundw
                          case rel => exact ⟨1, by omega, by first | rfl | go_num, by simp [go_sem, hsz], Lib.hid (by rw [E2.out]; simp [go_sem, hsz, hcs']), by go_grown⟩
                          case measure => simp [intOf]
                    · have h2' : (s0 == 3) = false := by simp [h2]
                      have E2 : RowKit.Hid (it (d2s sn) b2 1 = (⟨s0, s1, s2, s3⟩ : A4)) := Lib.hid (by rw [E.out]; simp [d2a, d2b, A4.get, A4.put, h2])
                      clear E
                      go_wp2
                      go_roundw
                      case rel => exact ⟨1, by omega, by first | rfl | go_num, by simp [go_sem, hsz], Lib.hid (by rw [E2.out]; simp [go_sem, hsz, hcs']), by go_grown⟩
                      case measure => simp [intOf]
                  · have hcs' := hcs.out
                    simp only [] at hcs'
                    clear hcs
                    by_cases h2 : s1 = 3
                    · subst h2
                      by_cases h3 : s3 = 0
                      · subst h3
                        by_cases ht : sn = 1
                        · have ht' : (sn == 1) = true := by simp [ht]
                          have HT := Lib.hid ht
                          clear ht
                          have E2 : RowKit.Hid (it (d2s sn) b2 2 = (⟨s0, 2, s2, 0⟩ : A4)) := Lib.hid (by rw [E.out]; simp [d2a, d2b, A4.get, A4.put, HT.out])
                          clear E
                          go_wp2
                          go_roundw
                          case rel => exact ⟨2, by omega, by first | rfl | go_num, by simp [go_sem, hsz], Lib.hid (by rw [E2.out]; simp [go_sem, hsz, hcs']), by go_grown⟩
                          case measure => simp [intOf]
                        · have ht' : (sn == 1) = false := by simp [ht]
                          have E2 : RowKit.Hid (it (d2s sn) b2 2 = (⟨s0, 3, s2, 0⟩ : A4)) := Lib.hid (by rw [E.out]; simp [d2a, d2b, A4.get, A4.put, ht])
                          clear E
                          go_wp2
                          go_roundw
                          case rel => exact ⟨2, by omega, by first | rfl | go_num, by simp [go_sem, hsz], Lib.hid (by rw [E2.out]; simp [go_sem, hsz, hcs']), by go_grown⟩
                          case measure => simp [intOf]
                      · have h4 : (s3 == 0) = false := by simp [h3]
                        have h5 : (s3 != 0) = true := by simp [h3]
                        by_cases ht : sn = 1
                        · have ht' : (sn == 1) = true := by simp [ht]
                          have HT := Lib.hid ht
                          clear ht
                          have E2 : RowKit.Hid (it (d2s sn) b2 2 = (⟨s0, 2, s2, 3⟩ : A4)) := Lib.hid (by rw [E.out]; simp [d2a, d2b, A4.get, A4.put, h3, HT.out])
                          clear E
                          go_wp2
                          go_roundw
                          case rel => exact ⟨2, by omega, by first | rfl | go_num, by simp [go_sem, hsz], Lib.hid (by rw [E2.out]; simp [go_sem, hsz, hcs']), by go_grown⟩
                          case measure => simp [intOf]
                        · have ht' : (sn == 1) = false := by simp [ht]
                          have E2 : RowKit.Hid (it (d2s sn) b2 2 = (⟨s0, 3, s2, 3⟩ : A4)) := Lib.hid (by rw [E.out]; simp [d2a, d2b, A4.get, A4.put, h3, ht])
                          clear E
                          go_wp2
                          go_roundw
                          case rel => exact ⟨2, by omega, by first | rfl | go_num, by simp [go_sem, hsz], Lib.hid (by rw [E2.out]; simp [go_sem, hsz, hcs']), by go_grown⟩
                          case measure => simp [intOf]
                    · have h2' : (s1 == 3) = false := by simp [h2]
                      have E2 : RowKit.Hid (it (d2s sn) b2 2 = (⟨s0, s1, s2, s3⟩ : A4)) := Lib.hid (by rw [E.out]; simp [d2a, d2b, A4.get, A4.put, h2])
                      clear E
                      go_wp2
                      go_roundw
                      case rel => exact ⟨2, by omega, by first | rfl | go_num, by simp [go_sem, hsz], Lib.hid (by rw [E2.out]; simp [go_sem, hsz, hcs']), by go_grown⟩
                      case measure => simp [intOf]
                  · have hcs' := hcs.out
                    simp only [] at hcs'
                    clear hcs
                    by_cases h2 : s2 = 3
                    · subst h2
                      by_cases h3 : s0 = 0
                      · subst h3
                        by_cases ht : sn = 1
                        · have ht' : (sn == 1) = true := by simp [ht]
                          have HT := Lib.hid ht
                          clear ht
                          have E2 : RowKit.Hid (it (d2s sn) b2 3 = (⟨0, s1, 2, s3⟩ : A4)) := Lib.hid (by rw [E.out]; simp [d2a, d2b, A4.get, A4.put, HT.out])
                          clear E
                          go_wp2
                          go_roundw
                          case rel => exact ⟨3, by omega, by first | rfl | go_num, by simp [go_sem, hsz], Lib.hid (by rw [E2.out]; simp [go_sem, hsz, hcs']), by go_grown⟩
                          case measure => simp [intOf]
                        · have ht' : (sn == 1) = false := by simp [ht]
                          have E2 : RowKit.Hid (it (d2s sn) b2 3 = (⟨0, s1, 3, s3⟩ : A4)) := Lib.hid (by rw [E.out]; simp [d2a, d2b, A4.get, A4.put, ht])
                          clear E
                          go_wp2
                          go_roundw
                          case rel => exact ⟨3, by omega, by first | rfl | go_num, by simp [go_sem, hsz], Lib.hid (by rw [E2.out]; simp [go_sem, hsz, hcs']), by go_grown⟩
                          case measure => simp [intOf]
                      · have h4 : (s0 == 0) = false := by simp [h3]
                        have h5 : (s0 != 0) = true := by simp [h3]
                        by_cases ht : sn = 1
                        · have ht' : (sn == 1) = true := by simp [ht]
                          have HT := Lib.hid ht
                          clear ht
                          have E2 : RowKit.Hid (it (d2s sn) b2 3 = (⟨3, s1, 2, s3⟩ : A4)) := Lib.hid (by rw [E.out]; simp [d2a, d2b, A4.get, A4.put, h3, HT.out])
                          clear E
                          go_wp2
                          go_roundw
                          case rel => exact ⟨3, by omega, by first | rfl | go_num, by simp [go_sem, hsz], Lib.hid (by rw [E2.out]; simp [go_sem, hsz, hcs']), by go_grown⟩
                          case measure => simp [intOf]
                        · have ht' : (sn == 1) = false := by simp [ht]
                          have E2 : RowKit.Hid (it (d2s sn) b2 3 = (⟨3, s1, 3, s3⟩ : A4)) := Lib.hid (by rw [E.out]; simp [d2a, d2b, A4.get, A4.put, h3, ht])
                          clear E
                          go_wp2
                          go_roundw
                          case rel => exact ⟨3, by omega, by first | rfl | go_num, by simp [go_sem, hsz], Lib.hid (by rw [E2.out]; simp [go_sem, hsz, hcs']), by go_grown⟩
                          case measure => simp [intOf]
                    · have h2' : (s2 == 3) = false := by simp [h2]
                      have E2 : RowKit.Hid (it (d2s sn) b2 3 = (⟨s0, s1, s2, s3⟩ : A4)) := Lib.hid (by rw [E.out]; simp [d2a, d2b, A4.get, A4.put, h2])
                      clear E
                      go_wp2
                      go_roundw
                      case rel => exact ⟨3, by omega, by first | rfl | go_num, by simp [go_sem, hsz], Lib.hid (by rw [E2.out]; simp [go_sem, hsz, hcs']), by go_grown⟩
                      case measure => simp [intOf]
                  · have hcs' := hcs.out
                    simp only [] at hcs'
                    clear hcs
                    by_cases h2 : s3 = 3
                    · subst h2
                      by_cases h3 : s1 = 0
                      · subst h3
                        by_cases ht : sn = 1
                        · have ht' : (sn == 1) = true := by simp [ht]
                          have HT := Lib.hid ht
                          clear ht
                          have E2 : RowKit.Hid (it (d2s sn) b2 4 = (⟨s0, 0, s2, 2⟩ : A4)) := Lib.hid (by rw [E.out]; simp [d2a, d2b, A4.get, A4.put, HT.out])
                          clear E
                          go_wp2
                          go_roundw
                          case rel => exact ⟨4, by omega, by first | rfl | go_num, by simp [go_sem, hsz], Lib.hid (by rw [E2.out]; simp [go_sem, hsz, hcs']), by go_grown⟩
                          case measure => simp [intOf]
                        · have ht' : (sn == 1) = false := by simp [ht]
                          have E2 : RowKit.Hid (it (d2s sn) b2 4 = (⟨s0, 0, s2, 3⟩ : A4)) := Lib.hid (by rw [E.out]; simp [d2a, d2b, A4.get, A4.put, ht])
                          clear E
                          go_wp2
                          go_roundw
                          case rel => exact ⟨4, by omega, by first | rfl | go_num, by simp [go_sem, hsz], Lib.hid (by rw [E2.out]; simp [go_sem, hsz, hcs']), by go_grown⟩
                          case measure => simp [intOf]
                      · have h4 : (s1 == 0) = false := by simp [h3]
                        have h5 : (s1 != 0) = true := by simp [h3]
                        by_cases ht : sn = 1
                        · have ht' : (sn == 1) = true := by simp [ht]
                          have HT := Lib.hid ht
                          clear ht
                          have E2 : RowKit.Hid (it (d2s sn) b2 4 = (⟨s0, 3, s2, 2⟩ : A4)) := Lib.hid (by rw [E.out]; simp [d2a, d2b, A4.get, A4.put, h3, HT.out])
                          clear E
                          go_wp2
                          go_roundw
                          case rel => exact ⟨4, by omega, by first | rfl | go_num, by simp [go_sem, hsz], Lib.hid (by rw [E2.out]; simp [go_sem, hsz, hcs']), by go_grown⟩
                          case measure => simp [intOf]
                        · have ht' : (sn == 1) = false := by simp [ht]
                          have E2 : RowKit.Hid (it (d2s sn) b2 4 = (⟨s0, 3, s2, 3⟩ : A4)) := Lib.hid (by rw [E.out]; simp [d2a, d2b, A4.get, A4.put, h3, ht])
                          clear E
                          go_wp2
                          go_roundw
                          case rel => exact ⟨4, by omega, by first | rfl | go_num, by simp [go_sem, hsz], Lib.hid (by rw [E2.out]; simp [go_sem, hsz, hcs']), by go_grown⟩
                          case measure => simp [intOf]
                    · have h2' : (s3 == 3) = false := by simp [h2]
                      have E2 : RowKit.Hid (it (d2s sn) b2 4 = (⟨s0, s1, s2, s3⟩ : A4)) := Lib.hid (by rw [E.out]; simp [d2a, d2b, A4.get, A4.put, h2])
                      clear E
                      go_wp2
                      go_roundw
                      case rel => exact ⟨4, by omega, by first | rfl | go_num, by simp [go_sem, hsz], Lib.hid (by rw [E2.out]; simp [go_sem, hsz, hcs']), by go_grown⟩
                      case measure => simp [intOf]
                · obtain rfl : k = 4 := by omega
                  generalize it (d2s sn) b2 4 = q at Z2 hcs
                  obtain ⟨q0, q1, q2, q3⟩ := q
                  have hcs' := hcs.out
                  simp only [] at hcs'
                  clear hcs
                  go_wp2_with fail
                  refine (with4 _ _ _ _ _).mono ?_
                  rintro e w2 ⟨rfl, hb2⟩
                  have B2 := below_via hb2 BW
                  clear hb2
                  go_wp2
                  go_ret
                  exact ⟨by rw [Z2.out]; rfl, B2⟩
end Go.Proofs.Ytebalohoblaedaa
