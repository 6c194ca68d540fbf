/- Layer 13: Rune. -/
import Derived.Test.YtebalohoblaedaaGlyD
namespace Go.Proofs.Ytebalohoblaedaa
open Go.RowKit
set_option linter.unusedVariables false
set_option linter.unusedSimpArgs false

structure St where
  a : A4
  n : Int
  b : Bool
def r2 (s : St) (i : Nat) : St := if s.a.get i = 0 then s else if s.a.get i = 4 then ⟨s.a.put i 1, s.n + 1, s.b⟩ else if s.a.get i = 3 then ⟨s.a, s.n + 1, true⟩ else ⟨s.a, s.n + 1, s.b⟩
def itr (c : A4) : Nat → St | 0 => ⟨c, 0, false⟩ | k + 1 => r2 (itr c k) k
def crnB (a b c d : Int) (j : Nat) : Bool := match j with | 0 => (a == 4 && b == 4 && c == 0 && d == 0) | 1 => (a == 0 && b == 4 && c == 4 && d == 0) | 2 => (a == 0 && b == 0 && c == 4 && d == 4) | _ => (a == 4 && b == 0 && c == 0 && d == 4)
def isCorner (c : A4) : Bool := (c.u == 4 && c.r == 4 && c.d == 0 && c.l == 0) || (c.u == 0 && c.r == 4 && c.d == 4 && c.l == 0) || (c.u == 0 && c.r == 0 && c.d == 4 && c.l == 4) || (c.u == 4 && c.r == 0 && c.d == 0 && c.l == 4)
def isNone4 (c : A4) : Bool := c.u == 0 && c.r == 0 && c.d == 0 && c.l == 0
def runeS (s : St) : Int := if s.b = true then seekA (dblA s.a s.n) else seekA s.a
/-- the character of arms that count -/
def runeC (c : A4) : Int := if isNone4 c = true then 32 else if isCorner c = true then seekA c else runeS (itr c 4)
def cntA (a : A4) : A4 := ⟨cnt a.u, cnt a.r, cnt a.d, cnt a.l⟩
/-- the character of any arms -/
def runeA (a : A4) : Int := runeC (cntA a)
theorem seek4 (a b c d : Int) (w : World) : Calls Try.prog 34 #[.agg #[.int .i8 a, .int .i8 b, .int .i8 c, .int .i8 d]] w fun e w' => e = .returned (.int .i32 (seekA ⟨a, b, c, d⟩)) ∧ Below w.heap.size w w' := seek_any ⟨a, b, c, d⟩ w
theorem doubled4 (a b c d t : Int) (w : World) : Calls Try.prog 35 #[.agg #[.int .i8 a, .int .i8 b, .int .i8 c, .int .i8 d], .int .i64 t] w fun e w' => e = .returned (.agg #[.int .i8 ((dblA ⟨a, b, c, d⟩ t).u), .int .i8 ((dblA ⟨a, b, c, d⟩ t).r), .int .i8 ((dblA ⟨a, b, c, d⟩ t).d), .int .i8 ((dblA ⟨a, b, c, d⟩ t).l)]) ∧ Below w.heap.size w w' := doubled_any ⟨a, b, c, d⟩ t w
theorem corner_0 {a b c d : Int} (h : (a == 4 && b == 4 && c == 0 && d == 0) = true) : isCorner ⟨a, b, c, d⟩ = true ∧ isNone4 ⟨a, b, c, d⟩ = false := by simp at h; obtain ⟨⟨⟨rfl, rfl⟩, rfl⟩, rfl⟩ := h; exact ⟨rfl, rfl⟩
theorem corner_1 {a b c d : Int} (h : (a == 0 && b == 4 && c == 4 && d == 0) = true) : isCorner ⟨a, b, c, d⟩ = true ∧ isNone4 ⟨a, b, c, d⟩ = false := by simp at h; obtain ⟨⟨⟨rfl, rfl⟩, rfl⟩, rfl⟩ := h; exact ⟨rfl, rfl⟩
theorem corner_2 {a b c d : Int} (h : (a == 0 && b == 0 && c == 4 && d == 4) = true) : isCorner ⟨a, b, c, d⟩ = true ∧ isNone4 ⟨a, b, c, d⟩ = false := by simp at h; obtain ⟨⟨⟨rfl, rfl⟩, rfl⟩, rfl⟩ := h; exact ⟨rfl, rfl⟩
theorem corner_3 {a b c d : Int} (h : (a == 4 && b == 0 && c == 0 && d == 4) = true) : isCorner ⟨a, b, c, d⟩ = true ∧ isNone4 ⟨a, b, c, d⟩ = false := by simp at h; obtain ⟨⟨⟨rfl, rfl⟩, rfl⟩, rfl⟩ := h; exact ⟨rfl, rfl⟩
theorem runeC_corner (a b c d : Int) (h : isCorner ⟨a, b, c, d⟩ = true ∧ isNone4 ⟨a, b, c, d⟩ = false) : runeC ⟨a, b, c, d⟩ = seekA ⟨a, b, c, d⟩ := by unfold runeC; rw [h.2, h.1]; rfl
theorem runeC_none (a b c d : Int) (h : (a == 0 && b == 0 && c == 0 && d == 0) = true) : runeC ⟨a, b, c, d⟩ = 32 := by unfold runeC; rw [show isNone4 ⟨a, b, c, d⟩ = true from h]; rfl
theorem runeC_other (a b c d : Int) (h : (a == 0 && b == 0 && c == 0 && d == 0) = false) (h0 : (a == 4 && b == 4 && c == 0 && d == 0) = false) (h1 : (a == 0 && b == 4 && c == 4 && d == 0) = false) (h2 : (a == 0 && b == 0 && c == 4 && d == 4) = false) (h3 : (a == 4 && b == 0 && c == 0 && d == 4) = false) : runeC ⟨a, b, c, d⟩ = runeS (itr ⟨a, b, c, d⟩ 4) := by
  have e : isCorner ⟨a, b, c, d⟩ = false := by unfold isCorner; simp only [h0, h1, h2, h3]; rfl
  unfold runeC; rw [show isNone4 ⟨a, b, c, d⟩ = false from h, e]; rfl

set_option maxRecDepth 100000 in
set_option maxHeartbeats 16000000 in
theorem rune_any (a : A4) (w : World) : Calls Try.prog 14 #[.agg #[.int .i8 a.u, .int .i8 a.r, .int .i8 a.d, .int .i8 a.l]] w fun e w' => e = .returned (.int .i32 (runeA a)) ∧ Below w.heap.size w w' := by
  have Z : RowKit.Hid (runeA a = runeC ⟨cnt a.u, cnt a.r, cnt a.d, cnt a.l⟩) := Lib.hid rfl
  generalize runeA a = z at Z ⊢
  have eqs := eqArms
  go_enter Try.func14, Try.ntmps14
  go_wp2_with fail
  refine (counted_any _ _ _ _ _).mono ?_
  rintro e w1 ⟨rfl, hb⟩
  have B1 : Below w.heap.size w w1 := below_via hb (show Below w.heap.size w _ by go_grown)
  have hsz : (w.heap.size < w1.heap.size ∧ w1.frozen? ⟨w.heap.size, 0, none⟩ = false ∧ w1.frozen? ⟨w.heap.size, 1, none⟩ = false ∧ w1.frozen? ⟨w.heap.size, 2, none⟩ = false ∧ w1.frozen? ⟨w.heap.size, 3, none⟩ = false) := by
    obtain ⟨hc, hf⟩ := bcell hb
    have hz := hb.size
    simp only [World.size_alloc] at hz
    refine ⟨by omega, ?_, ?_, ?_, ?_⟩ <;> (rw [hf _ _ (by simp)]; simp [go_sem])
  have hcs : w1.cell? ⟨w.heap.size, 0, none⟩ = some (.int .i8 a.u) ∧ w1.cell? ⟨w.heap.size, 1, none⟩ = some (.int .i8 a.r) ∧ w1.cell? ⟨w.heap.size, 2, none⟩ = some (.int .i8 a.d) ∧ w1.cell? ⟨w.heap.size, 3, none⟩ = some (.int .i8 a.l) := by
    obtain ⟨hc, hf⟩ := bcell hb
    refine ⟨?_, ?_, ?_, ?_⟩ <;> (rw [hc _ _ (by simp)]; simp [go_sem])
  clear hb
  generalize cnt a.u = c0 at Z ⊢
  generalize cnt a.r = c1 at Z ⊢
  generalize cnt a.d = c2 at Z ⊢
  generalize cnt a.l = c3 at Z ⊢
  cases hn : (c0 == 0 && c1 == 0 && c2 == 0 && c3 == 0)
  rotate_left
  · rw [runeC_none _ _ _ _ hn] at Z
    go_wp2
    go_ret
    exact ⟨by rw [Z.out]; rfl, by go_grown⟩
  go_wp2
  have Hn := Lib.hid hn
  clear hn
  have hcs' : RowKit.Hid (w1.cell? ⟨w.heap.size, 0, none⟩ = some (.int .i8 a.u) ∧ w1.cell? ⟨w.heap.size, 1, none⟩ = some (.int .i8 a.r) ∧ w1.cell? ⟨w.heap.size, 2, none⟩ = some (.int .i8 a.d) ∧ w1.cell? ⟨w.heap.size, 3, none⟩ = some (.int .i8 a.l)) := Lib.hid hcs
  go_loopw [3, 4, 13] (fun _ _ i wr => ∃ k : Nat, k ≤ 4 ∧ i = .int .i64 k ∧ RowKit.Hid (∀ j, j < k → crnB c0 c1 c2 c3 j = false) ∧ (w.heap.size < wr.heap.size ∧ wr.frozen? ⟨w.heap.size, 0, none⟩ = false ∧ wr.frozen? ⟨w.heap.size, 1, none⟩ = false ∧ wr.frozen? ⟨w.heap.size, 2, none⟩ = false ∧ wr.frozen? ⟨w.heap.size, 3, none⟩ = false) ∧ RowKit.Hid (wr.cell? ⟨w.heap.size, 0, none⟩ = some (.int .i8 c0) ∧ wr.cell? ⟨w.heap.size, 1, none⟩ = some (.int .i8 c1) ∧ wr.cell? ⟨w.heap.size, 2, none⟩ = some (.int .i8 c2) ∧ wr.cell? ⟨w.heap.size, 3, none⟩ = some (.int .i8 c3)) ∧ Below w.heap.size w wr) (fun _ _ i _ => 4 - (intOf i).toNat)
  case atStart => exact ⟨0, by omega, rfl, Lib.hid fun j hj => by omega, by simp [go_sem, hsz], Lib.hid (by simp [go_sem, hsz, hcs]), by go_grown⟩
  case round =>
    clear hsz hcs hcs' B1
    rename_i wr
    obtain ⟨k, hk, rfl, HJ, hsz, hcs, BW⟩ := hrel
    by_cases hlt : k < 4
    · rcases (show k = 0 ∨ k = 1 ∨ k = 2 ∨ k = 3 by omega) with rfl | rfl | rfl | rfl
      · have hcs' := hcs.out
        clear hcs
        cases hm : (c0 == 4 && c1 == 4 && c2 == 0 && c3 == 0)
        · have HJ2 : RowKit.Hid (∀ j, j < 1 → crnB c0 c1 c2 c3 j = false) := Lib.hid fun j hj => by
            by_cases h : j < 0
            · exact HJ.out j h
            · obtain rfl : j = 0 := by omega
              exact hm
          clear HJ
          go_wp2_with fail
          go_roundw
          case rel => exact ⟨1, by omega, by first | rfl | go_num, HJ2, by simp [go_sem, hsz] <;> omega, Lib.hid (by simp [go_sem, hsz, hcs']), by go_grown⟩
          case measure => simp [intOf]
        · have Z2 := Lib.hid (Z.out.trans (runeC_corner _ _ _ _ (corner_0 hm)))
          obtain ⟨⟨⟨rfl, rfl⟩, rfl⟩, rfl⟩ : ((c0 = 4 ∧ c1 = 4) ∧ c2 = 0) ∧ c3 = 0 := by simpa using hm
          clear Z hm HJ
          go_wp2_with fail
          refine (seek4 _ _ _ _ _).mono ?_
          rintro e w2 ⟨rfl, hb2⟩
          have B2 := below_via hb2 (show Below w.heap.size w _ by go_grown)
          clear hb2
          go_wp2
          go_ret
          exact ⟨by rw [Z2.out]; rfl, B2⟩
      · have hcs' := hcs.out
        clear hcs
        cases hm : (c0 == 0 && c1 == 4 && c2 == 4 && c3 == 0)
        · have HJ2 : RowKit.Hid (∀ j, j < 2 → crnB c0 c1 c2 c3 j = false) := Lib.hid fun j hj => by
            by_cases h : j < 1
            · exact HJ.out j h
            · obtain rfl : j = 1 := by omega
              exact hm
          clear HJ
          go_wp2_with fail
          go_roundw
          case rel => exact ⟨2, by omega, by first | rfl | go_num, HJ2, by simp [go_sem, hsz] <;> omega, Lib.hid (by simp [go_sem, hsz, hcs']), by go_grown⟩
          case measure => simp [intOf]
        · have Z2 := Lib.hid (Z.out.trans (runeC_corner _ _ _ _ (corner_1 hm)))
          obtain ⟨⟨⟨rfl, rfl⟩, rfl⟩, rfl⟩ : ((c0 = 0 ∧ c1 = 4) ∧ c2 = 4) ∧ c3 = 0 := by simpa using hm
          clear Z hm HJ
          go_wp2_with fail
          refine (seek4 _ _ _ _ _).mono ?_
          rintro e w2 ⟨rfl, hb2⟩
          have B2 := below_via hb2 (show Below w.heap.size w _ by go_grown)
          clear hb2
          go_wp2
          go_ret
          exact ⟨by rw [Z2.out]; rfl, B2⟩
      · have hcs' := hcs.out
        clear hcs
        cases hm : (c0 == 0 && c1 == 0 && c2 == 4 && c3 == 4)
        · have HJ2 : RowKit.Hid (∀ j, j < 3 → crnB c0 c1 c2 c3 j = false) := Lib.hid fun j hj => by
            by_cases h : j < 2
            · exact HJ.out j h
            · obtain rfl : j = 2 := by omega
              exact hm
          clear HJ
          go_wp2_with fail
          go_roundw
          case rel => exact ⟨3, by omega, by first | rfl | go_num, HJ2, by simp [go_sem, hsz] <;> omega, Lib.hid (by simp [go_sem, hsz, hcs']), by go_grown⟩
          case measure => simp [intOf]
        · have Z2 := Lib.hid (Z.out.trans (runeC_corner _ _ _ _ (corner_2 hm)))
          obtain ⟨⟨⟨rfl, rfl⟩, rfl⟩, rfl⟩ : ((c0 = 0 ∧ c1 = 0) ∧ c2 = 4) ∧ c3 = 4 := by simpa using hm
          clear Z hm HJ
          go_wp2_with fail
          refine (seek4 _ _ _ _ _).mono ?_
          rintro e w2 ⟨rfl, hb2⟩
          have B2 := below_via hb2 (show Below w.heap.size w _ by go_grown)
          clear hb2
          go_wp2
          go_ret
          exact ⟨by rw [Z2.out]; rfl, B2⟩
      · have hcs' := hcs.out
        clear hcs
        cases hm : (c0 == 4 && c1 == 0 && c2 == 0 && c3 == 4)
        · have HJ2 : RowKit.Hid (∀ j, j < 4 → crnB c0 c1 c2 c3 j = false) := Lib.hid fun j hj => by
            by_cases h : j < 3
            · exact HJ.out j h
            · obtain rfl : j = 3 := by omega
              exact hm
          clear HJ
          go_wp2_with fail
          go_roundw
          case rel => exact ⟨4, by omega, by first | rfl | go_num, HJ2, by simp [go_sem, hsz] <;> omega, Lib.hid (by simp [go_sem, hsz, hcs']), by go_grown⟩
          case measure => simp [intOf]
        · have Z2 := Lib.hid (Z.out.trans (runeC_corner _ _ _ _ (corner_3 hm)))
          obtain ⟨⟨⟨rfl, rfl⟩, rfl⟩, rfl⟩ : ((c0 = 4 ∧ c1 = 0) ∧ c2 = 0) ∧ c3 = 4 := by simpa using hm
          clear Z hm HJ
          go_wp2_with fail
          refine (seek4 _ _ _ _ _).mono ?_
          rintro e w2 ⟨rfl, hb2⟩
          have B2 := below_via hb2 (show Below w.heap.size w _ by go_grown)
          clear hb2
          go_wp2
          go_ret
          exact ⟨by rw [Z2.out]; rfl, B2⟩
    · obtain rfl : k = 4 := by omega
      rw [runeC_other _ _ _ _ Hn.out (HJ.out 0 (by omega)) (HJ.out 1 (by omega)) (HJ.out 2 (by omega)) (HJ.out 3 (by omega))] at Z
      have hcs' := hcs.out
      clear hcs HJ Hn
      go_wp2
      generalize hc : (⟨c0, c1, c2, c3⟩ : A4) = c at Z
      have HC := Lib.hid hc
      clear hc
      have IT : RowKit.Hid (itr c 0 = ⟨⟨c0, c1, c2, c3⟩, 0, false⟩) := by rw [← HC.out]; exact Lib.hid rfl
      clear HC
      go_loopw [5, 6, 7, 28] (fun n b _ i wr => ∃ k : Nat, ∃ s : St, k ≤ 4 ∧ i = .int .i64 k ∧ n = .int .i64 s.n ∧ b = .bool s.b ∧ RowKit.Hid (itr c k = s) ∧ 0 ≤ s.n ∧ s.n ≤ k ∧ (w.heap.size < wr.heap.size ∧ wr.frozen? ⟨w.heap.size, 0, none⟩ = false ∧ wr.frozen? ⟨w.heap.size, 1, none⟩ = false ∧ wr.frozen? ⟨w.heap.size, 2, none⟩ = false ∧ wr.frozen? ⟨w.heap.size, 3, none⟩ = false) ∧ RowKit.Hid (wr.cell? ⟨w.heap.size, 0, none⟩ = some (.int .i8 (s.a).u) ∧ wr.cell? ⟨w.heap.size, 1, none⟩ = some (.int .i8 (s.a).r) ∧ wr.cell? ⟨w.heap.size, 2, none⟩ = some (.int .i8 (s.a).d) ∧ wr.cell? ⟨w.heap.size, 3, none⟩ = some (.int .i8 (s.a).l)) ∧ Below w.heap.size w wr) (fun _ _ _ i _ => 4 - (intOf i).toNat)
      case atStart => exact ⟨0, ⟨⟨c0, c1, c2, c3⟩, 0, false⟩, by omega, rfl, rfl, rfl, IT, by dsimp only; omega, by dsimp only; omega, hsz, Lib.hid hcs', BW⟩
      case round =>
        clear hcs' hsz BW IT
        rename_i wr
        obtain ⟨k, s, hk, rfl, rfl, rfl, ES, hn0, hn1, hsz, hcs, BW⟩ := hrel
        obtain ⟨⟨s0, s1, s2, s3⟩, sn, sb⟩ := s
        simp only [] at hn0 hn1
        by_cases hlt : k < 4
        · have E : RowKit.Hid (itr c (k + 1) = r2 ⟨⟨s0, s1, s2, s3⟩, sn, sb⟩ k) := by rw [← ES.out]; exact Lib.hid rfl
          clear ES
          rcases (show k = 0 ∨ k = 1 ∨ k = 2 ∨ k = 3 by omega) with rfl | rfl | rfl | rfl
          · have hcs' := hcs.out
            simp only [] at hcs'
            clear hcs
            cases sb
            · by_cases h0 : s0 = 0
              · subst h0
                have E2 : RowKit.Hid (itr c 1 = (⟨⟨0, s1, s2, s3⟩, sn, false⟩ : St)) := Lib.hid (by rw [E.out]; simp [r2, A4.get, A4.put])
                clear E
                go_wp2
                go_roundw
                case rel => exact ⟨1, ⟨⟨0, s1, s2, s3⟩, sn, false⟩, by omega, by first | rfl | go_num, rfl, rfl, E2, by dsimp only; omega, by dsimp only; omega, by simp [go_sem, hsz, hcs'], Lib.hid (by simp [go_sem, hsz, hcs']), by go_grown⟩
                case measure => simp [intOf]
              have h0' : (s0 == 0) = false := by simp [h0]
              have h0'' : (s0 != 0) = true := by simp [h0]
              by_cases h4 : s0 = 4
              · subst h4
                have E2 : RowKit.Hid (itr c 1 = (⟨⟨1, s1, s2, s3⟩, sn + 1, false⟩ : St)) := Lib.hid (by rw [E.out]; simp [r2, A4.get, A4.put])
                clear E
                go_wp2
                go_roundw
                case rel => exact ⟨1, ⟨⟨1, s1, s2, s3⟩, sn + 1, false⟩, by omega, by first | rfl | go_num, rfl, rfl, E2, by dsimp only; omega, by dsimp only; omega, by simp [go_sem, hsz, hcs'], Lib.hid (by simp [go_sem, hsz, hcs']), by go_grown⟩
                case measure => simp [intOf]
              have h4' : (s0 == 4) = false := by simp [h4]
              by_cases h3 : s0 = 3
              · subst h3
                have E2 : RowKit.Hid (itr c 1 = (⟨⟨3, s1, s2, s3⟩, sn + 1, true⟩ : St)) := Lib.hid (by rw [E.out]; simp [r2, A4.get, A4.put])
                clear E
                go_wp2
                go_roundw
                case rel => exact ⟨1, ⟨⟨3, s1, s2, s3⟩, sn + 1, true⟩, by omega, by first | rfl | go_num, rfl, rfl, E2, by dsimp only; omega, by dsimp only; omega, by simp [go_sem, hsz, hcs'], Lib.hid (by simp [go_sem, hsz, hcs']), by go_grown⟩
                case measure => simp [intOf]
              have h3' : (s0 == 3) = false := by simp [h3]
              have E2 : RowKit.Hid (itr c 1 = (⟨⟨s0, s1, s2, s3⟩, sn + 1, false⟩ : St)) := Lib.hid (by rw [E.out]; simp [r2, A4.get, A4.put, h0, h4, h3])
              clear E
              go_wp2
              go_roundw
              case rel => exact ⟨1, ⟨⟨s0, s1, s2, s3⟩, sn + 1, false⟩, by omega, by first | rfl | go_num, rfl, rfl, E2, by dsimp only; omega, by dsimp only; omega, by simp [go_sem, hsz, hcs'], Lib.hid (by simp [go_sem, hsz, hcs']), by go_grown⟩
              case measure => simp [intOf]
            · by_cases h0 : s0 = 0
              · subst h0
                have E2 : RowKit.Hid (itr c 1 = (⟨⟨0, s1, s2, s3⟩, sn, true⟩ : St)) := Lib.hid (by rw [E.out]; simp [r2, A4.get, A4.put])
                clear E
                go_wp2
                go_roundw
                case rel => exact ⟨1, ⟨⟨0, s1, s2, s3⟩, sn, true⟩, by omega, by first | rfl | go_num, rfl, rfl, E2, by dsimp only; omega, by dsimp only; omega, by simp [go_sem, hsz, hcs'], Lib.hid (by simp [go_sem, hsz, hcs']), by go_grown⟩
                case measure => simp [intOf]
              have h0' : (s0 == 0) = false := by simp [h0]
              have h0'' : (s0 != 0) = true := by simp [h0]
              by_cases h4 : s0 = 4
              · subst h4
                have E2 : RowKit.Hid (itr c 1 = (⟨⟨1, s1, s2, s3⟩, sn + 1, true⟩ : St)) := Lib.hid (by rw [E.out]; simp [r2, A4.get, A4.put])
                clear E
                go_wp2
                go_roundw
                case rel => exact ⟨1, ⟨⟨1, s1, s2, s3⟩, sn + 1, true⟩, by omega, by first | rfl | go_num, rfl, rfl, E2, by dsimp only; omega, by dsimp only; omega, by simp [go_sem, hsz, hcs'], Lib.hid (by simp [go_sem, hsz, hcs']), by go_grown⟩
                case measure => simp [intOf]
              have h4' : (s0 == 4) = false := by simp [h4]
              by_cases h3 : s0 = 3
              · subst h3
                have E2 : RowKit.Hid (itr c 1 = (⟨⟨3, s1, s2, s3⟩, sn + 1, true⟩ : St)) := Lib.hid (by rw [E.out]; simp [r2, A4.get, A4.put])
                clear E
                go_wp2
                go_roundw
                case rel => exact ⟨1, ⟨⟨3, s1, s2, s3⟩, sn + 1, true⟩, by omega, by first | rfl | go_num, rfl, rfl, E2, by dsimp only; omega, by dsimp only; omega, by simp [go_sem, hsz, hcs'], Lib.hid (by simp [go_sem, hsz, hcs']), by go_grown⟩
                case measure => simp [intOf]
              have h3' : (s0 == 3) = false := by simp [h3]
              have E2 : RowKit.Hid (itr c 1 = (⟨⟨s0, s1, s2, s3⟩, sn + 1, true⟩ : St)) := Lib.hid (by rw [E.out]; simp [r2, A4.get, A4.put, h0, h4, h3])
              clear E
              go_wp2
              go_roundw
              case rel => exact ⟨1, ⟨⟨s0, s1, s2, s3⟩, sn + 1, true⟩, by omega, by first | rfl | go_num, rfl, rfl, E2, by dsimp only; omega, by dsimp only; omega, by simp [go_sem, hsz, hcs'], Lib.hid (by simp [go_sem, hsz, hcs']), by go_grown⟩
              case measure => simp [intOf]
          · have hcs' := hcs.out
            simp only [] at hcs'
            clear hcs
            cases sb
            · by_cases h0 : s1 = 0
              · subst h0
                have E2 : RowKit.Hid (itr c 2 = (⟨⟨s0, 0, s2, s3⟩, sn, false⟩ : St)) := Lib.hid (by rw [E.out]; simp [r2, A4.get, A4.put])
                clear E
                go_wp2
                go_roundw
                case rel => exact ⟨2, ⟨⟨s0, 0, s2, s3⟩, sn, false⟩, by omega, by first | rfl | go_num, rfl, rfl, E2, by dsimp only; omega, by dsimp only; omega, by simp [go_sem, hsz, hcs'], Lib.hid (by simp [go_sem, hsz, hcs']), by go_grown⟩
                case measure => simp [intOf]
              have h0' : (s1 == 0) = false := by simp [h0]
              have h0'' : (s1 != 0) = true := by simp [h0]
              by_cases h4 : s1 = 4
              · subst h4
                have E2 : RowKit.Hid (itr c 2 = (⟨⟨s0, 1, s2, s3⟩, sn + 1, false⟩ : St)) := Lib.hid (by rw [E.out]; simp [r2, A4.get, A4.put])
                clear E
                go_wp2
                go_roundw
                case rel => exact ⟨2, ⟨⟨s0, 1, s2, s3⟩, sn + 1, false⟩, by omega, by first | rfl | go_num, rfl, rfl, E2, by dsimp only; omega, by dsimp only; omega, by simp [go_sem, hsz, hcs'], Lib.hid (by simp [go_sem, hsz, hcs']), by go_grown⟩
                case measure => simp [intOf]
              have h4' : (s1 == 4) = false := by simp [h4]
              by_cases h3 : s1 = 3
              · subst h3
                have E2 : RowKit.Hid (itr c 2 = (⟨⟨s0, 3, s2, s3⟩, sn + 1, true⟩ : St)) := Lib.hid (by rw [E.out]; simp [r2, A4.get, A4.put])
                clear E
                go_wp2
                go_roundw
                case rel => exact ⟨2, ⟨⟨s0, 3, s2, s3⟩, sn + 1, true⟩, by omega, by first | rfl | go_num, rfl, rfl, E2, by dsimp only; omega, by dsimp only; omega, by simp [go_sem, hsz, hcs'], Lib.hid (by simp [go_sem, hsz, hcs']), by go_grown⟩
                case measure => simp [intOf]
              have h3' : (s1 == 3) = false := by simp [h3]
              have E2 : RowKit.Hid (itr c 2 = (⟨⟨s0, s1, s2, s3⟩, sn + 1, false⟩ : St)) := Lib.hid (by rw [E.out]; simp [r2, A4.get, A4.put, h0, h4, h3])
              clear E
              go_wp2
              go_roundw
              case rel => exact ⟨2, ⟨⟨s0, s1, s2, s3⟩, sn + 1, false⟩, by omega, by first | rfl | go_num, rfl, rfl, E2, by dsimp only; omega, by dsimp only; omega, by simp [go_sem, hsz, hcs'], Lib.hid (by simp [go_sem, hsz, hcs']), by go_grown⟩
              case measure => simp [intOf]
            · by_cases h0 : s1 = 0
              · subst h0
                have E2 : RowKit.Hid (itr c 2 = (⟨⟨s0, 0, s2, s3⟩, sn, true⟩ : St)) := Lib.hid (by rw [E.out]; simp [r2, A4.get, A4.put])
                clear E
                go_wp2
                go_roundw
                case rel => exact ⟨2, ⟨⟨s0, 0, s2, s3⟩, sn, true⟩, by omega, by first | rfl | go_num, rfl, rfl, E2, by dsimp only; omega, by dsimp only; omega, by simp [go_sem, hsz, hcs'], Lib.hid (by simp [go_sem, hsz, hcs']), by go_grown⟩
                case measure => simp [intOf]
              have h0' : (s1 == 0) = false := by simp [h0]
              have h0'' : (s1 != 0) = true := by simp [h0]
              by_cases h4 : s1 = 4
              · subst h4
                have E2 : RowKit.Hid (itr c 2 = (⟨⟨s0, 1, s2, s3⟩, sn + 1, true⟩ : St)) := Lib.hid (by rw [E.out]; simp [r2, A4.get, A4.put])
                clear E
                go_wp2
                go_roundw
                case rel => exact ⟨2, ⟨⟨s0, 1, s2, s3⟩, sn + 1, true⟩, by omega, by first | rfl | go_num, rfl, rfl, E2, by dsimp only; omega, by dsimp only; omega, by simp [go_sem, hsz, hcs'], Lib.hid (by simp [go_sem, hsz, hcs']), by go_grown⟩
                case measure => simp [intOf]
              have h4' : (s1 == 4) = false := by simp [h4]
              by_cases h3 : s1 = 3
              · subst h3
                have E2 : RowKit.Hid (itr c 2 = (⟨⟨s0, 3, s2, s3⟩, sn + 1, true⟩ : St)) := Lib.hid (by rw [E.out]; simp [r2, A4.get, A4.put])
                clear E
                go_wp2
                go_roundw
                case rel => exact ⟨2, ⟨⟨s0, 3, s2, s3⟩, sn + 1, true⟩, by omega, by first | rfl | go_num, rfl, rfl, E2, by dsimp only; omega, by dsimp only; omega, by simp [go_sem, hsz, hcs'], Lib.hid (by simp [go_sem, hsz, hcs']), by go_grown⟩
                case measure => simp [intOf]
              have h3' : (s1 == 3) = false := by simp [h3]
              have E2 : RowKit.Hid (itr c 2 = (⟨⟨s0, s1, s2, s3⟩, sn + 1, true⟩ : St)) := Lib.hid (by rw [E.out]; simp [r2, A4.get, A4.put, h0, h4, h3])
              clear E
              go_wp2
              go_roundw
              case rel => exact ⟨2, ⟨⟨s0, s1, s2, s3⟩, sn + 1, true⟩, by omega, by first | rfl | go_num, rfl, rfl, E2, by dsimp only; omega, by dsimp only; omega, by simp [go_sem, hsz, hcs'], Lib.hid (by simp [go_sem, hsz, hcs']), by go_grown⟩
              case measure => simp [intOf]
          · have hcs' := hcs.out
            simp only [] at hcs'
            clear hcs
            cases sb
            · by_cases h0 : s2 = 0
              · subst h0
                have E2 : RowKit.Hid (itr c 3 = (⟨⟨s0, s1, 0, s3⟩, sn, false⟩ : St)) := Lib.hid (by rw [E.out]; simp [r2, A4.get, A4.put])
                clear E
                go_wp2
                go_roundw
                case rel => exact ⟨3, ⟨⟨s0, s1, 0, s3⟩, sn, false⟩, by omega, by first | rfl | go_num, rfl, rfl, E2, by dsimp only; omega, by dsimp only; omega, by simp [go_sem, hsz, hcs'], Lib.hid (by simp [go_sem, hsz, hcs']), by go_grown⟩
                case measure => simp [intOf]
              have h0' : (s2 == 0) = false := by simp [h0]
              have h0'' : (s2 != 0) = true := by simp [h0]
              by_cases h4 : s2 = 4
              · subst h4
                have E2 : RowKit.Hid (itr c 3 = (⟨⟨s0, s1, 1, s3⟩, sn + 1, false⟩ : St)) := Lib.hid (by rw [E.out]; simp [r2, A4.get, A4.put])
                clear E
                go_wp2
                go_roundw
                case rel => exact ⟨3, ⟨⟨s0, s1, 1, s3⟩, sn + 1, false⟩, by omega, by first | rfl | go_num, rfl, rfl, E2, by dsimp only; omega, by dsimp only; omega, by simp [go_sem, hsz, hcs'], Lib.hid (by simp [go_sem, hsz, hcs']), by go_grown⟩
                case measure => simp [intOf]
              have h4' : (s2 == 4) = false := by simp [h4]
              by_cases h3 : s2 = 3
              · subst h3
                have E2 : RowKit.Hid (itr c 3 = (⟨⟨s0, s1, 3, s3⟩, sn + 1, true⟩ : St)) := Lib.hid (by rw [E.out]; simp [r2, A4.get, A4.put])
                clear E
                go_wp2
                go_roundw
                case rel => exact ⟨3, ⟨⟨s0, s1, 3, s3⟩, sn + 1, true⟩, by omega, by first | rfl | go_num, rfl, rfl, E2, by dsimp only; omega, by dsimp only; omega, by simp [go_sem, hsz, hcs'], Lib.hid (by simp [go_sem, hsz, hcs']), by go_grown⟩
                case measure => simp [intOf]
              have h3' : (s2 == 3) = false := by simp [h3]
              have E2 : RowKit.Hid (itr c 3 = (⟨⟨s0, s1, s2, s3⟩, sn + 1, false⟩ : St)) := Lib.hid (by rw [E.out]; simp [r2, A4.get, A4.put, h0, h4, h3])
              clear E
              go_wp2
              go_roundw
              case rel => exact ⟨3, ⟨⟨s0, s1, s2, s3⟩, sn + 1, false⟩, by omega, by first | rfl | go_num, rfl, rfl, E2, by dsimp only; omega, by dsimp only; omega, by simp [go_sem, hsz, hcs'], Lib.hid (by simp [go_sem, hsz, hcs']), by go_grown⟩
              case measure => simp [intOf]
            · by_cases h0 : s2 = 0
              · subst h0
                have E2 : RowKit.Hid (itr c 3 = (⟨⟨s0, s1, 0, s3⟩, sn, true⟩ : St)) := Lib.hid (by rw [E.out]; simp [r2, A4.get, A4.put])
                clear E
                go_wp2
                go_roundw
                case rel => exact ⟨3, ⟨⟨s0, s1, 0, s3⟩, sn, true⟩, by omega, by first | rfl | go_num, rfl, rfl, E2, by dsimp only; omega, by dsimp only; omega, by simp [go_sem, hsz, hcs'], Lib.hid (by simp [go_sem, hsz, hcs']), by go_grown⟩
                case measure => simp [intOf]
              have h0' : (s2 == 0) = false := by simp [h0]
              have h0'' : (s2 != 0) = true := by simp [h0]
              by_cases h4 : s2 = 4
              · subst h4
                have E2 : RowKit.Hid (itr c 3 = (⟨⟨s0, s1, 1, s3⟩, sn + 1, true⟩ : St)) := Lib.hid (by rw [E.out]; simp [r2, A4.get, A4.put])
                clear E
                go_wp2
                go_roundw
                case rel => exact ⟨3, ⟨⟨s0, s1, 1, s3⟩, sn + 1, true⟩, by omega, by first | rfl | go_num, rfl, rfl, E2, by dsimp only; omega, by dsimp only; omega, by simp [go_sem, hsz, hcs'], Lib.hid (by simp [go_sem, hsz, hcs']), by go_grown⟩
                case measure => simp [intOf]
              have h4' : (s2 == 4) = false := by simp [h4]
              by_cases h3 : s2 = 3
              · subst h3
                have E2 : RowKit.Hid (itr c 3 = (⟨⟨s0, s1, 3, s3⟩, sn + 1, true⟩ : St)) := Lib.hid (by rw [E.out]; simp [r2, A4.get, A4.put])
                clear E
                go_wp2
                go_roundw
                case rel => exact ⟨3, ⟨⟨s0, s1, 3, s3⟩, sn + 1, true⟩, by omega, by first | rfl | go_num, rfl, rfl, E2, by dsimp only; omega, by dsimp only; omega, by simp [go_sem, hsz, hcs'], Lib.hid (by simp [go_sem, hsz, hcs']), by go_grown⟩
                case measure => simp [intOf]
              have h3' : (s2 == 3) = false := by simp [h3]
              have E2 : RowKit.Hid (itr c 3 = (⟨⟨s0, s1, s2, s3⟩, sn + 1, true⟩ : St)) := Lib.hid (by rw [E.out]; simp [r2, A4.get, A4.put, h0, h4, h3])
              clear E
              go_wp2
              go_roundw
              case rel => exact ⟨3, ⟨⟨s0, s1, s2, s3⟩, sn + 1, true⟩, by omega, by first | rfl | go_num, rfl, rfl, E2, by dsimp only; omega, by dsimp only; omega, by simp [go_sem, hsz, hcs'], Lib.hid (by simp [go_sem, hsz, hcs']), by go_grown⟩
              case measure => simp [intOf]
          · have hcs' := hcs.out
            simp only [] at hcs'
            clear hcs
            cases sb
            · by_cases h0 : s3 = 0
              · subst h0
                have E2 : RowKit.Hid (itr c 4 = (⟨⟨s0, s1, s2, 0⟩, sn, false⟩ : St)) := Lib.hid (by rw [E.out]; simp [r2, A4.get, A4.put])
                clear E
                go_wp2
                go_roundw
                case rel => exact ⟨4, ⟨⟨s0, s1, s2, 0⟩, sn, false⟩, by omega, by first | rfl | go_num, rfl, rfl, E2, by dsimp only; omega, by dsimp only; omega, by simp [go_sem, hsz, hcs'], Lib.hid (by simp [go_sem, hsz, hcs']), by go_grown⟩
                case measure => simp [intOf]
              have h0' : (s3 == 0) = false := by simp [h0]
              have h0'' : (s3 != 0) = true := by simp [h0]
              by_cases h4 : s3 = 4
              · subst h4
                have E2 : RowKit.Hid (itr c 4 = (⟨⟨s0, s1, s2, 1⟩, sn + 1, false⟩ : St)) := Lib.hid (by rw [E.out]; simp [r2, A4.get, A4.put])
                clear E
                go_wp2
                go_roundw
                case rel => exact ⟨4, ⟨⟨s0, s1, s2, 1⟩, sn + 1, false⟩, by omega, by first | rfl | go_num, rfl, rfl, E2, by dsimp only; omega, by dsimp only; omega, by simp [go_sem, hsz, hcs'], Lib.hid (by simp [go_sem, hsz, hcs']), by go_grown⟩
                case measure => simp [intOf]
              have h4' : (s3 == 4) = false := by simp [h4]
              by_cases h3 : s3 = 3
              · subst h3
                have E2 : RowKit.Hid (itr c 4 = (⟨⟨s0, s1, s2, 3⟩, sn + 1, true⟩ : St)) := Lib.hid (by rw [E.out]; simp [r2, A4.get, A4.put])
                clear E
                go_wp2
                go_roundw
                case rel => exact ⟨4, ⟨⟨s0, s1, s2, 3⟩, sn + 1, true⟩, by omega, by first | rfl | go_num, rfl, rfl, E2, by dsimp only; omega, by dsimp only; omega, by simp [go_sem, hsz, hcs'], Lib.hid (by simp [go_sem, hsz, hcs']), by go_grown⟩
                case measure => simp [intOf]
              have h3' : (s3 == 3) = false := by simp [h3]
              have E2 : RowKit.Hid (itr c 4 = (⟨⟨s0, s1, s2, s3⟩, sn + 1, false⟩ : St)) := Lib.hid (by rw [E.out]; simp [r2, A4.get, A4.put, h0, h4, h3])
              clear E
              go_wp2
              go_roundw
              case rel => exact ⟨4, ⟨⟨s0, s1, s2, s3⟩, sn + 1, false⟩, by omega, by first | rfl | go_num, rfl, rfl, E2, by dsimp only; omega, by dsimp only; omega, by simp [go_sem, hsz, hcs'], Lib.hid (by simp [go_sem, hsz, hcs']), by go_grown⟩
              case measure => simp [intOf]
            · by_cases h0 : s3 = 0
              · subst h0
                have E2 : RowKit.Hid (itr c 4 = (⟨⟨s0, s1, s2, 0⟩, sn, true⟩ : St)) := Lib.hid (by rw [E.out]; simp [r2, A4.get, A4.put])
                clear E
                go_wp2
                go_roundw
                case rel => exact ⟨4, ⟨⟨s0, s1, s2, 0⟩, sn, true⟩, by omega, by first | rfl | go_num, rfl, rfl, E2, by dsimp only; omega, by dsimp only; omega, by simp [go_sem, hsz, hcs'], Lib.hid (by simp [go_sem, hsz, hcs']), by go_grown⟩
                case measure => simp [intOf]
              have h0' : (s3 == 0) = false := by simp [h0]
              have h0'' : (s3 != 0) = true := by simp [h0]
              by_cases h4 : s3 = 4
              · subst h4
                have E2 : RowKit.Hid (itr c 4 = (⟨⟨s0, s1, s2, 1⟩, sn + 1, true⟩ : St)) := Lib.hid (by rw [E.out]; simp [r2, A4.get, A4.put])
                clear E
                go_wp2
                go_roundw
                case rel => exact ⟨4, ⟨⟨s0, s1, s2, 1⟩, sn + 1, true⟩, by omega, by first | rfl | go_num, rfl, rfl, E2, by dsimp only; omega, by dsimp only; omega, by simp [go_sem, hsz, hcs'], Lib.hid (by simp [go_sem, hsz, hcs']), by go_grown⟩
                case measure => simp [intOf]
              have h4' : (s3 == 4) = false := by simp [h4]
              by_cases h3 : s3 = 3
              · subst h3
                have E2 : RowKit.Hid (itr c 4 = (⟨⟨s0, s1, s2, 3⟩, sn + 1, true⟩ : St)) := Lib.hid (by rw [E.out]; simp [r2, A4.get, A4.put])
                clear E
                go_wp2
                go_roundw
                case rel => exact ⟨4, ⟨⟨s0, s1, s2, 3⟩, sn + 1, true⟩, by omega, by first | rfl | go_num, rfl, rfl, E2, by dsimp only; omega, by dsimp only; omega, by simp [go_sem, hsz, hcs'], Lib.hid (by simp [go_sem, hsz, hcs']), by go_grown⟩
                case measure => simp [intOf]
              have h3' : (s3 == 3) = false := by simp [h3]
              have E2 : RowKit.Hid (itr c 4 = (⟨⟨s0, s1, s2, s3⟩, sn + 1, true⟩ : St)) := Lib.hid (by rw [E.out]; simp [r2, A4.get, A4.put, h0, h4, h3])
              clear E
              go_wp2
              go_roundw
              case rel => exact ⟨4, ⟨⟨s0, s1, s2, s3⟩, sn + 1, true⟩, by omega, by first | rfl | go_num, rfl, rfl, E2, by dsimp only; omega, by dsimp only; omega, by simp [go_sem, hsz, hcs'], Lib.hid (by simp [go_sem, hsz, hcs']), by go_grown⟩
              case measure => simp [intOf]
        · obtain rfl : k = 4 := by omega
          rw [ES.out] at Z
          have hcs' := hcs.out
          simp only [] at hcs'
          clear hcs ES
          cases sb
          · go_wp2_with fail
            refine (seek4 _ _ _ _ _).mono ?_
            rintro e w2 ⟨rfl, hb2⟩
            have B2 := below_via hb2 (show Below w.heap.size w _ by go_grown)
            clear hb2
            go_wp2
            go_ret
            exact ⟨by rw [Z.out]; rfl, B2⟩
          · go_wp2_with fail
            refine (doubled4 _ _ _ _ _ _).mono ?_
            rintro e w2 ⟨rfl, hb2⟩
            have B2 := below_via hb2 (show Below w.heap.size w _ by go_grown)
            have F2 : w.heap.size < w2.heap.size ∧ w2.cell? ⟨w.heap.size, 0, none⟩ = some (.int .i8 s0) ∧ w2.frozen? ⟨w.heap.size, 0, none⟩ = false ∧ w2.cell? ⟨w.heap.size, 1, none⟩ = some (.int .i8 s1) ∧ w2.frozen? ⟨w.heap.size, 1, none⟩ = false ∧ w2.cell? ⟨w.heap.size, 2, none⟩ = some (.int .i8 s2) ∧ w2.frozen? ⟨w.heap.size, 2, none⟩ = false ∧ w2.cell? ⟨w.heap.size, 3, none⟩ = some (.int .i8 s3) ∧ w2.frozen? ⟨w.heap.size, 3, none⟩ = false := by
              obtain ⟨hc, hf⟩ := bcell hb2
              have hz := hb2.size
              refine ⟨by omega, ?_, ?_, ?_, ?_, ?_, ?_, ?_, ?_⟩ <;> first | (rw [hc _ _ (by omega)]; simp [hcs']; done) | (rw [hf _ _ (by omega)]; simp [hsz]; done)
            clear hb2 hsz hcs'
            have Z2 : RowKit.Hid (z = seekA (dblA ⟨s0, s1, s2, s3⟩ sn)) := Lib.hid Z.out
            clear Z
            generalize dblA ⟨s0, s1, s2, s3⟩ sn = q at Z2 ⊢
            obtain ⟨q0, q1, q2, q3⟩ := q
            go_wp2_with fail
            refine (seek4 _ _ _ _ _).mono ?_
            rintro e w3 ⟨rfl, hb3⟩
            have B3 := below_via hb3 (show Below w.heap.size w _ by go_grown)
            clear hb3
            go_wp2
            go_ret
            exact ⟨by rw [Z2.out]; rfl, B3⟩
end Go.Proofs.Ytebalohoblaedaa
