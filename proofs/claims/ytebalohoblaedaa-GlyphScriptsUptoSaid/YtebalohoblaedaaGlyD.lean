/- Layer 13: doubled. -/
import Derived.Test.YtebalohoblaedaaGlyC
namespace Go.Proofs.Ytebalohoblaedaa
open Go.RowKit
set_option linter.unusedVariables false
set_option linter.unusedSimpArgs false

def A4.get (a : A4) : Nat → Int | 0 => a.u | 1 => a.r | 2 => a.d | _ => a.l
def A4.put (a : A4) (i : Nat) (v : Int) : A4 := match i with | 0 => { a with u := v } | 1 => { a with r := v } | 2 => { a with d := v } | _ => { a with l := v }
def it (f : A4 → Nat → A4) (a : A4) : Nat → A4 | 0 => a | k + 1 => f (it f a k) k
def d1s (s : A4) (i : Nat) : A4 := if s.get i = 2 then s.put i 3 else s
def d2a (s : A4) (i : Nat) : A4 := if s.get i = 3 ∧ s.get ((i + 2) % 4) ≠ 0 then s.put ((i + 2) % 4) 3 else s
def d2b (t : Int) (s : A4) (i : Nat) : A4 := if s.get i = 3 ∧ t = 1 then s.put i 2 else s
def d2s (t : Int) (s : A4) (i : Nat) : A4 := d2b t (d2a s i) i
def dblA (a : A4) (t : Int) : A4 := it (d2s t) (it d1s a 4) 4

set_option maxRecDepth 100000 in
set_option maxHeartbeats 16000000 in
theorem doubled_any (a : A4) (t : Int) (w : World) : Calls Try.prog 35 #[.agg #[.int .i8 a.u, .int .i8 a.r, .int .i8 a.d, .int .i8 a.l], .int .i64 t] w fun e w' => e = .returned (.agg #[.int .i8 ((dblA a t).u), .int .i8 ((dblA a t).r), .int .i8 ((dblA a t).d), .int .i8 ((dblA a t).l)]) ∧ Below w.heap.size w w' := by
  have Z : RowKit.Hid (dblA a t = it (d2s t) (it d1s a 4) 4) := Lib.hid rfl
  generalize dblA a t = z at Z ⊢
  go_enter Try.func35, Try.ntmps35
  go_wp2
  go_loopw [5, 8] (fun _ i wr => ∃ k : Nat, k ≤ 4 ∧ i = .int .i64 k ∧ (w.heap.size < wr.heap.size ∧ w.heap.size + 1 < wr.heap.size ∧ wr.cell? ⟨w.heap.size + 1, 0, none⟩ = some (.int .i8 0) ∧ wr.cell? ⟨w.heap.size + 1, 1, none⟩ = some (.int .i8 0) ∧ wr.cell? ⟨w.heap.size + 1, 2, none⟩ = some (.int .i8 0) ∧ wr.cell? ⟨w.heap.size + 1, 3, none⟩ = some (.int .i8 0) ∧ wr.frozen? ⟨w.heap.size, 0, none⟩ = false ∧ wr.frozen? ⟨w.heap.size, 1, none⟩ = false ∧ wr.frozen? ⟨w.heap.size, 2, none⟩ = false ∧ wr.frozen? ⟨w.heap.size, 3, none⟩ = false ∧ wr.frozen? ⟨w.heap.size + 1, 0, none⟩ = false ∧ wr.frozen? ⟨w.heap.size + 1, 1, none⟩ = false ∧ wr.frozen? ⟨w.heap.size + 1, 2, none⟩ = false ∧ wr.frozen? ⟨w.heap.size + 1, 3, none⟩ = false) ∧ RowKit.Hid (wr.cell? ⟨w.heap.size, 0, none⟩ = some (.int .i8 (it d1s a k).u) ∧ wr.cell? ⟨w.heap.size, 1, none⟩ = some (.int .i8 (it d1s a k).r) ∧ wr.cell? ⟨w.heap.size, 2, none⟩ = some (.int .i8 (it d1s a k).d) ∧ wr.cell? ⟨w.heap.size, 3, none⟩ = some (.int .i8 (it d1s a k).l)) ∧ Below w.heap.size w wr) (fun _ i _ => 4 - (intOf i).toNat)
  case atStart => exact ⟨0, by omega, rfl, by simp [go_sem], Lib.hid (by simp [go_sem, it]), by go_grown⟩
  case round =>
    rename_i wr
    obtain ⟨k, hk, rfl, hsz, hcs, BW⟩ := hrel
    by_cases hlt : k < 4
    · have E : RowKit.Hid (it d1s a (k + 1) = d1s (it d1s a k) k) := Lib.hid rfl
      generalize it d1s a k = s at E hcs
      obtain ⟨s0, s1, s2, s3⟩ := s
      rcases (show k = 0 ∨ k = 1 ∨ k = 2 ∨ k = 3 by omega) with rfl | rfl | rfl | rfl
      · have hcs' := hcs.out
        simp only [] at hcs'
        clear hcs
        by_cases h2 : s0 = 2
        · subst h2
          have E2 : RowKit.Hid (it d1s a 1 = (⟨3, s1, s2, s3⟩ : A4)) := Lib.hid (by rw [E.out]; rfl)
          clear E
          go_wp2
          go_roundw
          case rel => exact ⟨1, by omega, by first | rfl | go_num, by simp [go_sem, hsz, hcs'], Lib.hid (by rw [E2.out]; simp [go_sem, hsz, hcs']), by go_grown⟩
          case measure => simp [intOf]
        · have E2 : RowKit.Hid (it d1s a 1 = (⟨s0, s1, s2, s3⟩ : A4)) := Lib.hid (E.out.trans (if_neg h2))
          have h2' : (s0 == 2) = false := by simp [h2]
          clear E h2
          go_wp2
          go_roundw
          case rel => exact ⟨1, by omega, by first | rfl | go_num, by simp [go_sem, hsz, hcs'], Lib.hid (by rw [E2.out]; simp [go_sem, hsz, hcs']), by go_grown⟩
          case measure => simp [intOf]
      · have hcs' := hcs.out
        simp only [] at hcs'
        clear hcs
        by_cases h2 : s1 = 2
        · subst h2
          have E2 : RowKit.Hid (it d1s a 2 = (⟨s0, 3, s2, s3⟩ : A4)) := Lib.hid (by rw [E.out]; rfl)
          clear E
          go_wp2
          go_roundw
          case rel => exact ⟨2, by omega, by first | rfl | go_num, by simp [go_sem, hsz, hcs'], Lib.hid (by rw [E2.out]; simp [go_sem, hsz, hcs']), by go_grown⟩
          case measure => simp [intOf]
        · have E2 : RowKit.Hid (it d1s a 2 = (⟨s0, s1, s2, s3⟩ : A4)) := Lib.hid (E.out.trans (if_neg h2))
          have h2' : (s1 == 2) = false := by simp [h2]
          clear E h2
          go_wp2
          go_roundw
          case rel => exact ⟨2, by omega, by first | rfl | go_num, by simp [go_sem, hsz, hcs'], Lib.hid (by rw [E2.out]; simp [go_sem, hsz, hcs']), by go_grown⟩
          case measure => simp [intOf]
      · have hcs' := hcs.out
        simp only [] at hcs'
        clear hcs
        by_cases h2 : s2 = 2
        · subst h2
          have E2 : RowKit.Hid (it d1s a 3 = (⟨s0, s1, 3, s3⟩ : A4)) := Lib.hid (by rw [E.out]; rfl)
          clear E
          go_wp2
          go_roundw
          case rel => exact ⟨3, by omega, by first | rfl | go_num, by simp [go_sem, hsz, hcs'], Lib.hid (by rw [E2.out]; simp [go_sem, hsz, hcs']), by go_grown⟩
          case measure => simp [intOf]
        · have E2 : RowKit.Hid (it d1s a 3 = (⟨s0, s1, s2, s3⟩ : A4)) := Lib.hid (E.out.trans (if_neg h2))
          have h2' : (s2 == 2) = false := by simp [h2]
          clear E h2
          go_wp2
          go_roundw
          case rel => exact ⟨3, by omega, by first | rfl | go_num, by simp [go_sem, hsz, hcs'], Lib.hid (by rw [E2.out]; simp [go_sem, hsz, hcs']), by go_grown⟩
          case measure => simp [intOf]
      · have hcs' := hcs.out
        simp only [] at hcs'
        clear hcs
        by_cases h2 : s3 = 2
        · subst h2
          have E2 : RowKit.Hid (it d1s a 4 = (⟨s0, s1, s2, 3⟩ : A4)) := Lib.hid (by rw [E.out]; rfl)
          clear E
          go_wp2
          go_roundw
          case rel => exact ⟨4, by omega, by first | rfl | go_num, by simp [go_sem, hsz, hcs'], Lib.hid (by rw [E2.out]; simp [go_sem, hsz, hcs']), by go_grown⟩
          case measure => simp [intOf]
        · have E2 : RowKit.Hid (it d1s a 4 = (⟨s0, s1, s2, s3⟩ : A4)) := Lib.hid (E.out.trans (if_neg h2))
          have h2' : (s3 == 2) = false := by simp [h2]
          clear E h2
          go_wp2
          go_roundw
          case rel => exact ⟨4, by omega, by first | rfl | go_num, by simp [go_sem, hsz, hcs'], Lib.hid (by rw [E2.out]; simp [go_sem, hsz, hcs']), by go_grown⟩
          case measure => simp [intOf]
    · obtain rfl : k = 4 := by omega
      generalize it d1s a 4 = b at Z hcs
      have hcs' := hcs.out
      clear hcs
      go_wp2
      go_loopw [6, 7, 18] (fun _ _ i wr => ∃ k : Nat, k ≤ 4 ∧ i = .int .i64 k ∧ (w.heap.size < wr.heap.size ∧ w.heap.size + 1 < wr.heap.size ∧ wr.cell? ⟨w.heap.size + 1, 0, none⟩ = some (.int .i8 0) ∧ wr.cell? ⟨w.heap.size + 1, 1, none⟩ = some (.int .i8 0) ∧ wr.cell? ⟨w.heap.size + 1, 2, none⟩ = some (.int .i8 0) ∧ wr.cell? ⟨w.heap.size + 1, 3, none⟩ = some (.int .i8 0) ∧ wr.frozen? ⟨w.heap.size, 0, none⟩ = false ∧ wr.frozen? ⟨w.heap.size, 1, none⟩ = false ∧ wr.frozen? ⟨w.heap.size, 2, none⟩ = false ∧ wr.frozen? ⟨w.heap.size, 3, none⟩ = false ∧ wr.frozen? ⟨w.heap.size + 1, 0, none⟩ = false ∧ wr.frozen? ⟨w.heap.size + 1, 1, none⟩ = false ∧ wr.frozen? ⟨w.heap.size + 1, 2, none⟩ = false ∧ wr.frozen? ⟨w.heap.size + 1, 3, none⟩ = false) ∧ RowKit.Hid (wr.cell? ⟨w.heap.size, 0, none⟩ = some (.int .i8 (it (d2s t) b k).u) ∧ wr.cell? ⟨w.heap.size, 1, none⟩ = some (.int .i8 (it (d2s t) b k).r) ∧ wr.cell? ⟨w.heap.size, 2, none⟩ = some (.int .i8 (it (d2s t) b k).d) ∧ wr.cell? ⟨w.heap.size, 3, none⟩ = some (.int .i8 (it (d2s t) b k).l)) ∧ Below w.heap.size w wr) (fun _ _ i _ => 4 - (intOf i).toNat)
      case atStart => exact ⟨0, by omega, rfl, hsz, Lib.hid hcs', BW⟩
      case round =>
        clear hcs' hsz BW
        rename_i wr
        obtain ⟨k, hk, rfl, hsz, hcs, BW⟩ := hrel
        by_cases hlt : k < 4
        · have E : RowKit.Hid (it (d2s t) b (k + 1) = d2b t (d2a (it (d2s t) b k) k) k) := Lib.hid rfl
          generalize it (d2s t) b k = s at E hcs
          obtain ⟨s0, s1, s2, s3⟩ := s
          rcases (show k = 0 ∨ k = 1 ∨ k = 2 ∨ k = 3 by omega) with rfl | rfl | rfl | rfl
          · have hcs' := hcs.out
            simp only [] at hcs'
            clear hcs
            by_cases h2 : s0 = 3
            · subst h2
              by_cases h3 : s2 = 0
              · subst h3
                by_cases ht : t = 1
                · subst ht
                  have E2 : RowKit.Hid (it (d2s 1) b 1 = (⟨2, s1, 0, s3⟩ : A4)) := Lib.hid (by rw [E.out]; simp [d2a, d2b, A4.get, A4.put])
                  clear E
                  go_wp2
                  go_roundw
                  case rel => exact ⟨1, by omega, by first | rfl | go_num, by simp [go_sem, hsz, hcs'], Lib.hid (by rw [E2.out]; simp [go_sem, hsz, hcs']), by go_grown⟩
                  case measure => simp [intOf]
                · have ht' : (t == 1) = false := by simp [ht]
                  have E2 : RowKit.Hid (it (d2s t) b 1 = (⟨3, s1, 0, s3⟩ : A4)) := Lib.hid (by rw [E.out]; simp [d2a, d2b, A4.get, A4.put, ht])
                  clear E
                  go_wp2
                  go_roundw
                  case rel => exact ⟨1, by omega, by first | rfl | go_num, by simp [go_sem, hsz, hcs'], Lib.hid (by rw [E2.out]; simp [go_sem, hsz, hcs']), by go_grown⟩
                  case measure => simp [intOf]
              · have h4 : (s2 == 0) = false := by simp [h3]
                have h5 : (s2 != 0) = true := by simp [h3]
                by_cases ht : t = 1
                · subst ht
                  have E2 : RowKit.Hid (it (d2s 1) b 1 = (⟨2, s1, 3, s3⟩ : A4)) := Lib.hid (by rw [E.out]; simp [d2a, d2b, A4.get, A4.put, h3])
                  clear E
                  go_wp2
                  go_roundw
                  case rel => exact ⟨1, by omega, by first | rfl | go_num, by simp [go_sem, hsz, hcs'], Lib.hid (by rw [E2.out]; simp [go_sem, hsz, hcs']), by go_grown⟩
                  case measure => simp [intOf]
                · have ht' : (t == 1) = false := by simp [ht]
                  have E2 : RowKit.Hid (it (d2s t) b 1 = (⟨3, s1, 3, s3⟩ : A4)) := Lib.hid (by rw [E.out]; simp [d2a, d2b, A4.get, A4.put, h3, ht])
                  clear E
                  go_wp2
                  go_roundw
                  case rel => exact ⟨1, by omega, by first | rfl | go_num, by simp [go_sem, hsz, hcs'], Lib.hid (by rw [E2.out]; simp [go_sem, hsz, hcs']), by go_grown⟩
                  case measure => simp [intOf]
            · have h2' : (s0 == 3) = false := by simp [h2]
              have E2 : RowKit.Hid (it (d2s t) b 1 = (⟨s0, s1, s2, s3⟩ : A4)) := Lib.hid (by rw [E.out]; simp [d2a, d2b, A4.get, A4.put, h2])
              clear E
              go_wp2
              go_roundw
              case rel => exact ⟨1, by omega, by first | rfl | go_num, by simp [go_sem, hsz, hcs'], Lib.hid (by rw [E2.out]; simp [go_sem, hsz, hcs']), by go_grown⟩
              case measure => simp [intOf]
          · have hcs' := hcs.out
            simp only [] at hcs'
            clear hcs
            by_cases h2 : s1 = 3
            · subst h2
              by_cases h3 : s3 = 0
              · subst h3
                by_cases ht : t = 1
                · subst ht
                  have E2 : RowKit.Hid (it (d2s 1) b 2 = (⟨s0, 2, s2, 0⟩ : A4)) := Lib.hid (by rw [E.out]; simp [d2a, d2b, A4.get, A4.put])
                  clear E
                  go_wp2
                  go_roundw
                  case rel => exact ⟨2, by omega, by first | rfl | go_num, by simp [go_sem, hsz, hcs'], Lib.hid (by rw [E2.out]; simp [go_sem, hsz, hcs']), by go_grown⟩
                  case measure => simp [intOf]
                · have ht' : (t == 1) = false := by simp [ht]
                  have E2 : RowKit.Hid (it (d2s t) b 2 = (⟨s0, 3, s2, 0⟩ : A4)) := Lib.hid (by rw [E.out]; simp [d2a, d2b, A4.get, A4.put, ht])
                  clear E
                  go_wp2
                  go_roundw
                  case rel => exact ⟨2, by omega, by first | rfl | go_num, by simp [go_sem, hsz, hcs'], Lib.hid (by rw [E2.out]; simp [go_sem, hsz, hcs']), by go_grown⟩
                  case measure => simp [intOf]
              · have h4 : (s3 == 0) = false := by simp [h3]
                have h5 : (s3 != 0) = true := by simp [h3]
                by_cases ht : t = 1
                · subst ht
                  have E2 : RowKit.Hid (it (d2s 1) b 2 = (⟨s0, 2, s2, 3⟩ : A4)) := Lib.hid (by rw [E.out]; simp [d2a, d2b, A4.get, A4.put, h3])
                  clear E
                  go_wp2
                  go_roundw
                  case rel => exact ⟨2, by omega, by first | rfl | go_num, by simp [go_sem, hsz, hcs'], Lib.hid (by rw [E2.out]; simp [go_sem, hsz, hcs']), by go_grown⟩
                  case measure => simp [intOf]
                · have ht' : (t == 1) = false := by simp [ht]
                  have E2 : RowKit.Hid (it (d2s t) b 2 = (⟨s0, 3, s2, 3⟩ : A4)) := Lib.hid (by rw [E.out]; simp [d2a, d2b, A4.get, A4.put, h3, ht])
                  clear E
                  go_wp2
                  go_roundw
                  case rel => exact ⟨2, by omega, by first | rfl | go_num, by simp [go_sem, hsz, hcs'], Lib.hid (by rw [E2.out]; simp [go_sem, hsz, hcs']), by go_grown⟩
                  case measure => simp [intOf]
            · have h2' : (s1 == 3) = false := by simp [h2]
              have E2 : RowKit.Hid (it (d2s t) b 2 = (⟨s0, s1, s2, s3⟩ : A4)) := Lib.hid (by rw [E.out]; simp [d2a, d2b, A4.get, A4.put, h2])
              clear E
              go_wp2
              go_roundw
              case rel => exact ⟨2, by omega, by first | rfl | go_num, by simp [go_sem, hsz, hcs'], Lib.hid (by rw [E2.out]; simp [go_sem, hsz, hcs']), by go_grown⟩
              case measure => simp [intOf]
          · have hcs' := hcs.out
            simp only [] at hcs'
            clear hcs
            by_cases h2 : s2 = 3
            · subst h2
              by_cases h3 : s0 = 0
              · subst h3
                by_cases ht : t = 1
                · subst ht
                  have E2 : RowKit.Hid (it (d2s 1) b 3 = (⟨0, s1, 2, s3⟩ : A4)) := Lib.hid (by rw [E.out]; simp [d2a, d2b, A4.get, A4.put])
                  clear E
                  go_wp2
                  go_roundw
                  case rel => exact ⟨3, by omega, by first | rfl | go_num, by simp [go_sem, hsz, hcs'], Lib.hid (by rw [E2.out]; simp [go_sem, hsz, hcs']), by go_grown⟩
                  case measure => simp [intOf]
                · have ht' : (t == 1) = false := by simp [ht]
                  have E2 : RowKit.Hid (it (d2s t) b 3 = (⟨0, s1, 3, s3⟩ : A4)) := Lib.hid (by rw [E.out]; simp [d2a, d2b, A4.get, A4.put, ht])
                  clear E
                  go_wp2
                  go_roundw
                  case rel => exact ⟨3, by omega, by first | rfl | go_num, by simp [go_sem, hsz, hcs'], Lib.hid (by rw [E2.out]; simp [go_sem, hsz, hcs']), by go_grown⟩
                  case measure => simp [intOf]
              · have h4 : (s0 == 0) = false := by simp [h3]
                have h5 : (s0 != 0) = true := by simp [h3]
                by_cases ht : t = 1
                · subst ht
                  have E2 : RowKit.Hid (it (d2s 1) b 3 = (⟨3, s1, 2, s3⟩ : A4)) := Lib.hid (by rw [E.out]; simp [d2a, d2b, A4.get, A4.put, h3])
                  clear E
                  go_wp2
                  go_roundw
                  case rel => exact ⟨3, by omega, by first | rfl | go_num, by simp [go_sem, hsz, hcs'], Lib.hid (by rw [E2.out]; simp [go_sem, hsz, hcs']), by go_grown⟩
                  case measure => simp [intOf]
                · have ht' : (t == 1) = false := by simp [ht]
                  have E2 : RowKit.Hid (it (d2s t) b 3 = (⟨3, s1, 3, s3⟩ : A4)) := Lib.hid (by rw [E.out]; simp [d2a, d2b, A4.get, A4.put, h3, ht])
                  clear E
                  go_wp2
                  go_roundw
                  case rel => exact ⟨3, by omega, by first | rfl | go_num, by simp [go_sem, hsz, hcs'], Lib.hid (by rw [E2.out]; simp [go_sem, hsz, hcs']), by go_grown⟩
                  case measure => simp [intOf]
            · have h2' : (s2 == 3) = false := by simp [h2]
              have E2 : RowKit.Hid (it (d2s t) b 3 = (⟨s0, s1, s2, s3⟩ : A4)) := Lib.hid (by rw [E.out]; simp [d2a, d2b, A4.get, A4.put, h2])
              clear E
              go_wp2
              go_roundw
              case rel => exact ⟨3, by omega, by first | rfl | go_num, by simp [go_sem, hsz, hcs'], Lib.hid (by rw [E2.out]; simp [go_sem, hsz, hcs']), by go_grown⟩
              case measure => simp [intOf]
          · have hcs' := hcs.out
            simp only [] at hcs'
            clear hcs
            by_cases h2 : s3 = 3
            · subst h2
              by_cases h3 : s1 = 0
              · subst h3
                by_cases ht : t = 1
                · subst ht
                  have E2 : RowKit.Hid (it (d2s 1) b 4 = (⟨s0, 0, s2, 2⟩ : A4)) := Lib.hid (by rw [E.out]; simp [d2a, d2b, A4.get, A4.put])
                  clear E
                  go_wp2
                  go_roundw
                  case rel => exact ⟨4, by omega, by first | rfl | go_num, by simp [go_sem, hsz, hcs'], Lib.hid (by rw [E2.out]; simp [go_sem, hsz, hcs']), by go_grown⟩
                  case measure => simp [intOf]
                · have ht' : (t == 1) = false := by simp [ht]
                  have E2 : RowKit.Hid (it (d2s t) b 4 = (⟨s0, 0, s2, 3⟩ : A4)) := Lib.hid (by rw [E.out]; simp [d2a, d2b, A4.get, A4.put, ht])
                  clear E
                  go_wp2
                  go_roundw
                  case rel => exact ⟨4, by omega, by first | rfl | go_num, by simp [go_sem, hsz, hcs'], Lib.hid (by rw [E2.out]; simp [go_sem, hsz, hcs']), by go_grown⟩
                  case measure => simp [intOf]
              · have h4 : (s1 == 0) = false := by simp [h3]
                have h5 : (s1 != 0) = true := by simp [h3]
                by_cases ht : t = 1
                · subst ht
                  have E2 : RowKit.Hid (it (d2s 1) b 4 = (⟨s0, 3, s2, 2⟩ : A4)) := Lib.hid (by rw [E.out]; simp [d2a, d2b, A4.get, A4.put, h3])
                  clear E
                  go_wp2
                  go_roundw
                  case rel => exact ⟨4, by omega, by first | rfl | go_num, by simp [go_sem, hsz, hcs'], Lib.hid (by rw [E2.out]; simp [go_sem, hsz, hcs']), by go_grown⟩
                  case measure => simp [intOf]
                · have ht' : (t == 1) = false := by simp [ht]
                  have E2 : RowKit.Hid (it (d2s t) b 4 = (⟨s0, 3, s2, 3⟩ : A4)) := Lib.hid (by rw [E.out]; simp [d2a, d2b, A4.get, A4.put, h3, ht])
                  clear E
                  go_wp2
                  go_roundw
                  case rel => exact ⟨4, by omega, by first | rfl | go_num, by simp [go_sem, hsz, hcs'], Lib.hid (by rw [E2.out]; simp [go_sem, hsz, hcs']), by go_grown⟩
                  case measure => simp [intOf]
            · have h2' : (s3 == 3) = false := by simp [h2]
              have E2 : RowKit.Hid (it (d2s t) b 4 = (⟨s0, s1, s2, s3⟩ : A4)) := Lib.hid (by rw [E.out]; simp [d2a, d2b, A4.get, A4.put, h2])
              clear E
              go_wp2
              go_roundw
              case rel => exact ⟨4, by omega, by first | rfl | go_num, by simp [go_sem, hsz, hcs'], Lib.hid (by rw [E2.out]; simp [go_sem, hsz, hcs']), by go_grown⟩
              case measure => simp [intOf]
        · obtain rfl : k = 4 := by omega
          rw [← Z.out] at hcs
          have hcs' := hcs.out
          clear hcs
          go_wp2
          exact bodyPost_ret (v := .agg #[.int .i8 z.u, .int .i8 z.r, .int .i8 z.d, .int .i8 z.l]) (by simp [results, Try.results35, go_sem, hsz, hcs']) rfl ⟨rfl, by go_grown⟩
end Go.Proofs.Ytebalohoblaedaa
