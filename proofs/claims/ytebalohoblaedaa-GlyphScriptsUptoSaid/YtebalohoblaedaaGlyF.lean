/- Layer 13: the reference's entries. -/
import Derived.Test.YtebalohoblaedaaGlyE
namespace Go.Proofs.Ytebalohoblaedaa
open Go.RowKit
set_option linter.unusedVariables false
set_option linter.unusedSimpArgs false

/-- which characters the table has, counted from 0x2500 on -/
def entN (i : Nat) : Nat := ([0, 1, 2, 3, 12, 13, 14, 15, 16, 17, 18, 19, 20, 21, 22, 23, 24, 25, 26, 27, 28, 29, 30, 31, 32, 33, 34, 35, 36, 37, 38, 39, 40, 41, 42, 43, 44, 45, 46, 47, 48, 49, 50, 51, 52, 53, 54, 55, 56, 57, 58, 59, 60, 61, 62, 63, 64, 65, 66, 67, 68, 69, 70, 71, 72, 73, 74, 75, 80, 81, 82, 83, 84, 85, 86, 87, 88, 89, 90, 91, 92, 93, 94, 95, 96, 97, 98, 99, 100, 101, 102, 103, 104, 105, 106, 107, 108, 109, 110, 111, 112, 116, 117, 118, 119, 120, 121, 122, 123, 124, 125, 126, 127] : List Nat).getD i 0
def hexc (d : Nat) : Nat := if d < 10 then 48 + d else 55 + d
def entB (i j : Nat) : Nat := match j with | 0 => 50 | 1 => 53 | 2 => hexc (entN i / 16) | 3 => hexc (entN i % 16) | j => chN (dig (entN i) (j - 4))
structure Ent (i : Nat) (B : ByteArray) : Prop where
  sz : B.size = 8
  at_ : ∀ j (h : j < B.size), (B[j].toNat : Int) = (entB i j : Int)
def Tab (S : ByteArray) : Prop := S.size = 1016 ∧ ∀ i, i < 113 → ∀ j, j < 8 → S.data.toList.getD (9 * i + j) 0 = (entB i j).toUInt8 ∧ entB i j < 256
theorem ent_of {S : ByteArray} (h : Tab S) (i : Nat) (hi : i < 113) : Ent i (S.extract (9 * i) (9 * i + 8)) := by
  have hs := h.1
  have hsz : (S.extract (9 * i) (9 * i + 8)).size = 8 := by rw [ByteArray.size_extract, hs]; omega
  refine ⟨hsz, fun j hj => ?_⟩
  rw [hsz] at hj
  obtain ⟨h2, h3⟩ := h.2 i hi j hj
  have hk : 9 * i + j < S.data.toList.length := by have e : S.data.size = 1016 := hs; rw [Array.length_toList]; omega
  have e : (S.extract (9 * i) (9 * i + 8))[j]'(by omega) = S.data.toList.getD (9 * i + j) 0 := by
    simp only [ByteArray.getElem_extract]
    rw [List.getD_eq_getElem?_getD, List.getElem?_eq_getElem hk]
    simp [ByteArray.getElem_eq_getElem_data]
  rw [e, h2]
  simp
  omega
def hexOk (i : Nat) (c2 c3 m2 m3 : Int) : Prop := (c2 < 65 → 48 ≤ c2 ∧ c2 = m2 + 48) ∧ (65 ≤ c2 → c2 ≤ 70 ∧ c2 = m2 + 55) ∧ (c3 < 65 → 48 ≤ c3 ∧ c3 = m3 + 48) ∧ (65 ≤ c3 → c3 ≤ 70 ∧ c3 = m3 + 55)
theorem hexOk_all (i : Nat) (hi : entN i < 128) : hexOk i (hexc (entN i / 16) : Int) (hexc (entN i % 16) : Int) ((entN i / 16 : Nat) : Int) ((entN i % 16 : Nat) : Int) := by
  unfold hexOk hexc
  refine ⟨?_, ?_, ?_, ?_⟩ <;> (intro h; split at h <;> split <;> first | omega | (push_cast at h ⊢; omega))
def pv (m2 n : Int) (k : Nat) : Int := match k with | 0 => 0 | 1 => 2 | 2 => 37 | 3 => 592 + m2 | _ => n
theorem entN_lt (i : Nat) (hi : i < 113) : entN i < 128 := by
  revert i; decide +kernel

set_option maxRecDepth 100000 in
set_option maxHeartbeats 16000000 in
theorem entry_any (i : Nat) (hi : i < 113) (w : World) : Calls Try.prog 40 #[.int .i64 (i : Int)] w fun e w' => e = .returned (.tuple #[.int .i32 (9472 + (entN i : Int)), .agg #[.int .i8 ((ofN (entN i)).u), .int .i8 ((ofN (entN i)).r), .int .i8 ((ofN (entN i)).d), .int .i8 ((ofN (entN i)).l)]]) ∧ Below w.heap.size w w' := by
  have hx := Lib.hid (hexOk_all i (entN_lt i hi))
  have hlt := entN_lt i hi
  have hN : ∃ n : Int, n = 9472 + (entN i : Int) ∧ n = 9472 + ((entN i / 16 : Nat) : Int) * 16 + ((entN i % 16 : Nat) : Int) := ⟨_, rfl, by omega⟩
  obtain ⟨n, hn, hn2⟩ := hN
  rw [← hn]
  have HN := Lib.hid hn2
  clear hn hn2
  generalize hq : ofN (entN i) = q
  have HQ := Lib.hid hq
  clear hq
  go_enter Try.func40, Try.ntmps40
  go_upto_region 1 with (fail)
  generalize hS : (ByteArray.mk _ : ByteArray) = S
  have hz : S.size = 1016 := by rw [← hS]; kernel_rfl
  have HS : Tab S := by rw [← hS]; exact ⟨by kernel_rfl, by decide +kernel⟩
  clear hS
  go_upto_region 2 with (fail)
  have F := ent_of HS i hi
  generalize S.extract (9 * i) (9 * i + 8) = B at F ⊢
  clear HS
  have hB := F.sz
  have h0 := F.at_ 0 (by omega)
  have h1 := F.at_ 1 (by omega)
  have h2 := F.at_ 2 (by omega)
  have h3 := F.at_ 3 (by omega)
  have h4 := F.at_ 4 (by omega)
  have h5 := F.at_ 5 (by omega)
  have h6 := F.at_ 6 (by omega)
  have h7 := F.at_ 7 (by omega)
  clear F
  simp only [entB, Nat.reduceSub] at h0 h1 h2 h3 h4 h5 h6 h7
  have D : RowKit.Hid (q = ⟨kinN (chN (dig (entN i) 0)), kinN (chN (dig (entN i) 1)), kinN (chN (dig (entN i) 2)), kinN (chN (dig (entN i) 3))⟩) := by rw [← HQ.out]; exact Lib.hid rfl
  clear HQ
  have hm2 : 0 ≤ ((entN i / 16 : Nat) : Int) ∧ ((entN i / 16 : Nat) : Int) ≤ 8 := by omega
  have hm3 : 0 ≤ ((entN i % 16 : Nat) : Int) ∧ ((entN i % 16 : Nat) : Int) ≤ 16 := by omega
  generalize ((entN i / 16 : Nat) : Int) = m2 at hx HN hm2
  generalize ((entN i % 16 : Nat) : Int) = m3 at hx HN hm3
  obtain ⟨x1, x2, x3, x4⟩ := hx.out
  clear hx
  generalize (hexc (entN i / 16) : Int) = c2 at h2 x1 x2
  generalize (hexc (entN i % 16) : Int) = c3 at h3 x3 x4
  generalize (chN (dig (entN i) 0) : Int) = c4 at h4 D
  generalize (chN (dig (entN i) 1) : Int) = c5 at h5 D
  generalize (chN (dig (entN i) 2) : Int) = c6 at h6 D
  generalize (chN (dig (entN i) 3) : Int) = c7 at h7 D
  have X1 := Lib.hid x1
  have X2 := Lib.hid x2
  have X3 := Lib.hid x3
  have X4 := Lib.hid x4
  clear x1 x2 x3 x4 hlt
  go_wp2
  go_loopw [5, 6, 7] (fun v i _ wr => ∃ k : Nat, k ≤ 4 ∧ i = .int .i64 k ∧ v = .int .i64 (pv m2 n k) ∧ w.alloc (.cells #[.int .i8 0, .int .i8 0, .int .i8 0, .int .i8 0] 23) = wr) (fun _ i _ _ => 4 - (intOf i).toNat)
  case atStart => exact ⟨0, by omega, rfl, rfl, rfl⟩
  case round =>
    obtain ⟨k, hk, rfl, rfl, rfl⟩ := hrel
    by_cases hlt : k < 4
    · rcases (show k = 0 ∨ k = 1 ∨ k = 2 ∨ k = 3 by omega) with rfl | rfl | rfl | rfl
      · simp only [pv]
        go_wp2
        go_roundw
        case rel => exact ⟨1, by omega, rfl, rfl, trivial⟩
        case measure => simp [intOf]
      · simp only [pv]
        go_wp2
        go_roundw
        case rel => exact ⟨2, by omega, rfl, rfl, trivial⟩
        case measure => simp [intOf]
      · simp only [pv]
        rcases Int.lt_or_le c2 65 with k2 | k2
        · obtain ⟨z1, y1⟩ := X1.out k2
          have Y1 := Lib.hid y1
          clear y1
          go_wp2
          go_roundw
          case rel => exact ⟨3, by omega, rfl, congrArg (Value.int .i64) (by have := Y1.out; simp only [pv]; omega), trivial⟩
          case measure => simp [intOf]
        · obtain ⟨z1, y1⟩ := X2.out k2
          have Y1 := Lib.hid y1
          clear y1
          go_wp2
          go_roundw
          case rel => exact ⟨3, by omega, rfl, congrArg (Value.int .i64) (by have := Y1.out; simp only [pv]; omega), trivial⟩
          case measure => simp [intOf]
      · simp only [pv]
        rcases Int.lt_or_le c3 65 with k2 | k2
        · obtain ⟨z1, y1⟩ := X3.out k2
          have Y1 := Lib.hid y1
          clear y1
          go_wp2
          go_roundw
          case rel => exact ⟨4, by omega, rfl, congrArg (Value.int .i64) (by have := Y1.out; have := HN.out; simp only [pv]; omega), trivial⟩
          case measure => simp [intOf]
        · obtain ⟨z1, y1⟩ := X4.out k2
          have Y1 := Lib.hid y1
          clear y1
          go_wp2
          go_roundw
          case rel => exact ⟨4, by omega, rfl, congrArg (Value.int .i64) (by have := Y1.out; have := HN.out; simp only [pv]; omega), trivial⟩
          case measure => simp [intOf]
    · obtain rfl : k = 4 := by omega
      have hn : 9472 ≤ n ∧ n ≤ 9700 := by have := HN.out; omega
      simp only [pv]
      clear X1 X2 X3 X4 HN hm2 hm3 h0 h1 h2 h3
      go_wp2
      go_loopw [9] (fun i wr => ∃ k : Nat, k ≤ 4 ∧ i = .int .i64 k ∧ (w.heap.size < wr.heap.size ∧ w.heap.size + 1 < wr.heap.size ∧ wr.cell? ⟨w.heap.size, 0, none⟩ = some (.int .i8 0) ∧ wr.cell? ⟨w.heap.size, 1, none⟩ = some (.int .i8 0) ∧ wr.cell? ⟨w.heap.size, 2, none⟩ = some (.int .i8 0) ∧ wr.cell? ⟨w.heap.size, 3, none⟩ = some (.int .i8 0) ∧ wr.frozen? ⟨w.heap.size, 0, none⟩ = false ∧ wr.frozen? ⟨w.heap.size, 1, none⟩ = false ∧ wr.frozen? ⟨w.heap.size, 2, none⟩ = false ∧ wr.frozen? ⟨w.heap.size, 3, none⟩ = false ∧ wr.frozen? ⟨w.heap.size + 1, 0, none⟩ = false ∧ wr.frozen? ⟨w.heap.size + 1, 1, none⟩ = false ∧ wr.frozen? ⟨w.heap.size + 1, 2, none⟩ = false ∧ wr.frozen? ⟨w.heap.size + 1, 3, none⟩ = false) ∧ RowKit.Hid (wr.cell? ⟨w.heap.size + 1, 0, none⟩ = some (.int .i8 (if 0 < k then kinN c4 else 0)) ∧ wr.cell? ⟨w.heap.size + 1, 1, none⟩ = some (.int .i8 (if 1 < k then kinN c5 else 0)) ∧ wr.cell? ⟨w.heap.size + 1, 2, none⟩ = some (.int .i8 (if 2 < k then kinN c6 else 0)) ∧ wr.cell? ⟨w.heap.size + 1, 3, none⟩ = some (.int .i8 (if 3 < k then kinN c7 else 0))) ∧ Below w.heap.size w wr) (fun i _ => 4 - (intOf i).toNat)
      case atStart => exact ⟨0, by omega, rfl, by simp [go_sem], Lib.hid (by simp [go_sem]), by go_grown⟩
      case round =>
        rename_i wr
        obtain ⟨k, hk, rfl, hsz, hcs, BW⟩ := hrel
        by_cases hlt : k < 4
        · have hlt' := hlt
          rcases (show k = 0 ∨ k = 1 ∨ k = 2 ∨ k = 3 by omega) with rfl | rfl | rfl | rfl
          · have hcs' := hcs.out
            simp only [Nat.reduceLT, reduceIte, Nat.lt_irrefl, Nat.not_lt_zero] at hcs'
            clear hcs
            by_cases h1 : c4 = 76
            · subst h1
              go_wp2
              go_roundw
              case rel => exact ⟨1, by omega, by first | rfl | go_num, by simp [go_sem, hsz], Lib.hid (by simp [go_sem, hsz, hcs', kinN]), by go_grown⟩
              case measure => simp [intOf]
            have g1 : (c4 == 76) = false := by simp [h1]
            by_cases h2 : c4 = 72
            · subst h2
              go_wp2
              go_roundw
              case rel => exact ⟨1, by omega, by first | rfl | go_num, by simp [go_sem, hsz], Lib.hid (by simp [go_sem, hsz, hcs', kinN]), by go_grown⟩
              case measure => simp [intOf]
            have g2 : (c4 == 72) = false := by simp [h2]
            by_cases h3 : c4 = 68
            · subst h3
              go_wp2
              go_roundw
              case rel => exact ⟨1, by omega, by first | rfl | go_num, by simp [go_sem, hsz], Lib.hid (by simp [go_sem, hsz, hcs', kinN]), by go_grown⟩
              case measure => simp [intOf]
            have g3 : (c4 == 68) = false := by simp [h3]
            by_cases h4 : c4 = 82
            · subst h4
              go_wp2
              go_roundw
              case rel => exact ⟨1, by omega, by first | rfl | go_num, by simp [go_sem, hsz], Lib.hid (by simp [go_sem, hsz, hcs', kinN]), by go_grown⟩
              case measure => simp [intOf]
            have g4 : (c4 == 82) = false := by simp [h4]
            have KZ : RowKit.Hid (kinN c4 = 0) := Lib.hid (by unfold kinN; rw [if_neg h1, if_neg h2, if_neg h3, if_neg h4])
            clear h1 h2 h3 h4
            go_wp2
            go_roundw
            case rel => exact ⟨1, by omega, by first | rfl | go_num, by simp [go_sem, hsz], Lib.hid (by simp only [KZ.out]; simp [go_sem, hsz, hcs', kinN]), by go_grown⟩
            case measure => simp [intOf]
          · have hcs' := hcs.out
            simp only [Nat.reduceLT, reduceIte, Nat.lt_irrefl, Nat.not_lt_zero] at hcs'
            clear hcs
            by_cases h1 : c5 = 76
            · subst h1
              go_wp2
              go_roundw
              case rel => exact ⟨2, by omega, by first | rfl | go_num, by simp [go_sem, hsz], Lib.hid (by simp [go_sem, hsz, hcs', kinN]), by go_grown⟩
              case measure => simp [intOf]
            have g1 : (c5 == 76) = false := by simp [h1]
            by_cases h2 : c5 = 72
            · subst h2
              go_wp2
              go_roundw
              case rel => exact ⟨2, by omega, by first | rfl | go_num, by simp [go_sem, hsz], Lib.hid (by simp [go_sem, hsz, hcs', kinN]), by go_grown⟩
              case measure => simp [intOf]
            have g2 : (c5 == 72) = false := by simp [h2]
            by_cases h3 : c5 = 68
            · subst h3
              go_wp2
              go_roundw
              case rel => exact ⟨2, by omega, by first | rfl | go_num, by simp [go_sem, hsz], Lib.hid (by simp [go_sem, hsz, hcs', kinN]), by go_grown⟩
              case measure => simp [intOf]
            have g3 : (c5 == 68) = false := by simp [h3]
            by_cases h4 : c5 = 82
            · subst h4
              go_wp2
              go_roundw
              case rel => exact ⟨2, by omega, by first | rfl | go_num, by simp [go_sem, hsz], Lib.hid (by simp [go_sem, hsz, hcs', kinN]), by go_grown⟩
              case measure => simp [intOf]
            have g4 : (c5 == 82) = false := by simp [h4]
            have KZ : RowKit.Hid (kinN c5 = 0) := Lib.hid (by unfold kinN; rw [if_neg h1, if_neg h2, if_neg h3, if_neg h4])
            clear h1 h2 h3 h4
            go_wp2
            go_roundw
            case rel => exact ⟨2, by omega, by first | rfl | go_num, by simp [go_sem, hsz], Lib.hid (by simp only [KZ.out]; simp [go_sem, hsz, hcs', kinN]), by go_grown⟩
            case measure => simp [intOf]
          · have hcs' := hcs.out
            simp only [Nat.reduceLT, reduceIte, Nat.lt_irrefl, Nat.not_lt_zero] at hcs'
            clear hcs
            by_cases h1 : c6 = 76
            · subst h1
              go_wp2
              go_roundw
              case rel => exact ⟨3, by omega, by first | rfl | go_num, by simp [go_sem, hsz], Lib.hid (by simp [go_sem, hsz, hcs', kinN]), by go_grown⟩
              case measure => simp [intOf]
            have g1 : (c6 == 76) = false := by simp [h1]
            by_cases h2 : c6 = 72
            · subst h2
              go_wp2
              go_roundw
              case rel => exact ⟨3, by omega, by first | rfl | go_num, by simp [go_sem, hsz], Lib.hid (by simp [go_sem, hsz, hcs', kinN]), by go_grown⟩
              case measure => simp [intOf]
            have g2 : (c6 == 72) = false := by simp [h2]
            by_cases h3 : c6 = 68
            · subst h3
              go_wp2
              go_roundw
              case rel => exact ⟨3, by omega, by first | rfl | go_num, by simp [go_sem, hsz], Lib.hid (by simp [go_sem, hsz, hcs', kinN]), by go_grown⟩
              case measure => simp [intOf]
            have g3 : (c6 == 68) = false := by simp [h3]
            by_cases h4 : c6 = 82
            · subst h4
              go_wp2
              go_roundw
              case rel => exact ⟨3, by omega, by first | rfl | go_num, by simp [go_sem, hsz], Lib.hid (by simp [go_sem, hsz, hcs', kinN]), by go_grown⟩
              case measure => simp [intOf]
            have g4 : (c6 == 82) = false := by simp [h4]
            have KZ : RowKit.Hid (kinN c6 = 0) := Lib.hid (by unfold kinN; rw [if_neg h1, if_neg h2, if_neg h3, if_neg h4])
            clear h1 h2 h3 h4
            go_wp2
            go_roundw
            case rel => exact ⟨3, by omega, by first | rfl | go_num, by simp [go_sem, hsz], Lib.hid (by simp only [KZ.out]; simp [go_sem, hsz, hcs', kinN]), by go_grown⟩
            case measure => simp [intOf]
          · have hcs' := hcs.out
            simp only [Nat.reduceLT, reduceIte, Nat.lt_irrefl, Nat.not_lt_zero] at hcs'
            clear hcs
            by_cases h1 : c7 = 76
            · subst h1
              go_wp2
              go_roundw
              case rel => exact ⟨4, by omega, by first | rfl | go_num, by simp [go_sem, hsz], Lib.hid (by simp [go_sem, hsz, hcs', kinN]), by go_grown⟩
              case measure => simp [intOf]
            have g1 : (c7 == 76) = false := by simp [h1]
            by_cases h2 : c7 = 72
            · subst h2
              go_wp2
              go_roundw
              case rel => exact ⟨4, by omega, by first | rfl | go_num, by simp [go_sem, hsz], Lib.hid (by simp [go_sem, hsz, hcs', kinN]), by go_grown⟩
              case measure => simp [intOf]
            have g2 : (c7 == 72) = false := by simp [h2]
            by_cases h3 : c7 = 68
            · subst h3
              go_wp2
              go_roundw
              case rel => exact ⟨4, by omega, by first | rfl | go_num, by simp [go_sem, hsz], Lib.hid (by simp [go_sem, hsz, hcs', kinN]), by go_grown⟩
              case measure => simp [intOf]
            have g3 : (c7 == 68) = false := by simp [h3]
            by_cases h4 : c7 = 82
            · subst h4
              go_wp2
              go_roundw
              case rel => exact ⟨4, by omega, by first | rfl | go_num, by simp [go_sem, hsz], Lib.hid (by simp [go_sem, hsz, hcs', kinN]), by go_grown⟩
              case measure => simp [intOf]
            have g4 : (c7 == 82) = false := by simp [h4]
            have KZ : RowKit.Hid (kinN c7 = 0) := Lib.hid (by unfold kinN; rw [if_neg h1, if_neg h2, if_neg h3, if_neg h4])
            clear h1 h2 h3 h4
            go_wp2
            go_roundw
            case rel => exact ⟨4, by omega, by first | rfl | go_num, by simp [go_sem, hsz], Lib.hid (by simp only [KZ.out]; simp [go_sem, hsz, hcs', kinN]), by go_grown⟩
            case measure => simp [intOf]
        · obtain rfl : k = 4 := by omega
          have hcs' := hcs.out
          simp only [show (0 : Nat) < 4 by decide, show (1 : Nat) < 4 by decide, show (2 : Nat) < 4 by decide, show (3 : Nat) < 4 by decide, if_true] at hcs'
          clear hcs
          go_wp2
          go_region
          all_goals
            go_wp2
            rw [D.out]
            exact bodyPost_ret (v := .tuple #[.int .i32 n, .agg #[.int .i8 (kinN c4), .int .i8 (kinN c5), .int .i8 (kinN c6), .int .i8 (kinN c7)]]) (by simp [results, Try.results40, go_sem, hsz]) rfl ⟨rfl, by go_grown⟩
end Go.Proofs.Ytebalohoblaedaa
