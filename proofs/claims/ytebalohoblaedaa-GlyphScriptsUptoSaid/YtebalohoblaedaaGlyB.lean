/- Layer 13: Of. -/
import Derived.Test.YtebalohoblaedaaGlyA
namespace Go.Proofs.Ytebalohoblaedaa
open Go.RowKit
set_option linter.unusedVariables false
set_option linter.unusedSimpArgs false

/-- the arms of the characters from 0x2500 on, a decimal digit each; 9999: no line -/
def armT : List Nat := [101, 202, 1010, 2020, 9999, 9999, 9999, 9999, 9999, 9999, 9999, 9999, 110, 210, 120, 220, 11, 12, 21, 22, 1100, 1200, 2100, 2200, 1001, 1002, 2001, 2002, 1110, 1210, 2110, 1120, 2120, 2210, 1220, 2220, 1011, 1012, 2011, 1021, 2021, 2012, 1022, 2022, 111, 112, 211, 212, 121, 122, 221, 222, 1101, 1102, 1201, 1202, 2101, 2102, 2201, 2202, 1111, 1112, 1211, 1212, 2111, 1121, 2121, 2112, 2211, 1122, 1221, 2212, 1222, 2122, 2221, 2222, 9999, 9999, 9999, 9999, 303, 3030, 310, 130, 330, 13, 31, 33, 1300, 3100, 3300, 1003, 3001, 3003, 1310, 3130, 3330, 1013, 3031, 3033, 313, 131, 333, 1303, 3101, 3303, 1313, 3131, 3333, 440, 44, 4004, 4400, 9999, 9999, 9999, 1, 1000, 100, 10, 2, 2000, 200, 20, 201, 1020, 102, 2010]
def dig (n i : Nat) : Nat := armT.getD n 9999 / (match i with | 0 => 1000 | 1 => 100 | 2 => 10 | _ => 1) % 10
def chN (d : Nat) : Nat := match d with | 0 => 45 | 1 => 76 | 2 => 72 | 3 => 68 | 4 => 82 | _ => 46
/-- the bytes of one character -/
structure Four (n : Nat) (B : ByteArray) : Prop where
  sz : B.size = 4
  at_ : ∀ i (h : i < B.size), (B[i].toNat : Int) = (chN (dig n i) : Int)
def Lets (S : ByteArray) : Prop := S.size = 512 ∧ ∀ n, n < 128 → ∀ i, i < 4 → S.data.toList.getD (4 * n + i) 0 = (chN (dig n i)).toUInt8
theorem chN_small (d : Nat) : chN d < 256 := by unfold chN; split <;> decide
theorem four_of {S : ByteArray} (h : Lets S) (n : Nat) (hn : n < 128) : Four n ((S.extract (4 * n) 512).extract 0 4) := by
  have hsz : ((S.extract (4 * n) 512).extract 0 4).size = 4 := by have e := h.1; rw [ByteArray.size_extract, ByteArray.size_extract, e]; omega
  refine ⟨hsz, fun i hi => ?_⟩
  rw [hsz] at hi
  have h2 := h.2 n hn i hi
  have hk : 4 * n + i < S.data.toList.length := by have e : S.data.size = 512 := h.1; rw [Array.length_toList]; omega
  have e : ((S.extract (4 * n) 512).extract 0 4)[i]'(by omega) = S.data.toList.getD (4 * n + i) 0 := by
    simp only [ByteArray.getElem_extract]
    rw [List.getD_eq_getElem?_getD, List.getElem?_eq_getElem hk]
    simp [ByteArray.getElem_eq_getElem_data]
  rw [e, h2]
  have := chN_small (dig n i)
  simp
  omega

structure A4 where
  u : Int
  r : Int
  d : Int
  l : Int
deriving DecidableEq
def zA : A4 := ⟨0, 0, 0, 0⟩
def ofN (n : Nat) : A4 := ⟨kinN (chN (dig n 0)), kinN (chN (dig n 1)), kinN (chN (dig n 2)), kinN (chN (dig n 3))⟩
def okN (n : Nat) : Bool := !((chN (dig n 0) : Int) == 46)
/-- the arms of a character, and whether it has any -/
def ofA (r : Int) : A4 × Bool := if 9472 ≤ r ∧ r ≤ 9599 ∧ okN (r - 9472).toNat = true then (ofN (r - 9472).toNat, true) else (zA, false)

theorem ofA_in (n : Nat) (hn : n < 128) : ofA (9472 + (n : Int)) = if okN n = true then (ofN n, true) else (zA, false) := by
  unfold ofA
  rw [show (9472 + (n : Int) - 9472).toNat = n by omega]
  have h1 : 9472 ≤ 9472 + (n : Int) := by omega
  have h2 : 9472 + (n : Int) ≤ 9599 := by omega
  simp only [h1, h2, true_and]
theorem ofA_out (r : Int) (h : r < 9472 ∨ 9599 < r) : ofA r = (zA, false) := by
  unfold ofA
  rw [if_neg (by omega)]

set_option maxRecDepth 100000 in
set_option maxHeartbeats 4000000 in
theorem of_in (n : Nat) (hn : n < 128) (r : Int) (hr : r = 9472 + (n : Int)) (w : World) : Calls Try.prog 17 #[.int .i32 (9472 + (n : Int))] w fun e w' => e = .returned (.tuple #[.agg #[.int .i8 ((ofA r).1.u), .int .i8 ((ofA r).1.r), .int .i8 ((ofA r).1.d), .int .i8 ((ofA r).1.l)], .bool (ofA r).2]) ∧ Below w.heap.size w w' := by
  have e0 : okN n = !((chN (dig n 0) : Int) == 46) := rfl
  have E := Lib.hid e0
  have G := Lib.hid (hr ▸ ofA_in n hn)
  clear e0 hr
  go_enter Try.func17, Try.ntmps17
  go_upto_region 4 with (fail)
  generalize hS : (ByteArray.mk _ : ByteArray) = S
  have hz : S.size = 512 := by rw [← hS]; kernel_rfl
  have HS : Lets S := by rw [← hS]; exact ⟨by kernel_rfl, by decide +kernel⟩
  clear hS
  go_upto_region 5 with (fail)
  have F := four_of HS n hn
  generalize (S.extract (4 * n) 512).extract 0 4 = B at F ⊢
  clear HS
  have hB := F.sz
  have h0 := F.at_ 0 (by omega); have h1 := F.at_ 1 (by omega); have h2 := F.at_ 2 (by omega); have h3 := F.at_ 3 (by omega)
  clear F
  have D : RowKit.Hid (ofN n = ⟨kinN (chN (dig n 0)), kinN (chN (dig n 1)), kinN (chN (dig n 2)), kinN (chN (dig n 3))⟩) := Lib.hid rfl
  generalize (chN (dig n 0) : Int) = c0 at h0 D E
  generalize (chN (dig n 1) : Int) = c1 at h1 D
  generalize (chN (dig n 2) : Int) = c2 at h2 D
  generalize (chN (dig n 3) : Int) = c3 at h3 D
  by_cases hd : c0 = 46
  · subst hd
    go_wp2
    rw [G.out, E.out]
    exact bodyPost_ret (v := .tuple #[.agg #[.int .i8 0, .int .i8 0, .int .i8 0, .int .i8 0], .bool false]) (by simp [results, Try.results17, go_sem]) rfl ⟨rfl, by go_grown⟩
  · have hd' : (c0 == 46) = false := by simp [hd]
    go_wp2
    refine wp_loop_rounds 5 ?_
    iterate 4
      rw [rounds_succ]
      go_wp2_with (go_at_call 38; refine (kind_any _ _).mono ?_; rintro e w' ⟨rfl, rfl⟩)
    rw [rounds_succ]
    go_wp2
    rw [G.out, E.out, D.out, hd']
    exact bodyPost_ret (v := .tuple #[.agg #[.int .i8 (kinN c0), .int .i8 (kinN c1), .int .i8 (kinN c2), .int .i8 (kinN c3)], .bool true]) (by simp [results, Try.results17, go_sem]) rfl ⟨rfl, by go_grown⟩
theorem of_out (r : Int) (h : r < 9472 ∨ 9599 < r) (w : World) : Calls Try.prog 17 #[.int .i32 r] w fun e w' => e = .returned (.tuple #[.agg #[.int .i8 ((ofA r).1.u), .int .i8 ((ofA r).1.r), .int .i8 ((ofA r).1.d), .int .i8 ((ofA r).1.l)], .bool (ofA r).2]) ∧ Below w.heap.size w w' := by
  rw [ofA_out r h]
  show Calls _ _ _ _ fun e w' => e = .returned (.tuple #[.agg #[.int .i8 0, .int .i8 0, .int .i8 0, .int .i8 0], .bool false]) ∧ Below w.heap.size w w'
  rcases h with h | h
  · go_enter Try.func17, Try.ntmps17
    go_wp2
    exact bodyPost_ret (v := .tuple #[.agg #[.int .i8 0, .int .i8 0, .int .i8 0, .int .i8 0], .bool false]) (by simp [results, Try.results17, go_sem]) rfl ⟨rfl, by go_grown⟩
  · have h' : ¬ r < 9472 := by omega
    go_enter Try.func17, Try.ntmps17
    go_wp2
    exact bodyPost_ret (v := .tuple #[.agg #[.int .i8 0, .int .i8 0, .int .i8 0, .int .i8 0], .bool false]) (by simp [results, Try.results17, go_sem]) rfl ⟨rfl, by go_grown⟩
theorem of_any (r : Int) (w : World) : Calls Try.prog 17 #[.int .i32 r] w fun e w' => e = .returned (.tuple #[.agg #[.int .i8 ((ofA r).1.u), .int .i8 ((ofA r).1.r), .int .i8 ((ofA r).1.d), .int .i8 ((ofA r).1.l)], .bool (ofA r).2]) ∧ Below w.heap.size w w' := by
  by_cases h : r < 9472 ∨ 9599 < r
  · exact of_out r h w
  · have := of_in (r - 9472).toNat (by omega) r (by omega) w
    rwa [show 9472 + (((r - 9472).toNat : Nat) : Int) = r by omega] at this
end Go.Proofs.Ytebalohoblaedaa
