/- Focus: contracts of slices.Index and focus.Next. -/
import Derived.Test.YtihjefncjkdnpaaFoN
import Derived.Test.YtihjefncjkdnpaaFoC
namespace Go.Proofs.Ytihjefncjkdnpaa
open Go.RowKit Go.Deep
set_option linter.unusedVariables false
set_option linter.unusedSimpArgs false

set_option maxRecDepth 100000 in
set_option maxHeartbeats 4000000 in
theorem Index_any (v : Value) (L : List Int) (x : Int) (w : World) (hv : IntsAt w v L) : Calls Try.prog 41 #[v, .int .i64 x] w fun e w' => e = .returned (.int .i64 (atI L x)) ∧ w = w' := by
  obtain ⟨p, c, rfl, hl1, hl2, _, hc⟩ := hv
  have HC := Lib.hid hc
  have HRX := Lib.hid (fun (y : Int) (hy : atI L x = y) => show Ending.returned (.int .i64 y) = .returned (.int .i64 (atI L x)) by rw [hy])
  have HAT := Lib.hid (show atI L x = ixF (fun y => decide (y = x)) L from rfl)
  have hlen : L.length ≤ 9223372036854775807 := by omega
  generalize atI L x = R at *
  clear hc
  go_enter Try.func41, Try.ntmps41
  go_wp2
  go_loop [8] (fun i => ∃ k : Nat, k ≤ L.length ∧ i = .int .i64 k ∧ RowKit.Hid (∀ j, j < k → decide (L.getD j 0 = x) = false)) (fun i => L.length - (intOf i).toNat)
  case atStart => exact ⟨0, Nat.zero_le _, rfl, Lib.hid (fun j hj => absurd hj (Nat.not_lt_zero _))⟩
  case round =>
    obtain ⟨k, hk, rfl, HP⟩ := hrel
    by_cases hlt : k < L.length
    · have hki : (k : Int) < (L.length : Int) := by omega
      obtain ⟨b, off, rfl, hb, hcell⟩ := HC.out (by omega)
      have ck := hcell k hlt
      obtain ⟨y, hy⟩ : ∃ y, y = L.getD k 0 := ⟨_, rfl⟩
      have HY := Lib.hid hy
      rw [← hy] at ck
      clear hcell hy
      by_cases hp : y = x
      · have HE := Lib.hid (HRX.out _ (HAT.out.trans (ixF_hit (P := fun y => decide (y = x)) hlt (by rw [← HY.out]; simpa using hp) HP.out)))
        have hyx : (x == y) = true := by simpa using hp.symm
        clear hp HAT HRX HY
        go_wp2
        go_ret
        exact ⟨HE.out, rfl⟩
      · have hyx : (x == y) = false := by simpa using fun e => hp e.symm
        have HP' := Lib.hid (show ∀ j, j < k + 1 → decide (L.getD j 0 = x) = false from fun j hj => by
          by_cases e : j = k
          · rw [e, ← HY.out]; simpa using hp
          · exact HP.out j (by omega))
        clear hp HP HY
        go_wp2
        go_round
        case rel => exact ⟨k + 1, by omega, by go_num, HP'⟩
        case measure => simp [intOf]; omega
    · obtain rfl : k = L.length := by omega
      have HE := Lib.hid (HRX.out _ (HAT.out.trans (ixF_miss (P := fun y => decide (y = x)) HP.out)))
      clear hlt hk HP HAT HRX
      go_wp2
      go_ret
      exact ⟨HE.out, rfl⟩
theorem fosL_len (T : List Nd) : (fosL T).length ≤ 4096 := by
  unfold fosL
  have := List.length_filter_le (fun n => canT T n) (ordL T)
  have := stepO_len T
  omega
def RetN (L : List Int) (at' by' : Int) (w : World) (e : Ending) (w' : World) : Prop := e = .returned (.int .i64 (nextR L at' by')) ∧ Below w.heap.size w w'
set_option maxRecDepth 100000 in
set_option maxHeartbeats 8000000 in
theorem focus_Next_any (p : Option Addr) (c : Nat) (T : List Nd) (at' by' : Int) (w : World) (hT : TreeAt w (.slice p T.length c) T) : Calls Try.prog 14 #[.agg #[.slice p T.length c], .int .i64 at', .int .i64 by'] w (RetN (fosL T) at' by' w) := by
  have hlen := hT.len
  have HTO := Lib.hid (fun w' (hb : Below w.heap.size w w') => focus_Order_any p c T w' (hT.later hb))
  have hl := fosL_len T
  clear hT
  generalize fosL T = L at *
  have HR := Lib.hid (fun w' (x : Int) (hx : nextR L at' by' = x) (hb : Below w.heap.size w w') => show RetN L at' by' w (.returned (.int .i64 x)) w' by rw [← hx]; exact ⟨rfl, hb⟩)
  have HN := Lib.hid (show nextR L at' by' = if L.length = 0 then -1 else if atI L at' < 0 ∧ by' = 0 then -1 else stepI L (if atI L at' < 0 ∧ by' < 0 then 0 else atI L at') by' from rfl)
  have hat := atI_range L at'
  obtain ⟨h1, h2, _, _⟩ := hat
  have HIX := Lib.hid (fun (v : Value) (w : World) (hv : IntsAt w v L) => Index_any v L at' w hv)
  generalize RetN L at' by' w = post at *
  generalize atI L at' = i at *
  generalize nextR L at' by' = R at *
  go_enter Try.func14, Try.ntmps14
  go_wp2_with fail
  refine (HTO.out _ (by go_grown)).mono ?_
  rintro e w1 ⟨v, rfl, own, hb1⟩
  have B1 : Below w.heap.size w w1 := below_via hb1 (by go_grown)
  have HV := Lib.hid (row_ints own)
  clear HTO hb1
  rcases Nat.eq_zero_or_pos L.length with h0 | hpos
  · have HE := Lib.hid (HR.out w1 _ (HN.out.trans (if_pos h0)) B1)
    obtain ⟨pv, cv, rfl, _⟩ := HV.out
    have hk : ((L.length : Int) == 0) = true := by simp [h0]
    clear HR HN HIX HV own h0
    go_wp2
    exact HE.out
  · have HN1 := Lib.hid (HN.out.trans (if_neg (by omega)))
    have hk : ((L.length : Int) == 0) = false := beq_eq_false_iff_ne.2 (by omega)
    obtain ⟨pv, cv, rfl, hcv, hcv2, _, hcell⟩ := HV.out
    obtain ⟨b, off, rfl, hb, hcell⟩ := hcell hpos
    have HC := Lib.hid hcell
    have HI2 := Lib.hid (HIX.out _ w1 HV.out)
    have hkp : (0 : Int) < (L.length : Int) := by omega
    clear HN own HV HIX hcell
    obtain ⟨t1, t2⟩ := tmod_bd by' hkp
    by_cases hi : i < 0
    · rcases Int.lt_trichotomy by' 0 with hb0 | rfl | hb0
      · have HE := Lib.hid (HN1.out.trans ((if_neg (by omega)).trans (by rw [if_pos ⟨hi, hb0⟩])))
        have k0 : (by' == 0) = false := by simp; omega
        obtain ⟨u1, u2⟩ := tmod_bd (by') hkp
        obtain ⟨v1, v2⟩ := mod_range ((0) + by') hkp
        obtain ⟨q, hq⟩ : ∃ q : Nat, ((0) + by') % (L.length : Int) = (q : Int) := ⟨(((0) + by') % (L.length : Int)).toNat, by omega⟩
        have hqe : (by').tmod (L.length : Int) % (L.length : Int) = (q : Int) := by rw [tmod_emod _ hkp]; rw [Int.zero_add] at hq; exact hq
        have hqL : q < L.length := by omega
        have hqi : (q : Int) < (L.length : Int) := by omega
        have HE2 := Lib.hid (HR.out w1 (L.getD q 0) (by rw [HE.out]; unfold stepI; rw [hq, Int.toNat_natCast]) B1)
        have cq := HC.out q hqL
        generalize L.getD q 0 = y at *
        clear HR HN1 HC HE hq v1 v2
        go_wp2_with fail
        refine HI2.out.mono ?_
        rintro e w2 ⟨rfl, rfl⟩
        clear HI2
        go_wp2
        exact HE2.out
      · have HE := Lib.hid (HR.out w1 _ (HN1.out.trans (if_pos ⟨hi, rfl⟩)) B1)
        clear HR HN1 HC t1 t2
        go_wp2_with fail
        refine HI2.out.mono ?_
        rintro e w2 ⟨rfl, rfl⟩
        clear HI2
        go_wp2
        exact HE.out
      · have HE := Lib.hid (HN1.out.trans ((if_neg (fun h => by omega)).trans (by rw [if_neg (fun h => by omega)])))
        have k0 : (by' == 0) = false := by simp; omega
        obtain rfl : i = -1 := by omega
        obtain ⟨m1, m2⟩ := mod_range by' hkp
        obtain ⟨u1, u2⟩ := tmod_bd (-1 + by' % (L.length : Int)) hkp
        obtain ⟨v1, v2⟩ := mod_range ((-1) + by') hkp
        obtain ⟨q, hq⟩ : ∃ q : Nat, ((-1) + by') % (L.length : Int) = (q : Int) := ⟨(((-1) + by') % (L.length : Int)).toNat, by omega⟩
        have hqe : (-1 + by' % (L.length : Int)).tmod (L.length : Int) % (L.length : Int) = (q : Int) := by rw [tmod_emod _ hkp, Int.add_emod_emod]; exact hq
        have hqL : q < L.length := by omega
        have hqi : (q : Int) < (L.length : Int) := by omega
        have HE2 := Lib.hid (HR.out w1 (L.getD q 0) (by rw [HE.out]; unfold stepI; rw [hq, Int.toNat_natCast]) B1)
        have cq := HC.out q hqL
        generalize L.getD q 0 = y at *
        clear HR HN1 HC HE hq v1 v2
        go_wp2_with fail
        refine HI2.out.mono ?_
        rintro e w2 ⟨rfl, rfl⟩
        clear HI2
        go_wp2
        exact HE2.out
    · have HE := Lib.hid (HN1.out.trans ((if_neg (fun h => hi h.1)).trans (by rw [if_neg (fun h => hi h.1)])))
      obtain ⟨u1, u2⟩ := tmod_bd (i + by'.tmod (L.length : Int)) hkp
      obtain ⟨v1, v2⟩ := mod_range ((i) + by') hkp
      obtain ⟨q, hq⟩ : ∃ q : Nat, ((i) + by') % (L.length : Int) = (q : Int) := ⟨(((i) + by') % (L.length : Int)).toNat, by omega⟩
      have hqe : (i + by'.tmod (L.length : Int)).tmod (L.length : Int) % (L.length : Int) = (q : Int) := by rw [tmod_emod _ hkp, add_tmod i by' hkp]; exact hq
      have hqL : q < L.length := by omega
      have hqi : (q : Int) < (L.length : Int) := by omega
      have HE2 := Lib.hid (HR.out w1 (L.getD q 0) (by rw [HE.out]; unfold stepI; rw [hq, Int.toNat_natCast]) B1)
      have cq := HC.out q hqL
      generalize L.getD q 0 = y at *
      clear HR HN1 HC HE hq v1 v2
      go_wp2_with fail
      refine HI2.out.mono ?_
      rintro e w2 ⟨rfl, rfl⟩
      clear HI2
      go_wp2
      exact HE2.out
end Go.Proofs.Ytihjefncjkdnpaa
