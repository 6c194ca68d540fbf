/- Focus: contracts of the reference's Next, and of Carry, both. -/
import Derived.Test.YtihjefncjkdnpaaFoD
import Derived.Test.YtihjefncjkdnpaaFoE
namespace Go.Proofs.Ytihjefncjkdnpaa
open Go.RowKit Go.Deep
set_option linter.unusedVariables false
set_option linter.unusedSimpArgs false

set_option maxRecDepth 100000 in
set_option maxHeartbeats 4000000 in
theorem ref_mod_any (x : Int) (k : Nat) (hk : 0 < k) (hk2 : k ≤ 4096) (w : World) : Calls Try.prog 42 #[.int .i64 x, .int .i64 (k : Int)] w fun e w' => e = .returned (.int .i64 (x % (k : Int))) ∧ w = w' := by
  have hkp : (0 : Int) < (k : Int) := by omega
  have hk4 : (k : Int) ≤ 4096 := by omega
  obtain ⟨h1, h2⟩ := mod_of x hkp
  obtain ⟨t1, t2⟩ := tmod_bd x hkp
  obtain ⟨e1, e2⟩ := mod_range x hkp
  have HE1 := Lib.hid h1
  have HE2 := Lib.hid h2
  have HM := Lib.hid (show 0 ≤ x → x.tmod (k : Int) = x % (k : Int) from fun h => Int.tmod_eq_emod_of_nonneg h)
  obtain ⟨r, hr⟩ : ∃ r, r = x % (k : Int) := ⟨_, rfl⟩
  rcases Int.lt_or_le x 0 with hx | hx
  · rcases Int.lt_or_le (x.tmod (k : Int)) 0 with hn | hn
    · have HF := Lib.hid (h2 hn)
      clear h1 h2 HE1 HE2 HM hr e1 e2
      go_enter Try.func42, Try.ntmps42
      go_wp2
      go_ret
      exact ⟨by rw [← HF.out]; rfl, rfl⟩
    · have HF := Lib.hid (h1 hn)
      clear h1 h2 HE1 HE2 HM hr e1 e2
      go_enter Try.func42, Try.ntmps42
      go_wp2
      go_ret
      exact ⟨by rw [← HF.out]; rfl, rfl⟩
  · clear h1 h2 HE1 HE2 HM hr t1 t2
    go_enter Try.func42, Try.ntmps42
    go_wp2
    go_ret
    exact ⟨rfl, rfl⟩
/-- the last place -/
def lastI (L : List Int) (x : Int) : Nat → Int
  | 0 => -1
  | j + 1 => if L.getD j 0 = x then (j : Int) else lastI L x j
theorem lastI_range (L : List Int) (x : Int) : ∀ j, -1 ≤ lastI L x j ∧ lastI L x j < (j : Int)
  | 0 => by simp [lastI]
  | j + 1 => by
    have := lastI_range L x j
    rw [lastI]
    split <;> omega
theorem lastI_spec (L : List Int) (x : Int) : ∀ j, j ≤ L.length → (lastI L x j < 0 ∧ ∀ i, i < j → L.getD i 0 ≠ x) ∨ ∃ i : Nat, lastI L x j = i ∧ i < j ∧ L.getD i 0 = x
  | 0, _ => .inl ⟨by simp [lastI], fun i hi => by omega⟩
  | j + 1, hj => by
    rw [lastI]
    by_cases h : L.getD j 0 = x
    · rw [if_pos h]; exact .inr ⟨j, rfl, by omega, h⟩
    · rw [if_neg h]
      rcases lastI_spec L x j (by omega) with ⟨h1, h2⟩ | ⟨i, h1, h2, h3⟩
      · left
        refine ⟨h1, fun i hi => ?_⟩
        by_cases e : i = j
        · rw [e]; exact h
        · exact h2 i (by omega)
      · exact .inr ⟨i, h1, by omega, h3⟩
/-- in a list without repetition: the first place is the last -/
theorem lastI_first {L : List Int} (hd : L.Nodup) (x : Int) : lastI L x L.length = atI L x := by
  unfold atI
  rcases ixF_spec (fun y => decide (y = x)) L with ⟨e, h⟩ | ⟨i, e, hi, h, _⟩
  · rw [e]
    rcases lastI_spec L x L.length (Nat.le_refl _) with ⟨h1, _⟩ | ⟨i, _, h2, h3⟩
    · have := lastI_range L x L.length; omega
    · have := h i h2; simp at this; exact absurd h3 this
  · rw [e]
    have hx : L.getD i 0 = x := by simpa using h
    rcases lastI_spec L x L.length (Nat.le_refl _) with ⟨_, h2⟩ | ⟨k, h1, h2, h3⟩
    · exact absurd hx (h2 i hi)
    · rw [h1]
      rw [List.getD_eq_getElem?_getD, List.getElem?_eq_getElem hi, Option.getD_some] at hx
      rw [List.getD_eq_getElem?_getD, List.getElem?_eq_getElem h2, Option.getD_some] at h3
      have hp := List.pairwise_iff_getElem.1 hd
      rcases Nat.lt_trichotomy k i with hki | hki | hki
      · exact absurd (h3.trans hx.symm) (hp k i h2 hi hki)
      · rw [hki]
      · exact absurd (hx.trans h3.symm) (hp i k hi h2 hki)
theorem fosL_nodup (T : List Nd) : (fosL T).Nodup := by
  unfold fosL ordL
  have h : ((ordN T).map Int.ofNat).Nodup := List.pairwise_map.2 ((ordN_nodup T).imp fun hne e => hne (Int.ofNat.inj e))
  exact List.Pairwise.filter _ h
set_option maxRecDepth 100000 in
set_option maxHeartbeats 8000000 in
theorem ref_Next_any (p : Option Addr) (c : Nat) (T : List Nd) (at' by' : Int) (w : World) (hT : TreeAt w (.slice p T.length c) T) : Calls Try.prog 15 #[.agg #[.slice p T.length c], .int .i64 at', .int .i64 by'] w (RetN (fosL T) at' by' w) := by
  have hlen := hT.len
  have HTO := Lib.hid (fun w' (hb : Below w.heap.size w w') => ref_focus_Order_any p c T w' (hT.later hb))
  have hl := fosL_len T
  have HND := Lib.hid (fosL_nodup T)
  clear hT
  generalize fosL T = L at *
  have HR := Lib.hid (fun w' (x : Int) (hx : nextR L at' by' = x) (hb : Below w.heap.size w w') => show RetN L at' by' w (.returned (.int .i64 x)) w' by rw [← hx]; exact ⟨rfl, hb⟩)
  have HN := Lib.hid (show nextR L at' by' = if L.length = 0 then -1 else if atI L at' < 0 ∧ by' = 0 then -1 else stepI L (if atI L at' < 0 ∧ by' < 0 then 0 else atI L at') by' from rfl)
  have hat := atI_range L at'
  obtain ⟨h1, h2, _, _⟩ := hat
  have HLI := Lib.hid (lastI_first HND.out at')
  generalize RetN L at' by' w = post at *
  generalize atI L at' = i at *
  generalize nextR L at' by' = R at *
  go_enter Try.func15, Try.ntmps15
  go_wp2_with fail
  refine (HTO.out _ (by go_grown)).mono ?_
  rintro e w1 ⟨v, rfl, own, hb1⟩
  have B1 : Below w.heap.size w w1 := below_via hb1 (by go_grown)
  have HV := Lib.hid (row_ints own)
  clear HTO hb1
  rcases Nat.eq_zero_or_pos L.length with h0 | hpos
  · have HE := Lib.hid (HR.out w1 _ (HN.out.trans (if_pos h0)) B1)
    obtain ⟨pv, cv, rfl, _⟩ := HV.out
    have hk : ((L.length : Int) == 0) = true := by simp [h0]
    clear HR HN HV own h0
    go_wp2
    exact HE.out
  · have HN1 := Lib.hid (HN.out.trans (if_neg (by omega)))
    have hk : ((L.length : Int) == 0) = false := beq_eq_false_iff_ne.2 (by omega)
    obtain ⟨pv, cv, rfl, hcv, hcv2, _, hcell⟩ := HV.out
    obtain ⟨b, off, rfl, hb, hcell⟩ := hcell hpos
    have HC := Lib.hid hcell
    have hkp : (0 : Int) < (L.length : Int) := by omega
    clear HN own HV hcell
    go_wp2
    go_loop [10, 9] (fun jv iv => ∃ j : Nat, j ≤ L.length ∧ jv = .int .i64 j ∧ iv = .int .i64 (lastI L at' j)) (fun jv _ => L.length - (intOf jv).toNat)
    case atStart => exact ⟨0, Nat.zero_le _, rfl, rfl⟩
    case round =>
      obtain ⟨j, hj, rfl, rfl⟩ := hrel
      by_cases hlt : j < L.length
      · have hji : (j : Int) < (L.length : Int) := by omega
        have cj := HC.out j hlt
        have HS := Lib.hid (show lastI L at' (j + 1) = if L.getD j 0 = at' then (j : Int) else lastI L at' j from rfl)
        obtain ⟨y, hy⟩ : ∃ y, y = L.getD j 0 := ⟨_, rfl⟩
        rw [← hy] at cj HS
        clear hy
        generalize lastI L at' j = la at *
        by_cases he : y = at'
        · have HS2 := Lib.hid (HS.out.trans (if_pos he))
          have hye : (y == at') = true := by simpa using he
          clear HS he
          go_wp2
          go_round
          case rel => exact ⟨j + 1, by omega, by go_num, by rw [HS2.out]⟩
          case measure => simp [intOf]; omega
        · have HS2 := Lib.hid (HS.out.trans (if_neg he))
          have hye : (y == at') = false := by simpa using he
          clear HS he
          go_wp2
          go_round
          case rel => exact ⟨j + 1, by omega, by go_num, by rw [HS2.out]⟩
          case measure => simp [intOf]; omega
      · obtain rfl : j = L.length := by omega
        rw [HLI.out]
        clear hlt hj HLI
        have HMOD := Lib.hid (fun (x : Int) (w : World) => ref_mod_any x L.length hpos hl w)
        by_cases hi : i < 0
        · rcases Int.lt_trichotomy by' 0 with hb0 | rfl | hb0
          · have HE := Lib.hid (HN1.out.trans ((if_neg (fun h => by omega)).trans (by rw [if_pos ⟨hi, hb0⟩])))
            have k0 : (by' == 0) = false := by simp; omega
            obtain ⟨v1, v2⟩ := mod_range ((0) + by') hkp
            obtain ⟨a1, a2⟩ := mod_range ((L.length : Int)) hkp
            obtain ⟨b1, b2⟩ := mod_range by' hkp
            obtain ⟨q, hq⟩ : ∃ q : Nat, ((0) + by') % (L.length : Int) = (q : Int) := ⟨(((0) + by') % (L.length : Int)).toNat, by omega⟩
            have hqL : q < L.length := by omega
            have hqi : (q : Int) < (L.length : Int) := by omega
            have hq0 : by' % (L.length : Int) = (q : Int) := (by rw [Int.zero_add] at hq; exact hq)
            have hq1 : (q : Int) % (L.length : Int) = (q : Int) := Int.emod_eq_of_lt (Int.natCast_nonneg q) hqi
            clear hq b1 b2 a1 a2
            have HE2 := Lib.hid (HR.out w1 (L.getD q 0) (by rw [HE.out]; unfold stepI; rw [Int.zero_add, hq0]; rw [Int.toNat_natCast]) B1)
            have cq := HC.out q hqL
            generalize L.getD q 0 = y at *
            clear HR HN1 HC HE v1 v2
            go_wp2_with ((refine (HMOD.out _ _).mono ?_); rintro e w2 ⟨rfl, rfl⟩)
            exact HE2.out
          · have HE := Lib.hid (HR.out w1 _ (HN1.out.trans (if_pos ⟨hi, rfl⟩)) B1)
            clear HR HN1 HC
            go_wp2
            exact HE.out
          · have HE := Lib.hid (HN1.out.trans ((if_neg (fun h => by omega)).trans (by rw [if_neg (fun h => by omega)])))
            have k0 : (by' == 0) = false := by simp; omega
            obtain ⟨v1, v2⟩ := mod_range ((i) + by') hkp
            obtain ⟨a1, a2⟩ := mod_range (i) hkp
            obtain ⟨b1, b2⟩ := mod_range by' hkp
            obtain ⟨q, hq⟩ : ∃ q : Nat, ((i) + by') % (L.length : Int) = (q : Int) := ⟨(((i) + by') % (L.length : Int)).toNat, by omega⟩
            have hqL : q < L.length := by omega
            have hqi : (q : Int) < (L.length : Int) := by omega
            have hq0 := hq
            clear hq
            have HE2 := Lib.hid (HR.out w1 (L.getD q 0) (by rw [HE.out]; unfold stepI; rw [hq0]; rw [Int.toNat_natCast]) B1)
            have cq := HC.out q hqL
            generalize L.getD q 0 = y at *
            clear HR HN1 HC HE v1 v2
            go_wp2_with ((refine (HMOD.out _ _).mono ?_); rintro e w2 ⟨rfl, rfl⟩)
            exact HE2.out
        · have HE := Lib.hid (HN1.out.trans ((if_neg (fun h => hi h.1)).trans (by rw [if_neg (fun h => hi h.1)])))
          obtain ⟨v1, v2⟩ := mod_range ((i) + by') hkp
          obtain ⟨a1, a2⟩ := mod_range (i) hkp
          obtain ⟨b1, b2⟩ := mod_range by' hkp
          obtain ⟨q, hq⟩ : ∃ q : Nat, ((i) + by') % (L.length : Int) = (q : Int) := ⟨(((i) + by') % (L.length : Int)).toNat, by omega⟩
          have hqL : q < L.length := by omega
          have hqi : (q : Int) < (L.length : Int) := by omega
          have hq0 := hq
          clear hq
          have HE2 := Lib.hid (HR.out w1 (L.getD q 0) (by rw [HE.out]; unfold stepI; rw [hq0]; rw [Int.toNat_natCast]) B1)
          have cq := HC.out q hqL
          generalize L.getD q 0 = y at *
          clear HR HN1 HC HE v1 v2
          go_wp2_with ((refine (HMOD.out _ _).mono ?_); rintro e w2 ⟨rfl, rfl⟩)
          exact HE2.out
end Go.Proofs.Ytihjefncjkdnpaa
