/- The walk of FocusRound. -/
import Derived.Test.YtihjefncjkdnpaaRoZ
namespace Go.Proofs.Ytihjefncjkdnpaa
open Go.RowKit Go.Deep
set_option linter.unusedVariables false
set_option linter.unusedSimpArgs false

set_option maxRecDepth 100000 in
set_option maxHeartbeats 4000000 in
theorem place_any (v : Value) (L : List Int) (x : Int) (w : World) (hv : IntsAt w v L) : Calls Try.prog 25 #[v, .int .i64 x] w fun e w' => e = .returned (.int .i64 (atI L x)) ∧ w = w' := by
  obtain ⟨p, c, rfl, hl1, hl2, _, hc⟩ := hv
  have HC := Lib.hid hc
  have HRX := Lib.hid (fun (y : Int) (hy : atI L x = y) => show Ending.returned (.int .i64 y) = .returned (.int .i64 (atI L x)) by rw [hy])
  have HAT := Lib.hid (show atI L x = ixF (fun y => decide (y = x)) L from rfl)
  have hlen : L.length ≤ 9223372036854775807 := by omega
  generalize atI L x = R at *
  clear hc
  go_enter Try.func25, Try.ntmps25
  go_wp2
  go_loop [8] (fun i => ∃ k : Nat, k ≤ L.length ∧ i = .int .i64 k ∧ RowKit.Hid (∀ j, j < k → decide (L.getD j 0 = x) = false)) (fun i => L.length - (intOf i).toNat)
  case atStart => exact ⟨0, Nat.zero_le _, rfl, Lib.hid (fun j hj => absurd hj (Nat.not_lt_zero _))⟩
  case round =>
    obtain ⟨k, hk, rfl, HP⟩ := hrel
    by_cases hlt : k < L.length
    · have hki : (k : Int) < (L.length : Int) := by omega
      obtain ⟨b, off, rfl, hb, hcell⟩ := HC.out (by omega)
      have ck := hcell k hlt
      obtain ⟨y, hy⟩ : ∃ y, y = L.getD k 0 := ⟨_, rfl⟩
      have HY := Lib.hid hy
      rw [← hy] at ck
      clear hcell hy
      by_cases hp : y = x
      · have HE := Lib.hid (HRX.out _ (HAT.out.trans (ixF_hit (P := fun y => decide (y = x)) hlt (by rw [← HY.out]; simpa using hp) HP.out)))
        have hyx : (y == x) = true := by simpa using hp
        clear hp HAT HRX HY
        go_wp2
        go_ret
        exact ⟨HE.out, rfl⟩
      · have hyx : (y == x) = false := by simpa using hp
        have HP' := Lib.hid (show ∀ j, j < k + 1 → decide (L.getD j 0 = x) = false from fun j hj => by
          by_cases e : j = k
          · rw [e, ← HY.out]; simpa using hp
          · exact HP.out j (by omega))
        clear hp HY HP
        go_wp2
        go_round
        case rel => exact ⟨k + 1, by omega, by go_num, HP'⟩
        case measure => simp [intOf]; omega
    · obtain rfl : k = L.length := by omega
      have HE := Lib.hid (HRX.out _ (HAT.out.trans (ixF_miss (P := fun y => decide (y = x)) HP.out)))
      clear hlt hk HP HAT HRX
      go_wp2
      go_ret
      exact ⟨HE.out, rfl⟩
set_option maxRecDepth 100000 in
set_option maxHeartbeats 4000000 in
theorem law_right_any (p : Option Addr) (c : Nat) (T : List Nd) (w : World) (hT : TreeAt w (.slice p T.length c) T) : Calls Try.prog 24 #[.agg #[.slice p T.length c]] w fun e w' => e = .returned (.bool (rightB T)) ∧ Below w.heap.size w w' := by
  have HT := Lib.hid hT
  clear hT
  go_enter Try.func24, Try.ntmps24
  go_wp2_with fail
  refine (tree_Check_any p c T _ (HT.out.later (by go_grown))).mono ?_
  have HE := Lib.hid (show ((checkT T).1 == 0) = rightB T by unfold rightB; rfl)
  generalize (checkT T).1 = c1 at *
  generalize (checkT T).2 = c2 at *
  rintro e w1 ⟨rfl, hb1⟩
  have B1 : Below w.heap.size w w1 := below_via hb1 (by go_grown)
  clear hb1
  go_wp2
  go_ret
  exact ⟨by rw [← HE.out]; rfl, B1⟩

/-! What Next does in a list without repetitions. -/
theorem atI_get {L : List Int} (hd : L.Nodup) {j : Nat} (hj : j < L.length) : atI L (L.getD j 0) = j := by
  refine ixF_hit (P := fun y => decide (y = L.getD j 0)) hj (by simp) (fun i hi => ?_)
  rw [decide_eq_false_iff_not]
  intro e
  rw [List.getD_eq_getElem?_getD, List.getElem?_eq_getElem (by omega), List.getD_eq_getElem?_getD, List.getElem?_eq_getElem hj] at e
  exact List.pairwise_iff_getElem.1 hd i j (by omega) hj hi e
theorem stepI_at {L : List Int} (hd : L.Nodup) (h0 : 0 < L.length) (i by' : Int) : atI L (stepI L i by') = (i + by') % (L.length : Int) ∧ 0 ≤ (i + by') % (L.length : Int) ∧ (i + by') % (L.length : Int) < (L.length : Int) := by
  have hr := mod_range (i + by') (show (0 : Int) < (L.length : Int) by omega)
  refine ⟨?_, hr⟩
  unfold stepI
  rw [atI_get hd (by omega)]
  omega
theorem next_back {L : List Int} (hd : L.Nodup) (h0 : 0 < L.length) {at' by' : Int} (h : 0 ≤ atI L at') : nextR L (nextR L at' by') (-by') = at' := by
  have hk : (0 : Int) < (L.length : Int) := by omega
  have hat := atI_range L at'
  have e1 : nextR L at' by' = stepI L (atI L at') by' := by
    unfold nextR
    rw [if_neg (by omega), if_neg (by omega), if_neg (by omega)]
  obtain ⟨s1, s2, s3⟩ := stepI_at hd h0 (atI L at') by'
  have e2 : nextR L (stepI L (atI L at') by') (-by') = stepI L (atI L (stepI L (atI L at') by')) (-by') := by
    unfold nextR
    rw [if_neg (by omega), if_neg (by omega), if_neg (by omega)]
  rw [e1, e2, s1]
  unfold stepI
  rw [show ((atI L at' + by') % (L.length : Int) + -by') % (L.length : Int) = atI L at' by
    rw [Int.emod_add_emod, show atI L at' + by' + -by' = atI L at' by omega]
    exact Int.emod_eq_of_lt h hat.2.1]
  exact hat.2.2.1 h
theorem next_none {L : List Int} {at' by' : Int} (h0 : 0 < L.length) (h : atI L at' < 0) (hb : by' = 0) : nextR L at' by' = -1 := by
  unfold nextR
  rw [if_neg (by omega), if_pos ⟨h, hb⟩]
theorem next_in {L : List Int} (hd : L.Nodup) (h0 : 0 < L.length) {at' by' : Int} (h : ¬ (atI L at' < 0 ∧ by' = 0)) : 0 ≤ atI L (nextR L at' by') := by
  unfold nextR
  rw [if_neg (by omega), if_neg h]
  obtain ⟨s1, s2, s3⟩ := stepI_at hd h0 (if atI L at' < 0 ∧ by' < 0 then 0 else atI L at') by'
  omega
theorem next_one {L : List Int} (hd : L.Nodup) (h0 : 0 < L.length) {n : Int} (h : 0 ≤ atI L n) : atI L (nextR L n 1) = (atI L n + 1) % (L.length : Int) := by
  unfold nextR
  rw [if_neg (by omega), if_neg (by omega), if_neg (by omega)]
  exact (stepI_at hd h0 _ _).1
/-- who has been met in j steps from place i on -/
def metF (k : Nat) (i : Int) (j : Nat) (x : Nat) : Bool := (List.range j).any fun m => decide ((i + ((m + 1 : Nat) : Int)) % (k : Int) = (x : Int))
theorem metF_no {k j : Nat} {i : Int} {x : Nat} (hj : j < k) (hx : (i + ((j + 1 : Nat) : Int)) % (k : Int) = (x : Int)) : metF k i j x = false := by
  unfold metF
  rw [List.any_eq_false]
  intro m hm
  rw [List.mem_range] at hm
  rw [decide_eq_true_eq, ← hx]
  intro e
  have h1 : (i + ((j + 1 : Nat) : Int) - (i + ((m + 1 : Nat) : Int))) % (k : Int) = 0 := by rw [Int.sub_emod, e]; simp
  rw [show i + ((j + 1 : Nat) : Int) - (i + ((m + 1 : Nat) : Int)) = ((j - m : Nat) : Int) by omega] at h1
  rw [Int.emod_eq_of_lt (by omega) (by omega)] at h1
  omega
theorem metF_succ {k j : Nat} {i : Int} {x : Nat} (hx : (i + ((j + 1 : Nat) : Int)) % (k : Int) = (x : Int)) (y : Nat) : metF k i (j + 1) y = if y = x then true else metF k i j y := by
  unfold metF
  rw [List.range_succ, List.any_append]
  by_cases e : y = x
  · rw [if_pos e, e]
    have : decide ((i + ((j + 1 : Nat) : Int)) % (k : Int) = (x : Int)) = true := by rw [decide_eq_true_eq]; exact hx
    simp only [List.any_cons, this, Bool.true_or, Bool.or_true]
  · rw [if_neg e]
    have : decide ((i + ((j + 1 : Nat) : Int)) % (k : Int) = (y : Int)) = false := by
      rw [decide_eq_false_iff_not, hx]
      omega
    simp only [List.any_cons, this, List.any_nil, Bool.or_false]
theorem wf64_ {n : Int} (h : (Lit.int .i64 n).wf = true) : -9223372036854775808 ≤ n ∧ n ≤ 9223372036854775807 := by
  simp [Lit.wf, IntKind.min, IntKind.max, IntKind.signed, IntKind.bits] at h; omega
theorem infoBool_ : (Try.prog.info? 4).map (fun i => (i.zero, i.size, i.bytes)) = some (some (.bool false), 1, 1) := by kernel_rfl
set_option maxRecDepth 100000 in
set_option maxHeartbeats 32000000 in
theorem FocusRound_walk (p : Option Addr) (c : Nat) (T : List Nd) (na nb : Int) (w : World) (ht : TreeAt w (.slice p T.length c) T) (hb1 : -9223372036854775808 ≤ nb) (hb2 : nb ≤ 9223372036854775807) : Calls Try.prog 6 #[.agg #[.slice p T.length c], .int .i64 na, .int .i64 nb] w fun e w' => e = .returned (.bool true) ∧ Below w.heap.size w w' := by
  have HT := Lib.hid ht
  have HND := Lib.hid (fosL_nodup T)
  have hl : (fosL T).length ≤ 4096 := by
    have := List.length_filter_le (fun n => canT T n) (ordL T)
    have := stepO_len T
    unfold fosL
    omega
  clear ht
  go_enter Try.func6, Try.ntmps6
  go_wp2_with fail
  obtain ⟨W1, hW1⟩ : ∃ W1, W1 = w.alloc (.cells #[.slice p T.length c] 24) := ⟨_, rfl⟩
  have C1 := Lib.hid (show Below w.heap.size w W1 by rw [hW1]; exact below_al (Below.refl _ _) _)
  have a1 := Lib.hid (show W1.heap[w.heap.size]? = some (.cells #[.slice p T.length c] 24 (0, 0)) by rw [hW1]; exact heap_alloc_new _ _)
  rw [← hW1]
  clear hW1
  have HF := Lib.hid (fun w' (h : Below W1.heap.size W1 w') => show w'.cell? ⟨w.heap.size, 0, none⟩ = some (.slice p T.length c) ∧ w.heap.size < w'.heap.size from by
    have := lt_of_block a1.out
    have := h.size
    exact ⟨cell_of_one ((h.block _ (lt_of_block a1.out)).trans a1.out), by omega⟩)
  have HT1 := Lib.hid (HT.out.later C1.out)
  refine (works_any W1).mono ?_
  rintro e w2 ⟨rfl, hb⟩
  have D2 := Lib.hid hb
  obtain ⟨x0, s0⟩ := HF.out w2 hb
  clear hb
  go_wp2_with fail
  refine (focus_Order_any p c T w2 (HT1.out.later D2.out)).mono ?_
  obtain ⟨L, hL⟩ : ∃ L, L = fosL T := ⟨_, rfl⟩
  have HL := Lib.hid hL
  rw [← hL] at hl HND ⊢
  rintro e w3 ⟨v, rfl, own, hb⟩
  have D3 := Lib.hid (below_via hb D2.out)
  have HV3 := Lib.hid (row_ints own)
  obtain ⟨pv, cv, rfl, _⟩ := HV3.out
  clear hb own x0 s0 hL D2
  obtain ⟨x0, s0⟩ := HF.out w3 D3.out
  go_wp2_with fail
  refine (law_right_any p c T w3 (HT1.out.later D3.out)).mono ?_
  rintro e w4 ⟨rfl, hb⟩
  have D4 := Lib.hid (below_via hb D3.out)
  have HV4 := Lib.hid (HV3.out.later hb (Nat.le_refl _))
  clear hb x0 s0
  obtain ⟨x0, s0⟩ := HF.out w4 D4.out
  -- Next, whatever it is asked
  have HNX := Lib.hid (fun w' (h : Below W1.heap.size W1 w') (i j : Int) => show Calls Try.prog 14 #[.agg #[.slice p T.length c], .int .i64 i, .int .i64 j] w' (fun e w'' => e = .returned (.int .i64 (nextR L i j)) ∧ Below w'.heap.size w' w'') from by
    have := focus_Next_any p c T i j w' (HT1.out.later h)
    unfold RetN at this
    rwa [← HL.out] at this)
  by_cases hz : L.length = 0
  · have hN : nextR L na nb = -1 := by unfold nextR; rw [if_pos hz]
    have HN := Lib.hid hN
    have hzi : ((L.length : Int) == 0) = true := by simp [hz]
    clear hN
    generalize rightB T = rb at *
    cases rb
    all_goals
      go_wp2_with fail
      refine (HNX.out w4 D4.out na nb).mono ?_
      rw [HN.out]
      rintro e w5 ⟨rfl, hb⟩
      have HE := Lib.hid (below_via (below_via hb D4.out) C1.out)
      clear hb x0 s0
      go_wp2
      go_ret
      exact ⟨rfl, HE.out⟩
  · have hpos : 0 < L.length := by omega
    have hri : rightB T = true := by
      unfold rightB
      rw [decide_eq_true_eq]
      by_cases h : (checkT T).1 = 0
      · exact h
      · exfalso
        have := HL.out
        unfold fosL at this
        rw [ordL_wrong h] at this
        rw [this] at hpos
        simp at hpos
    rw [hri]
    have hzi : ((L.length : Int) == 0) = false := beq_eq_false_iff_ne.2 (by omega)
    clear hri hz
    go_wp2_with fail
    refine (HNX.out w4 D4.out na nb).mono ?_
    obtain ⟨n1, hn1⟩ : ∃ n1, n1 = nextR L na nb := ⟨_, rfl⟩
    have HN1 := Lib.hid hn1
    rw [← hn1]
    rintro e w5 ⟨rfl, hb⟩
    have D5 := Lib.hid (below_via hb D4.out)
    have HV5 := Lib.hid (HV4.out.later hb (Nat.le_refl _))
    clear hb x0 s0 hn1
    obtain ⟨x0, s0⟩ := HF.out w5 D5.out
    go_wp2_with fail
    refine (place_any _ L na w5 HV5.out).mono ?_
    rintro e w5' ⟨rfl, rfl⟩
    obtain ⟨ia, hia⟩ : ∃ ia, ia = atI L na := ⟨_, rfl⟩
    have HIA := Lib.hid hia
    rw [← hia]
    have PL := Lib.hid (fun w' (h : Below w5.heap.size w5 w') (x : Int) => place_any _ L x w' (HV5.out.later h (Nat.le_refl _)))
    clear hia
    rcases (show (ia < 0 ∧ nb = 0) ∨ (ia < 0 ∧ nb ≠ 0) ∨ (0 ≤ ia ∧ nb = -9223372036854775808) ∨ (0 ≤ ia ∧ nb = 0) ∨ (0 ≤ ia ∧ nb ≠ 0 ∧ -9223372036854775807 ≤ nb) by omega) with ⟨h1, h2⟩ | ⟨h1, h2⟩ | ⟨h1, h2⟩ | ⟨h1, h2⟩ | ⟨h1, h2, h3⟩
    · have HE1 := Lib.hid (show n1 = -1 by rw [HN1.out]; exact next_none hpos (by rw [← HIA.out]; exact h1) h2)
      have k1 : (nb == 0) = true := by rw [h2]; rfl
      clear h2
      go_wp2_with fail
      refine (PL.out w5 (Below.refl _ _) na).mono ?_
      rw [← HIA.out]
      rintro e w6 ⟨rfl, rfl⟩
      have HE := Lib.hid (below_via D5.out C1.out)
      have k2 : (n1 == -1) = true := by rw [HE1.out]; rfl
      clear x0 s0
      go_wp2
      go_ret
      exact ⟨rfl, HE.out⟩
    · have HIN := Lib.hid (show 0 ≤ atI L n1 by rw [HN1.out]; exact next_in HND.out hpos (fun h => h2 h.2))
      have k1 : (nb == 0) = false := beq_eq_false_iff_ne.2 h2
      clear h2
      go_wp2_with fail
      refine (PL.out w5 (Below.refl _ _) na).mono ?_
      rw [← HIA.out]
      rintro e w6 ⟨rfl, rfl⟩
      have D6 := D5
      have R6 := Lib.hid (Below.refl w5.heap.size w5)
      obtain ⟨w6, rfl⟩ : ∃ x : World, x = w5 := ⟨_, rfl⟩
      have HMK := Lib.hid (run_make_row' (P := Try.prog) 68 4 (.bool false) 1 Try.underlying68 infoBool_ rfl .i64 .i64 L.length (by omega) (by omega))
      have hin := HIN.out
      go_wp2_with fail
      refine (PL.out w6 R6.out n1).mono ?_
      obtain ⟨i0, hi0⟩ : ∃ i0, i0 = atI L n1 := ⟨_, rfl⟩
      have hi0l : i0 < (L.length : Int) := by rw [hi0]; exact (atI_range L n1).2.1
      have HI0 := Lib.hid hi0
      rw [← hi0] at hin ⊢
      rintro e w7 ⟨rfl, rfl⟩
      have hmk := HMK.out
      clear hi0 HMK
      go_wp2
      clear hmk
      obtain ⟨W8, hW8⟩ : ∃ W8, W8 = w6.alloc (.cells (madeCells #[.bool false] L.length) 4) := ⟨_, rfl⟩
      have C8 := Lib.hid (show Below w6.heap.size w6 W8 by rw [hW8]; exact below_al (Below.refl _ _) _)
      have HR8 := Lib.hid (show W8.rowIs w6.heap.size 4 L.length (fun x => .bool (metF L.length i0 0 x)) by rw [hW8]; exact World.rowIs_made w6 (.bool false) L.length 4)
      rw [← hW8]
      clear hW8 x0 s0
      obtain ⟨gm, hgm⟩ : ∃ gm, gm = w6.heap.size := ⟨_, rfl⟩
      rw [← hgm] at HR8 ⊢
      have HGM := Lib.hid hgm
      clear hgm
      go_loopw [79, 8] (fun iv nv wr => ∃ (j : Nat) (n : Int), iv = .int .i64 j ∧ nv = .int .i64 n ∧ j ≤ L.length ∧ RowKit.Hid (0 ≤ atI L n ∧ atI L n = (i0 + (j : Int)) % (L.length : Int)) ∧ RowKit.Hid (wr.rowIs gm 4 L.length (fun x => .bool (metF L.length i0 j x))) ∧ RowKit.Hid (Below w6.heap.size w6 wr)) (fun iv _ _ => L.length - (intOf iv).toNat)
      case atStart => exact ⟨0, n1, rfl, rfl, by omega, Lib.hid ⟨by rw [← HI0.out]; exact hin, by rw [← HI0.out, Int.natCast_zero, Int.add_zero, Int.emod_eq_of_lt hin hi0l]⟩, HR8, C8⟩
      case round =>
        obtain ⟨j, n, rfl, rfl, hj, HAT, HRW, HBR⟩ := hrel
        by_cases hlt : j < L.length
        · have hji : (j : Int) < (L.length : Int) := by omega
          have DR := Lib.hid (below_via HBR.out D6.out)
          have RR := Lib.hid (below_via HBR.out R6.out)
          obtain ⟨x0, s0⟩ := HF.out wr DR.out
          have hx := mod_range (i0 + ((j + 1 : Nat) : Int)) (show (0 : Int) < (L.length : Int) by omega)
          obtain ⟨xn, hxn⟩ := Int.eq_ofNat_of_zero_le hx.1
          have hxl : xn < L.length := by omega
          have HXN := Lib.hid hxn
          have HNO := Lib.hid (metF_no hlt hxn)
          obtain ⟨n2, hn2⟩ : ∃ n2, n2 = nextR L n 1 := ⟨_, rfl⟩
          have HA2 := Lib.hid (show atI L n2 = (xn : Int) by
            rw [hn2, next_one HND.out hpos HAT.out.1, HAT.out.2, Int.emod_add_emod, ← hxn]
            congr 1
            omega)
          have HN2 := Lib.hid hn2
          clear hx hxn hn2
          go_wp2_with fail
          refine (HNX.out wr DR.out n 1).mono ?_
          rw [← HN2.out]
          rintro e w8 ⟨rfl, hb⟩
          have RR8 := Lib.hid (below_via hb RR.out)
          have BR8 := Lib.hid (below_via hb HBR.out)
          have HRW8 := Lib.hid (HRW.out.of_block (hb.block _ HRW.out.lt))
          clear hb x0 s0
          go_wp2_with fail
          refine (PL.out w8 RR8.out n2).mono ?_
          rw [HA2.out]
          rintro e w9 ⟨rfl, rfl⟩
          have ck := HRW8.out.cell hxl
          rw [HNO.out] at ck
          have fk := HRW8.out.frozen xn
          have zk := HRW8.out.lt
          have hxi : (xn : Int) < (L.length : Int) := by omega
          have HROW := Lib.hid (show (w8.setCell ⟨gm, xn, none⟩ (.bool true)).rowIs gm 4 L.length (fun x => .bool (metF L.length i0 (j + 1) x)) from (HRW8.out.set xn (.bool true)).congr fun y _ => by
            rw [metF_succ HXN.out y]
            split <;> rfl)
          have HB9 := Lib.hid (BR8.out.setCell (p := ⟨gm, xn, none⟩) (by rw [HGM.out]; exact Nat.le_refl _) (.bool true))
          have HAT2 := Lib.hid (show 0 ≤ atI L n2 ∧ atI L n2 = (i0 + ((j + 1 : Nat) : Int)) % (L.length : Int) from ⟨by rw [HA2.out]; omega, by rw [HA2.out, HXN.out]⟩)
          clear HRW HRW8 HA2 HN2 HNO HXN
          go_wp2
          go_roundw
          case rel => exact ⟨j + 1, n2, by go_num, rfl, by omega, HAT2, HROW, HB9⟩
          case measure => simp [intOf]; omega
        · obtain rfl : j = L.length := by omega
          have HE := Lib.hid (below_via (below_via HBR.out D6.out) C1.out)
          clear HAT HRW HBR
          go_wp2
          go_ret
          exact ⟨rfl, HE.out⟩
    · have HIN := Lib.hid (show 0 ≤ atI L n1 by rw [HN1.out]; exact next_in HND.out hpos (fun h => by rw [← HIA.out] at h; omega))
      have k1 : (nb == 0) = false := beq_eq_false_iff_ne.2 (by omega)
      have k2 : wrap64 (-nb) = nb := by rw [h2]; decide +kernel
      clear h2
      go_wp2_with fail
      refine (PL.out w5 (Below.refl _ _) na).mono ?_
      rw [← HIA.out]
      rintro e w6 ⟨rfl, rfl⟩
      have D6 := D5
      have R6 := Lib.hid (Below.refl w5.heap.size w5)
      obtain ⟨w6, rfl⟩ : ∃ x : World, x = w5 := ⟨_, rfl⟩
      have HMK := Lib.hid (run_make_row' (P := Try.prog) 68 4 (.bool false) 1 Try.underlying68 infoBool_ rfl .i64 .i64 L.length (by omega) (by omega))
      have hin := HIN.out
      go_wp2_with fail
      refine (PL.out w6 R6.out n1).mono ?_
      obtain ⟨i0, hi0⟩ : ∃ i0, i0 = atI L n1 := ⟨_, rfl⟩
      have hi0l : i0 < (L.length : Int) := by rw [hi0]; exact (atI_range L n1).2.1
      have HI0 := Lib.hid hi0
      rw [← hi0] at hin ⊢
      rintro e w7 ⟨rfl, rfl⟩
      have hmk := HMK.out
      clear hi0 HMK
      go_wp2
      clear hmk
      obtain ⟨W8, hW8⟩ : ∃ W8, W8 = w6.alloc (.cells (madeCells #[.bool false] L.length) 4) := ⟨_, rfl⟩
      have C8 := Lib.hid (show Below w6.heap.size w6 W8 by rw [hW8]; exact below_al (Below.refl _ _) _)
      have HR8 := Lib.hid (show W8.rowIs w6.heap.size 4 L.length (fun x => .bool (metF L.length i0 0 x)) by rw [hW8]; exact World.rowIs_made w6 (.bool false) L.length 4)
      rw [← hW8]
      clear hW8 x0 s0
      obtain ⟨gm, hgm⟩ : ∃ gm, gm = w6.heap.size := ⟨_, rfl⟩
      rw [← hgm] at HR8 ⊢
      have HGM := Lib.hid hgm
      clear hgm
      go_loopw [79, 8] (fun iv nv wr => ∃ (j : Nat) (n : Int), iv = .int .i64 j ∧ nv = .int .i64 n ∧ j ≤ L.length ∧ RowKit.Hid (0 ≤ atI L n ∧ atI L n = (i0 + (j : Int)) % (L.length : Int)) ∧ RowKit.Hid (wr.rowIs gm 4 L.length (fun x => .bool (metF L.length i0 j x))) ∧ RowKit.Hid (Below w6.heap.size w6 wr)) (fun iv _ _ => L.length - (intOf iv).toNat)
      case atStart => exact ⟨0, n1, rfl, rfl, by omega, Lib.hid ⟨by rw [← HI0.out]; exact hin, by rw [← HI0.out, Int.natCast_zero, Int.add_zero, Int.emod_eq_of_lt hin hi0l]⟩, HR8, C8⟩
      case round =>
        obtain ⟨j, n, rfl, rfl, hj, HAT, HRW, HBR⟩ := hrel
        by_cases hlt : j < L.length
        · have hji : (j : Int) < (L.length : Int) := by omega
          have DR := Lib.hid (below_via HBR.out D6.out)
          have RR := Lib.hid (below_via HBR.out R6.out)
          obtain ⟨x0, s0⟩ := HF.out wr DR.out
          have hx := mod_range (i0 + ((j + 1 : Nat) : Int)) (show (0 : Int) < (L.length : Int) by omega)
          obtain ⟨xn, hxn⟩ := Int.eq_ofNat_of_zero_le hx.1
          have hxl : xn < L.length := by omega
          have HXN := Lib.hid hxn
          have HNO := Lib.hid (metF_no hlt hxn)
          obtain ⟨n2, hn2⟩ : ∃ n2, n2 = nextR L n 1 := ⟨_, rfl⟩
          have HA2 := Lib.hid (show atI L n2 = (xn : Int) by
            rw [hn2, next_one HND.out hpos HAT.out.1, HAT.out.2, Int.emod_add_emod, ← hxn]
            congr 1
            omega)
          have HN2 := Lib.hid hn2
          clear hx hxn hn2
          go_wp2_with fail
          refine (HNX.out wr DR.out n 1).mono ?_
          rw [← HN2.out]
          rintro e w8 ⟨rfl, hb⟩
          have RR8 := Lib.hid (below_via hb RR.out)
          have BR8 := Lib.hid (below_via hb HBR.out)
          have HRW8 := Lib.hid (HRW.out.of_block (hb.block _ HRW.out.lt))
          clear hb x0 s0
          go_wp2_with fail
          refine (PL.out w8 RR8.out n2).mono ?_
          rw [HA2.out]
          rintro e w9 ⟨rfl, rfl⟩
          have ck := HRW8.out.cell hxl
          rw [HNO.out] at ck
          have fk := HRW8.out.frozen xn
          have zk := HRW8.out.lt
          have hxi : (xn : Int) < (L.length : Int) := by omega
          have HROW := Lib.hid (show (w8.setCell ⟨gm, xn, none⟩ (.bool true)).rowIs gm 4 L.length (fun x => .bool (metF L.length i0 (j + 1) x)) from (HRW8.out.set xn (.bool true)).congr fun y _ => by
            rw [metF_succ HXN.out y]
            split <;> rfl)
          have HB9 := Lib.hid (BR8.out.setCell (p := ⟨gm, xn, none⟩) (by rw [HGM.out]; exact Nat.le_refl _) (.bool true))
          have HAT2 := Lib.hid (show 0 ≤ atI L n2 ∧ atI L n2 = (i0 + ((j + 1 : Nat) : Int)) % (L.length : Int) from ⟨by rw [HA2.out]; omega, by rw [HA2.out, HXN.out]⟩)
          clear HRW HRW8 HA2 HN2 HNO HXN
          go_wp2
          go_roundw
          case rel => exact ⟨j + 1, n2, by go_num, rfl, by omega, HAT2, HROW, HB9⟩
          case measure => simp [intOf]; omega
        · obtain rfl : j = L.length := by omega
          have HE := Lib.hid (below_via (below_via HBR.out D6.out) C1.out)
          clear HAT HRW HBR
          go_wp2
          go_ret
          exact ⟨rfl, HE.out⟩
    · have HIN := Lib.hid (show 0 ≤ atI L n1 by rw [HN1.out]; exact next_in HND.out hpos (fun h => by rw [← HIA.out] at h; omega))
      have HBK := Lib.hid (show nextR L n1 (-nb) = na by rw [HN1.out]; exact next_back HND.out hpos (by rw [← HIA.out]; exact h1))
      subst h2
      go_wp2_with fail
      refine (HNX.out w5 D5.out n1 0).mono ?_
      rw [show (0 : Int) = -0 from rfl, HBK.out]
      rintro e w6 ⟨rfl, hb⟩
      have D6 := Lib.hid (below_via hb D5.out)
      have R6 := Lib.hid hb
      clear hb x0 s0
      obtain ⟨x0, s0⟩ := HF.out w6 D6.out
      go_wp2_with fail
      refine (PL.out w6 R6.out na).mono ?_
      rw [← HIA.out]
      rintro e w6' ⟨rfl, rfl⟩
      have HMK := Lib.hid (run_make_row' (P := Try.prog) 68 4 (.bool false) 1 Try.underlying68 infoBool_ rfl .i64 .i64 L.length (by omega) (by omega))
      have hin := HIN.out
      go_wp2_with fail
      refine (PL.out w6 R6.out n1).mono ?_
      obtain ⟨i0, hi0⟩ : ∃ i0, i0 = atI L n1 := ⟨_, rfl⟩
      have hi0l : i0 < (L.length : Int) := by rw [hi0]; exact (atI_range L n1).2.1
      have HI0 := Lib.hid hi0
      rw [← hi0] at hin ⊢
      rintro e w7 ⟨rfl, rfl⟩
      have hmk := HMK.out
      clear hi0 HMK
      go_wp2
      clear hmk
      obtain ⟨W8, hW8⟩ : ∃ W8, W8 = w6.alloc (.cells (madeCells #[.bool false] L.length) 4) := ⟨_, rfl⟩
      have C8 := Lib.hid (show Below w6.heap.size w6 W8 by rw [hW8]; exact below_al (Below.refl _ _) _)
      have HR8 := Lib.hid (show W8.rowIs w6.heap.size 4 L.length (fun x => .bool (metF L.length i0 0 x)) by rw [hW8]; exact World.rowIs_made w6 (.bool false) L.length 4)
      rw [← hW8]
      clear hW8 x0 s0
      obtain ⟨gm, hgm⟩ : ∃ gm, gm = w6.heap.size := ⟨_, rfl⟩
      rw [← hgm] at HR8 ⊢
      have HGM := Lib.hid hgm
      clear hgm
      go_loopw [79, 8] (fun iv nv wr => ∃ (j : Nat) (n : Int), iv = .int .i64 j ∧ nv = .int .i64 n ∧ j ≤ L.length ∧ RowKit.Hid (0 ≤ atI L n ∧ atI L n = (i0 + (j : Int)) % (L.length : Int)) ∧ RowKit.Hid (wr.rowIs gm 4 L.length (fun x => .bool (metF L.length i0 j x))) ∧ RowKit.Hid (Below w6.heap.size w6 wr)) (fun iv _ _ => L.length - (intOf iv).toNat)
      case atStart => exact ⟨0, n1, rfl, rfl, by omega, Lib.hid ⟨by rw [← HI0.out]; exact hin, by rw [← HI0.out, Int.natCast_zero, Int.add_zero, Int.emod_eq_of_lt hin hi0l]⟩, HR8, C8⟩
      case round =>
        obtain ⟨j, n, rfl, rfl, hj, HAT, HRW, HBR⟩ := hrel
        by_cases hlt : j < L.length
        · have hji : (j : Int) < (L.length : Int) := by omega
          have DR := Lib.hid (below_via HBR.out D6.out)
          have RR := Lib.hid (below_via HBR.out R6.out)
          obtain ⟨x0, s0⟩ := HF.out wr DR.out
          have hx := mod_range (i0 + ((j + 1 : Nat) : Int)) (show (0 : Int) < (L.length : Int) by omega)
          obtain ⟨xn, hxn⟩ := Int.eq_ofNat_of_zero_le hx.1
          have hxl : xn < L.length := by omega
          have HXN := Lib.hid hxn
          have HNO := Lib.hid (metF_no hlt hxn)
          obtain ⟨n2, hn2⟩ : ∃ n2, n2 = nextR L n 1 := ⟨_, rfl⟩
          have HA2 := Lib.hid (show atI L n2 = (xn : Int) by
            rw [hn2, next_one HND.out hpos HAT.out.1, HAT.out.2, Int.emod_add_emod, ← hxn]
            congr 1
            omega)
          have HN2 := Lib.hid hn2
          clear hx hxn hn2
          go_wp2_with fail
          refine (HNX.out wr DR.out n 1).mono ?_
          rw [← HN2.out]
          rintro e w8 ⟨rfl, hb⟩
          have RR8 := Lib.hid (below_via hb RR.out)
          have BR8 := Lib.hid (below_via hb HBR.out)
          have HRW8 := Lib.hid (HRW.out.of_block (hb.block _ HRW.out.lt))
          clear hb x0 s0
          go_wp2_with fail
          refine (PL.out w8 RR8.out n2).mono ?_
          rw [HA2.out]
          rintro e w9 ⟨rfl, rfl⟩
          have ck := HRW8.out.cell hxl
          rw [HNO.out] at ck
          have fk := HRW8.out.frozen xn
          have zk := HRW8.out.lt
          have hxi : (xn : Int) < (L.length : Int) := by omega
          have HROW := Lib.hid (show (w8.setCell ⟨gm, xn, none⟩ (.bool true)).rowIs gm 4 L.length (fun x => .bool (metF L.length i0 (j + 1) x)) from (HRW8.out.set xn (.bool true)).congr fun y _ => by
            rw [metF_succ HXN.out y]
            split <;> rfl)
          have HB9 := Lib.hid (BR8.out.setCell (p := ⟨gm, xn, none⟩) (by rw [HGM.out]; exact Nat.le_refl _) (.bool true))
          have HAT2 := Lib.hid (show 0 ≤ atI L n2 ∧ atI L n2 = (i0 + ((j + 1 : Nat) : Int)) % (L.length : Int) from ⟨by rw [HA2.out]; omega, by rw [HA2.out, HXN.out]⟩)
          clear HRW HRW8 HA2 HN2 HNO HXN
          go_wp2
          go_roundw
          case rel => exact ⟨j + 1, n2, by go_num, rfl, by omega, HAT2, HROW, HB9⟩
          case measure => simp [intOf]; omega
        · obtain rfl : j = L.length := by omega
          have HE := Lib.hid (below_via (below_via HBR.out D6.out) C1.out)
          clear HAT HRW HBR
          go_wp2
          go_ret
          exact ⟨rfl, HE.out⟩
    · have HIN := Lib.hid (show 0 ≤ atI L n1 by rw [HN1.out]; exact next_in HND.out hpos (fun h => by rw [← HIA.out] at h; omega))
      have HBK := Lib.hid (show nextR L n1 (-nb) = na by rw [HN1.out]; exact next_back HND.out hpos (by rw [← HIA.out]; exact h1))
      have k1 : (nb == 0) = false := beq_eq_false_iff_ne.2 h2
      have k2 : (nb != -nb) = true := by rw [bne_iff_ne]; omega
      clear h2
      go_wp2_with fail
      refine (HNX.out w5 D5.out n1 (-nb)).mono ?_
      rw [HBK.out]
      rintro e w6 ⟨rfl, hb⟩
      have D6 := Lib.hid (below_via hb D5.out)
      have R6 := Lib.hid hb
      clear hb x0 s0
      obtain ⟨x0, s0⟩ := HF.out w6 D6.out
      go_wp2_with fail
      refine (PL.out w6 R6.out na).mono ?_
      rw [← HIA.out]
      rintro e w6' ⟨rfl, rfl⟩
      have HMK := Lib.hid (run_make_row' (P := Try.prog) 68 4 (.bool false) 1 Try.underlying68 infoBool_ rfl .i64 .i64 L.length (by omega) (by omega))
      have hin := HIN.out
      go_wp2_with fail
      refine (PL.out w6 R6.out n1).mono ?_
      obtain ⟨i0, hi0⟩ : ∃ i0, i0 = atI L n1 := ⟨_, rfl⟩
      have hi0l : i0 < (L.length : Int) := by rw [hi0]; exact (atI_range L n1).2.1
      have HI0 := Lib.hid hi0
      rw [← hi0] at hin ⊢
      rintro e w7 ⟨rfl, rfl⟩
      have hmk := HMK.out
      clear hi0 HMK
      go_wp2
      clear hmk
      obtain ⟨W8, hW8⟩ : ∃ W8, W8 = w6.alloc (.cells (madeCells #[.bool false] L.length) 4) := ⟨_, rfl⟩
      have C8 := Lib.hid (show Below w6.heap.size w6 W8 by rw [hW8]; exact below_al (Below.refl _ _) _)
      have HR8 := Lib.hid (show W8.rowIs w6.heap.size 4 L.length (fun x => .bool (metF L.length i0 0 x)) by rw [hW8]; exact World.rowIs_made w6 (.bool false) L.length 4)
      rw [← hW8]
      clear hW8 x0 s0
      obtain ⟨gm, hgm⟩ : ∃ gm, gm = w6.heap.size := ⟨_, rfl⟩
      rw [← hgm] at HR8 ⊢
      have HGM := Lib.hid hgm
      clear hgm
      go_loopw [79, 8] (fun iv nv wr => ∃ (j : Nat) (n : Int), iv = .int .i64 j ∧ nv = .int .i64 n ∧ j ≤ L.length ∧ RowKit.Hid (0 ≤ atI L n ∧ atI L n = (i0 + (j : Int)) % (L.length : Int)) ∧ RowKit.Hid (wr.rowIs gm 4 L.length (fun x => .bool (metF L.length i0 j x))) ∧ RowKit.Hid (Below w6.heap.size w6 wr)) (fun iv _ _ => L.length - (intOf iv).toNat)
      case atStart => exact ⟨0, n1, rfl, rfl, by omega, Lib.hid ⟨by rw [← HI0.out]; exact hin, by rw [← HI0.out, Int.natCast_zero, Int.add_zero, Int.emod_eq_of_lt hin hi0l]⟩, HR8, C8⟩
      case round =>
        obtain ⟨j, n, rfl, rfl, hj, HAT, HRW, HBR⟩ := hrel
        by_cases hlt : j < L.length
        · have hji : (j : Int) < (L.length : Int) := by omega
          have DR := Lib.hid (below_via HBR.out D6.out)
          have RR := Lib.hid (below_via HBR.out R6.out)
          obtain ⟨x0, s0⟩ := HF.out wr DR.out
          have hx := mod_range (i0 + ((j + 1 : Nat) : Int)) (show (0 : Int) < (L.length : Int) by omega)
          obtain ⟨xn, hxn⟩ := Int.eq_ofNat_of_zero_le hx.1
          have hxl : xn < L.length := by omega
          have HXN := Lib.hid hxn
          have HNO := Lib.hid (metF_no hlt hxn)
          obtain ⟨n2, hn2⟩ : ∃ n2, n2 = nextR L n 1 := ⟨_, rfl⟩
          have HA2 := Lib.hid (show atI L n2 = (xn : Int) by
            rw [hn2, next_one HND.out hpos HAT.out.1, HAT.out.2, Int.emod_add_emod, ← hxn]
            congr 1
            omega)
          have HN2 := Lib.hid hn2
          clear hx hxn hn2
          go_wp2_with fail
          refine (HNX.out wr DR.out n 1).mono ?_
          rw [← HN2.out]
          rintro e w8 ⟨rfl, hb⟩
          have RR8 := Lib.hid (below_via hb RR.out)
          have BR8 := Lib.hid (below_via hb HBR.out)
          have HRW8 := Lib.hid (HRW.out.of_block (hb.block _ HRW.out.lt))
          clear hb x0 s0
          go_wp2_with fail
          refine (PL.out w8 RR8.out n2).mono ?_
          rw [HA2.out]
          rintro e w9 ⟨rfl, rfl⟩
          have ck := HRW8.out.cell hxl
          rw [HNO.out] at ck
          have fk := HRW8.out.frozen xn
          have zk := HRW8.out.lt
          have hxi : (xn : Int) < (L.length : Int) := by omega
          have HROW := Lib.hid (show (w8.setCell ⟨gm, xn, none⟩ (.bool true)).rowIs gm 4 L.length (fun x => .bool (metF L.length i0 (j + 1) x)) from (HRW8.out.set xn (.bool true)).congr fun y _ => by
            rw [metF_succ HXN.out y]
            split <;> rfl)
          have HB9 := Lib.hid (BR8.out.setCell (p := ⟨gm, xn, none⟩) (by rw [HGM.out]; exact Nat.le_refl _) (.bool true))
          have HAT2 := Lib.hid (show 0 ≤ atI L n2 ∧ atI L n2 = (i0 + ((j + 1 : Nat) : Int)) % (L.length : Int) from ⟨by rw [HA2.out]; omega, by rw [HA2.out, HXN.out]⟩)
          clear HRW HRW8 HA2 HN2 HNO HXN
          go_wp2
          go_roundw
          case rel => exact ⟨j + 1, n2, by go_num, rfl, by omega, HAT2, HROW, HB9⟩
          case measure => simp [intOf]; omega
        · obtain rfl : j = L.length := by omega
          have HE := Lib.hid (below_via (below_via HBR.out D6.out) C1.out)
          clear HAT HRW HBR
          go_wp2
          go_ret
          exact ⟨rfl, HE.out⟩
end Go.Proofs.Ytihjefncjkdnpaa
