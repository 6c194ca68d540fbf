/- Layer 13: the walk of GlyphBoxes. -/
import Derived.Test.YtebalohoblaedaaGlyY0
import Derived.Deep.CutRange
namespace Go.Proofs.Ytebalohoblaedaa
open Go.RowKit
set_option linter.unusedVariables false
set_option linter.unusedSimpArgs false

theorem at_tuple (c : Bool) (r : Int) : (if c = true then Value.tuple #[.int .i32 0, .bool false] else Value.tuple #[.int .i32 r, .bool true]) = Value.tuple #[.int .i32 (if c = true then 0 else r), .bool (!c)] := by cases c <;> rfl

set_option maxRecDepth 100000 in
set_option maxHeartbeats 32000000 in
theorem GlyphBoxes_walk (a0 a1 s0 s1 k : Int) (w : World) (ha0 : -9223372036854775808 ≤ a0 ∧ a0 ≤ 9223372036854775807) (ha1 : -9223372036854775808 ≤ a1 ∧ a1 ≤ 9223372036854775807) (hs0 : -9223372036854775808 ≤ s0 ∧ s0 ≤ 9223372036854775807) (hs1 : -9223372036854775808 ≤ s1 ∧ s1 ≤ 9223372036854775807) (hk : -128 ≤ k ∧ k ≤ 127) :
    Calls Try.prog 10 #[.agg #[.int .i64 a0, .int .i64 a1], .agg #[.int .i64 s0, .int .i64 s1], .int .i8 k] w fun e w' => e = .returned (.bool true) ∧ Below w.heap.size w w' := by
  obtain ⟨X, hX⟩ : ∃ X, X = a0 % 20 := ⟨_, rfl⟩
  obtain ⟨Y, hY⟩ : ∃ X, X = a1 % 20 := ⟨_, rfl⟩
  obtain ⟨U, hU⟩ : ∃ X, X = s0 % 20 := ⟨_, rfl⟩
  obtain ⟨V, hV⟩ : ∃ X, X = s1 % 20 := ⟨_, rfl⟩
  obtain ⟨Z, hZ⟩ : ∃ X, X = k % 4 := ⟨_, rfl⟩
  have bX : 0 ≤ X ∧ X < 20 := by omega
  have bY : 0 ≤ Y ∧ Y < 20 := by omega
  have bU : 0 ≤ U ∧ U < 20 := by omega
  have bV : 0 ≤ V ∧ V < 20 := by omega
  have bZ : 0 ≤ Z ∧ Z < 4 := by omega
  have HX := Lib.hid hX; have HY := Lib.hid hY; have HU := Lib.hid hU; have HV := Lib.hid hV; have HZ := Lib.hid hZ
  clear hX hY hU hV hZ
  go_enter Try.func10, Try.ntmps10
  go_wp2
  go_quiet (first | (go_at_call 23; exact quiet_left (within_any _ _ (by omega) _)))
  rw [← HX.out, ← HY.out, ← HU.out, ← HV.out]
  generalize hq : World.drewN _ nq = w0
  have B0 : Below w.heap.size w w0 := by rw [← hq]; exact below_drewN (by go_grown) nq
  have S0 := B0.size
  clear hq HX HY HU HV
  obtain ⟨wv, hwv⟩ : ∃ q, q = 2 + U := ⟨_, rfl⟩
  obtain ⟨hv, hhv⟩ : ∃ q, q = 2 + V := ⟨_, rfl⟩
  rw [← hwv, ← hhv]
  have bw : 2 ≤ wv ∧ wv ≤ 21 := by omega
  have bh : 2 ≤ hv ∧ hv ≤ 21 := by omega
  clear hwv hhv bU bV ha0 ha1 hs0 hs1
  go_wp2_with fail
  refine (within_any _ _ (by omega) _).mono ?_
  rw [← HZ.out]
  rintro e w1 ⟨rfl, rfl⟩
  clear HZ
  go_wp2_with fail
  obtain ⟨K, hK⟩ : ∃ q, q = Z + 1 := ⟨_, rfl⟩
  rw [← hK]
  have bK : 1 ≤ K ∧ K ≤ 4 := by omega
  clear hK bZ
  refine (new_yes 44 44 (by omega) (by omega) (by omega) _).mono ?_
  rintro e w1 ⟨rfl, hb1, hp1⟩
  have B1 : Below w.heap.size w w1 := below_via hb1 B0
  have S1 := B1.size
  have c1 := hp1.cells.1
  have c2 := hp1.cells.2.1
  clear hb1
  obtain ⟨g, hg⟩ : ∃ g, g = w0.heap.size + 1 := ⟨_, rfl⟩
  obtain ⟨gc, hgc⟩ : ∃ g, g = w0.heap.size := ⟨_, rfl⟩
  rw [← hg, ← hgc] at hp1
  rw [← hg] at c1 ⊢
  rw [← hgc] at c2
  have bg : w.heap.size ≤ g ∧ w.heap.size ≤ gc := by omega
  clear hg hgc B0 S0
  go_wp2_with fail
  refine (box_ok _ _ 44 44 _ X Y wv hv _ (by omega) (by omega) (by omega) (by omega) (by omega) (by rw [okB_spec]; unfold rlo rhi endF; omega) _ hp1).mono ?_
  rw [show rlo X = X by unfold rlo; omega, show rlo Y = Y by unfold rlo; omega, show rhi X wv - 1 = X + wv - 1 by unfold rhi endF; omega, show rhi Y hv - 1 = Y + hv - 1 by unfold rhi endF; omega]
  rintro e w2 ⟨rfl, gr2, hp2⟩
  have B2 : Below w.heap.size w w2 := Below.grown B1 gr2 (by omega) (fun k hk => by cases hk; omega)
  have HP := Lib.hid hp2
  have cell := Lib.hid (fun i j : Nat => box_at 44 44 X Y (X + wv - 1) (Y + hv - 1) K (by omega) (by omega) (by omega) i j)
  clear gr2 hp1 hp2 c1 c2 B1 S1
  generalize boxS 44 44 X Y (X + wv - 1) (Y + hv - 1) K (List.replicate (44 * 44) zA) = L at *
  have S2 := B2.size
  go_wp2
  go_loopw [15] (fun j wr => ∃ b : Nat, b ≤ 44 ∧ j = .int .i64 b ∧ RowKit.Hid (PlanAt wr g gc 44 44 L) ∧ Below w.heap.size w wr) (fun j _ => 44 - (intOf j).toNat)
  case atStart => exact ⟨0, by omega, rfl, HP, B2⟩
  case round =>
    obtain ⟨wo, hwo⟩ : ∃ wo : World, wo = w2 := ⟨_, rfl⟩
    clear hwo
    obtain ⟨j, hj, rfl, HJ, BJ⟩ := hrel
    clear HP B2 S2
    by_cases hlt : j < 44
    · have hdj : decide ((j : Int) < 44) = true := by rw [decide_eq_true_eq]; omega
      go_wp2
      clear hdj
      go_loopw [16] (fun i wr => ∃ a : Nat, a ≤ 44 ∧ i = .int .i64 a ∧ RowKit.Hid (PlanAt wr g gc 44 44 L) ∧ Below w.heap.size w wr) (fun i _ => 44 - (intOf i).toNat)
      case atStart => exact ⟨0, by omega, rfl, HJ, BJ⟩
      case round =>
        clear HJ BJ
        obtain ⟨i, hi, rfl, HI, BI⟩ := hrel
        by_cases hlt2 : i < 44
        · have hc := cell.out i j (by omega) (by omega)
          obtain ⟨bi, hbi⟩ : ∃ b, b = decide (X ≤ (i : Int) ∧ (i : Int) < X + wv ∧ Y ≤ (j : Int) ∧ (j : Int) < Y + hv) := ⟨_, rfl⟩
          obtain ⟨bl, hbl⟩ : ∃ b, b = ((i : Int) == X) := ⟨_, rfl⟩
          obtain ⟨br, hbr⟩ : ∃ b, b = ((i : Int) == X + wv - 1) := ⟨_, rfl⟩
          obtain ⟨bu, hbu⟩ : ∃ b, b = ((j : Int) == Y) := ⟨_, rfl⟩
          obtain ⟨bd, hbd⟩ : ∃ b, b = ((j : Int) == Y + hv - 1) := ⟨_, rfl⟩
          rw [want_is X Y wv hv K i j bi bl br bu bd hbi hbl hbr hbu hbd] at hc
          have HC := Lib.hid hc
          clear hc
          go_wp2_with fail
          refine (at_in g gc 44 44 L i j (by omega) (by omega) _ HI.out).mono ?_
          rw [HC.out, at_tuple, no_oneK K (by omega)]
          clear HC
          rintro e w3 ⟨rfl, hb3⟩
          have B3 : Below w.heap.size w w3 := below_via hb3 BI
          have P3 := Lib.hid (HI.out.later hb3 HI.out.cells.1 HI.out.cells.2.1)
          clear hb3 HI BI
          have HBI := Lib.hid hbi; have HBL := Lib.hid hbl; have HBR := Lib.hid hbr; have HBU := Lib.hid hbu; have HBD := Lib.hid hbd
          clear hbi hbl hbr hbu hbd
          obtain ⟨RR, hRR⟩ : ∃ r, r = (if (!(bi && (bl || br) && !bu || bi && (bu || bd) && !br || bi && (bl || br) && !bd || bi && (bu || bd) && !bl)) = true then 0 else runeA (oneK K (bi && (bl || br) && !bu) (bi && (bu || bd) && !br) (bi && (bl || br) && !bd) (bi && (bu || bd) && !bl))) := ⟨_, rfl⟩
          obtain ⟨OO, hOO⟩ : ∃ o, o = (!!(bi && (bl || br) && !bu || bi && (bu || bd) && !br || bi && (bl || br) && !bd || bi && (bu || bd) && !bl)) := ⟨_, rfl⟩
          rw [← hRR, ← hOO]
          have HRR := Lib.hid hRR; have HOO := Lib.hid hOO
          clear hRR hOO
          go_upto_region 14 with (fail)
          go_cut [19] from 71 to 187 (fun s wx => s = .bool bi ∧ wx = w3)
          case first =>
            clear HRR HOO HBL HBR HBU HBD
            go_wp2
            all_goals go_meet
            all_goals refine ⟨?_, rfl⟩
            all_goals rw [HBI.out]
            all_goals clear HBI
            all_goals first | rfl | (congr 1; rw [Bool.eq_iff_iff]; simp only [Bool.false_eq_true, decide_eq_true_eq, false_iff, true_iff]; omega)
          case rest =>
            obtain ⟨rfl, rfl⟩ := hcut
            go_upto_region 17 with (fail)
            rw [← HBL.out, ← HBR.out, ← HBU.out, ← HBD.out]
            have hlr : (bl && br) = false := by rw [HBL.out, HBR.out, Bool.and_eq_false_iff, beq_eq_false_iff_ne, beq_eq_false_iff_ne]; omega
            have hud : (bu && bd) = false := by rw [HBU.out, HBD.out, Bool.and_eq_false_iff, beq_eq_false_iff_ne, beq_eq_false_iff_ne]; omega
            have HLR := Lib.hid hlr
            have HUD := Lib.hid hud
            clear HBI HBL HBR HBU HBD hlr hud
            have k0 : (K == 0) = false := by rw [beq_eq_false_iff_ne]; omega
            have eqs := eqArms
            have Sc := B3.size
            cases bi
            · simp only [Bool.false_and, Bool.and_false, Bool.or_false, Bool.or_self, Bool.not_false, Bool.not_true] at HOO
              obtain rfl : OO = false := HOO.out
              clear HOO HRR HLR HUD
              go_wp2
              go_roundw
              case rel => exact ⟨i + 1, by omega, by go_num, Lib.hid (P3.out.alloc _), below_al B3 _⟩
              case measure => simp [intOf]; omega
            · cases bl <;> cases br <;> cases bu <;> cases bd
              all_goals first | exact absurd HLR.out (by decide) | exact absurd HUD.out (by decide) | clear HLR HUD
              all_goals simp only [Bool.true_and, Bool.and_true, Bool.false_and, Bool.and_false, Bool.or_false, Bool.false_or, Bool.or_true, Bool.true_or, Bool.or_self, Bool.and_self, Bool.not_false, Bool.not_true, if_true, if_false, Bool.false_eq_true, oneK] at HOO HRR
              all_goals obtain rfl := HOO.out
              all_goals obtain rfl := HRR.out
              all_goals clear HOO HRR
              all_goals go_wp2_with fail
              all_goals first
                | (refine (rune4 _ _ _ _ _).mono ?_
                   rintro e w4 ⟨rfl, hb4⟩
                   have P4 := Lib.hid ((P3.out.alloc _).later hb4 (by have := P3.out.cells.1; simp; omega) (by have := P3.out.cells.2.1; simp; omega))
                   have B4 : Below w.heap.size w w4 := below_via hb4 (by go_grown)
                   clear hb4 P3 B3 Sc
                   go_wp2
                   go_roundw
                   case rel => exact ⟨i + 1, by omega, by go_num, P4, B4⟩
                   case measure => simp [intOf]; omega)
                | (go_roundw
                   case rel => exact ⟨i + 1, by omega, by go_num, Lib.hid (P3.out.alloc _), below_al B3 _⟩
                   case measure => simp [intOf]; omega)
        · have hge : (44 : Int) ≤ (i : Int) := by omega
          clear hlt2 hi
          go_wp2
          go_roundw
          case rel => exact ⟨j + 1, by omega, by go_num, HI, BI⟩
          case measure => simp [intOf]; omega
    · have hge : (44 : Int) ≤ (j : Int) := by omega
      clear hlt hj
      go_wp2_with fail
      refine (wakes_any _).mono ?_
      rintro e w9 ⟨rfl, hb⟩
      have B9 := below_via hb BJ
      go_wp2
      go_ret
      exact ⟨rfl, B9⟩
end Go.Proofs.Ytebalohoblaedaa
