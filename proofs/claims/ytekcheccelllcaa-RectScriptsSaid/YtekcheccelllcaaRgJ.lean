/- Layer 07: a call that changes a region: the loop over the bounds, part C. -/
import Derived.Test.YtekcheccelllcaaRgI
namespace Go.Proofs.Ytekcheccelllcaa
open Go.RowKit
set_option linter.unusedVariables false
set_option linter.unusedSimpArgs false

set_option maxRecDepth 100000 in
set_option maxHeartbeats 32000000 in
def change_C (base : Nat) (w : World) (g : Nat) (pv : Option Addr) (n cv : Nat) (l : List BV) (op : Bool → Bool → Bool) (h0 : op false false = false) (K : FuncId) (HK : RowKit.Hid (Stays op K)) (HR : RowKit.Hid (RegAt base w g (.slice pv n cv) l)) (HN : RowKit.Hid (n = l.length)) (HOK : RowKit.Hid (RegOk (bdsOf l))) (r : R4) (HRR : RowKit.Hid (isR r)) : {P : Prop // RowKit.Hid P → (change_B base w g pv n cv l op h0 K HK HR HN HOK r HRR).1} := ⟨_, fun hP => by
  unfold change_B
  set_option tactic.hygienic false in intro
  set_option tactic.hygienic false in intros
  obtain ⟨gy, oy, rfl, zy, hyc2⟩ := HYR.out (by omega)
  obtain ⟨z, hz⟩ : ∃ z, z = ys.getD i 0 := ⟨_, rfl⟩
  obtain ⟨z2, hz2⟩ : ∃ z, z = ys.getD (i + 1) 0 := ⟨_, rfl⟩
  have FY := Lib.hid (show ∀ w', Below wr.heap.size wr w' → (gy < w'.heap.size ∧ w'.cell? ⟨gy, oy + i, none⟩ = some (.int .i64 z) ∧ w'.cell? ⟨gy, oy + (i + 1), none⟩ = some (.int .i64 z2)) from fun w' hb => by
    have h5 := below_via hb HM.out.be
    refine ⟨by have := h5.size; omega, ?_, ?_⟩
    · rw [(bcell h5).1 _ _ zy, hz]; exact hyc2 i (by omega)
    · rw [(bcell h5).1 _ _ zy, hz2]; exact hyc2 (i + 1) hlt)
  have FC := Lib.hid (fun w' (hb : Below wr.heap.size wr w') => HC5.out w' (below_via hb HM.out.be))
  have FX := Lib.hid (fun w' (hb : Below wr.heap.size wr w') => HX5.out w' (below_via hb HM.out.be))
  have FR := Lib.hid (fun w' (hb : Below wr.heap.size wr w') => (HR5.out.later (below_via hb HM.out.be)).bn)
  have HEQ := Lib.hid (show goB F (ys.drop (i + 1)) (pushB (bdsOf out) z z2 (F z)) = mkBd F ys from by have h1 := HM.out.eq; rw [goB_step F _ hlt, ← hz, ← hz2] at h1; exact h1)
  have HZI := Lib.hid (show -1048576 ≤ z ∧ z ≤ 1048576 from HYI.out z (by rw [hz, List.getD_eq_getElem?_getD, List.getElem?_eq_getElem (show i < ys.length by omega)]; exact List.getElem_mem _))
  have HZZ := Lib.hid (show z < z2 from by rw [hz, hz2]; exact up_getD HYU.out (by omega) hlt)
  rw [← hz] at hlo
  clear hz hyc2 zy
  have HZ2 := Lib.hid hz2
  clear hz2
  obtain ⟨y0, y1c, y2c⟩ := FY.out wr (Below.refl _ _)
  obtain ⟨zg, cg⟩ := FC.out wr (Below.refl _ _)
  go_upto_region 19 with (fail)
  obtain ⟨wo, hwo⟩ : ∃ q : World, q = wr := ⟨_, rfl⟩
  rw [← hwo] at FY FC FX FR HM ⊢
  clear y0 y1c y2c zg cg hwo
  go_wp2
  go_loopw [14] (fun av wi => ∃ a : Nat, av = .int .i64 a ∧ a ≤ n ∧ (∀ q, q < a → ((bdsOf l).getD q zB).y1 ≤ z) ∧ RowKit.Hid (Below wo.heap.size wo wi)) (fun av _ => n - (intOf av).toNat)
  case atStart => exact ⟨a0, rfl, ha0, hlo, Lib.hid (Below.refl _ _)⟩
  case round =>
    clear hlo ha0
    obtain ⟨a, rfl, ha, hlo, HW⟩ := hrel
    obtain ⟨q1, hq1⟩ : ∃ q, q = (l.getD a zBV).1.y1 := ⟨_, rfl⟩
    have HQ1 := Lib.hid hq1
    have HLO := Lib.hid hlo
    clear hlo hq1
    go_upto_region 20 with (fail)
    go_cut [84] (fun s wx => s = .bool (decide (a < n ∧ q1 ≤ z)) ∧ RowKit.Hid (Below wo.heap.size wo wx))
    case first =>
      clear hP
      obtain ⟨y0, y1c, y2c⟩ := FY.out wr HW.out
      obtain ⟨zg, cg⟩ := FC.out wr HW.out
      by_cases h1 : a < n
      · have h1i : (a : Int) < (n : Int) := by omega
        obtain ⟨bb, hpe, zb, _, k0, k1, k2⟩ := (FR.out wr HW.out).cells (i := a) (by rw [← HN.out]; exact h1)
        subst hpe
        rw [← HQ1.out] at k1
        clear k0 k2
        by_cases h2 : q1 ≤ z
        · go_quiet (fail)
          go_wp2
          all_goals go_meet
          all_goals exact ⟨by simp [h1, h2], Lib.hid (by first | exact HW.out | exact below_drewN HW.out _ | exact HW.out.trans (Below.drew (Below.refl _ _)))⟩
        · go_quiet (fail)
          go_wp2
          all_goals go_meet
          all_goals exact ⟨by simp [h1, h2], Lib.hid (by first | exact HW.out | exact below_drewN HW.out _ | exact HW.out.trans (Below.drew (Below.refl _ _)))⟩
      · have h1i : ¬ (a : Int) < (n : Int) := by omega
        go_quiet (fail)
        go_wp2
        all_goals go_meet
        all_goals exact ⟨by simp [h1], Lib.hid (by first | exact HW.out | exact below_drewN HW.out _)⟩
    case rest =>
      obtain ⟨rfl, HW2⟩ := hcut
      clear HW
      obtain ⟨wi, hwi⟩ : ∃ q : World, q = wc := ⟨_, rfl⟩
      rw [← hwi] at HW2 ⊢
      clear hwi
      by_cases hc : a < n ∧ q1 ≤ z
      · skip
        clear hP
        rw [decide_eq_true hc]
        have HLO2 := Lib.hid (show ∀ q, q < a + 1 → ((bdsOf l).getD q zB).y1 ≤ z from fun q hq => by
          rcases Nat.lt_or_ge q a with h | h
          · exact HLO.out q h
          · obtain rfl : q = a := by omega
            rw [bdsOf_getD, ← HQ1.out]; exact hc.2)
        have hc1 := hc.1
        clear hc
        go_wp2
        go_roundw
        case rel => exact ⟨a + 1, by go_num, by omega, HLO2.out, HW2⟩
        case measure => simp [intOf] <;> omega
      · rw [decide_eq_false hc]
        have HAT := Lib.hid (show a < n → z < q1 from fun h => by
          have := fun h2 => hc ⟨h, h2⟩
          omega)
        clear hc
        (repeat (rename_i zzC; revert zzC))
        revert i0 HI j0 HJ hnl HC b HBX HBI HPOST HBR kb HKB w1 u20 u21 u22 u23 u24 u25 u26 u27 u28 u29 u30 u31 u32 u33 u34 u35 u36 u37 u52 u53 u54 u55 u204 u205 u206 u207 u208 u209 w2 HB2 gx HX2 w3 u9 u11 u41 u42 u43 u44 u45 u46 u47 u48 u49 u50 u51 w4 w5 ys cy hyc HB5 HYU hyl HYI F HFE HMK HC5 HX5 HR5 hh hh_1 hh_2 hh_3 hh_4 hh_5 hh_6 hh_7 hh_8 hh_9 hh_10 hh_11 hh_12 hh_14 u12 u16 u17 u18 u19 u56 u57 u58 u59 u60 u61 u62 u87 u88 u89 u90 u91 u92 u93 u94 u95 u96 u97 u98 u99 u100 u101 u102 u103 u104 u105 u106 u107 u108 u109 u110 u111 u112 u113 u114 u115 u116 u117 u118 u119 u120 u121 u122 u123 u124 u125 u126 u127 u128 u129 u130 u131 u132 u133 u134 u135 u136 u137 u138 u139 u140 u141 u142 u143 u144 u145 u146 u147 u148 u149 u150 u151 u152 u153 u154 u155 u156 u157 u158 u159 u160 u161 u162 u163 u164 u165 u166 u167 u168 u169 u170 u171 u172 u173 u174 u175 u176 u177 u178 u179 u180 u181 u182 u183 u184 u185 u186 u187 u188 u189 u190 u191 u192 u193 u194 u195 u196 u197 u198 u199 u200 u201 u202 u203 i cnt a0 out hi hlt hii zzB zzB_1 zzB_2 zzB_3 zzB_4 zzB_5 zzB_6 zzB_7 zzB_8 zzB_9 zzB_10 zzB_11 zzB_12 zzB_13 zzB_14 zzB_15 zzB_16 zzB_17 zzB_18 zzB_19 zzB_20 zzB_21 zzB_22 zzB_23 zzB_24 zzB_25 zzB_26 zzB_27 zzB_28 zzB_29 zzB_30 zzB_31 zzB_32 zzB_33 zzB_34 zzB_35 zzB_36 zzB_37 zzB_38 zzB_39 zzB_40 zzB_41 zzB_42 zzB_43 zzB_44 zzB_45 zzB_46 zzB_47 zzB_48 zzB_49 zzB_50 zzB_51 zzB_52 zzB_53 zzB_54 zzB_55 zzB_56 zzB_57 zzB_58 zzB_59 zzB_60 zzB_61 zzB_62 zzB_63 zzB_64 zzB_65 zzB_66 zzB_67 zzB_68 zzB_69 zzB_70 zzB_71 zzB_72 zzB_73 zzB_74 zzB_75 zzB_76 zzB_77 zzB_78 zzB_79 zzB_80 zzB_81 zzB_82 zzB_83 zzB_84 zzB_85 zzB_86 zzB_87 zzB_88 zzB_89 zzB_90 zzB_91 zzB_92 zzB_93 zzB_94 zzB_95 zzB_96 zzB_97 zzB_98 zzB_99 zzB_100 zzB_101 zzB_102 zzB_103 zzB_104 zzB_105 zzB_106 zzB_107 zzB_108 zzB_109 zzB_110 zzB_111 zzB_112 zzB_113 zzB_114 zzB_115 zzB_116 zzB_117 zzB_118 zzB_119 zzB_120 zzB_121 zzB_122 zzB_123 zzB_124 zzB_125 zzB_126 zzB_127 zzB_128 zzB_129 zzB_130 zzB_131 zzB_132 zzB_133 zzB_134 zzB_135 zzB_136 zzB_137 zzB_138 zzB_139 zzB_140 zzB_141 zzB_142 zzB_143 zzB_144 zzB_145 zzB_146 zzB_147 hh_13 hh_15 zzB_148 zzB_149 zzB_150 gy oy HYR z z2 HEQ HZI HZZ HZ2 wo HM FR FX FC FY wr u84 a ha q1 HQ1 HLO wc u63 u64 u65 u66 u67 u68 u69 u70 u71 u72 u73 u74 u75 u76 u77 u78 u79 u80 u81 u82 u83 u85 u86 wi HW2 HAT
        exact hP.out⟩
end Go.Proofs.Ytekcheccelllcaa
