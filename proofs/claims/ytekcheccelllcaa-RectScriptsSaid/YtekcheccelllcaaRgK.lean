/- Layer 07: a call that changes a region: the loop over the bounds, part D. -/
import Derived.Test.YtekcheccelllcaaRgJ
namespace Go.Proofs.Ytekcheccelllcaa
open Go.RowKit
set_option linter.unusedVariables false
set_option linter.unusedSimpArgs false

set_option maxRecDepth 100000 in
set_option maxHeartbeats 32000000 in
def change_D (base : Nat) (w : World) (g : Nat) (pv : Option Addr) (n cv : Nat) (l : List BV) (op : Bool → Bool → Bool) (h0 : op false false = false) (K : FuncId) (HK : RowKit.Hid (Stays op K)) (HR : RowKit.Hid (RegAt base w g (.slice pv n cv) l)) (HN : RowKit.Hid (n = l.length)) (HOK : RowKit.Hid (RegOk (bdsOf l))) (r : R4) (HRR : RowKit.Hid (isR r)) : {P : Prop // RowKit.Hid P → (change_C base w g pv n cv l op h0 K HK HR HN HOK r HRR).1} := ⟨_, fun hP => by
  unfold change_C
  set_option tactic.hygienic false in intro
  set_option tactic.hygienic false in intros
  obtain ⟨p0, hp0⟩ : ∃ q, q = (l.getD a zBV).1.y0 := ⟨_, rfl⟩
  obtain ⟨A, hA⟩ : ∃ A, A = rowB (bdsOf l) z := ⟨_, rfl⟩
  have HROW := Lib.hid (show A = if a < n ∧ p0 ≤ z then (l.getD a zBV).1.es else [] from by
    have h1 := rowB_at HOK.out.can (z := z) (n := a) (by rw [bdsOf_len, ← HN.out]; exact ha) HLO.out (fun h => by rw [bdsOf_getD, ← HQ1.out]; exact HAT.out (by rw [HN.out, ← bdsOf_len]; exact h))
    rw [hA, h1, bdsOf_len, ← HN.out, bdsOf_getD, ← hp0])
  have HA := Lib.hid hA
  clear hA
  have HP0 := Lib.hid hp0
  clear hp0
  go_upto_region 22 with (fail)
  go_cut [108] (fun s wx => s = .bool (decide (a < n ∧ p0 ≤ z)) ∧ RowKit.Hid (Below wo.heap.size wo wx))
  case first =>
    clear hP
    obtain ⟨y0, y1c, y2c⟩ := FY.out wi HW2.out
    obtain ⟨zg, cg⟩ := FC.out wi HW2.out
    by_cases h1 : a < n
    · have h1i : (a : Int) < (n : Int) := by omega
      obtain ⟨bb, hpe, zb, _, k0, k1, k2⟩ := (FR.out wi HW2.out).cells (i := a) (by rw [← HN.out]; exact h1)
      subst hpe
      rw [← HP0.out] at k0
      clear k1 k2
      by_cases h2 : p0 ≤ z
      · go_quiet (fail)
        go_wp2
        all_goals go_meet
        all_goals exact ⟨by simp [h1, h2], Lib.hid (by first | exact HW2.out | exact below_drewN HW2.out _)⟩
      · go_quiet (fail)
        go_wp2
        all_goals go_meet
        all_goals exact ⟨by simp [h1, h2], Lib.hid (by first | exact HW2.out | exact below_drewN HW2.out _)⟩
    · have h1i : ¬ (a : Int) < (n : Int) := by omega
      go_quiet (fail)
      go_wp2
      all_goals go_meet
      all_goals exact ⟨by simp [h1], Lib.hid (by first | exact HW2.out | exact below_drewN HW2.out _)⟩
  case rest =>
    obtain ⟨rfl, HW3⟩ := hcut
    clear HW2
    obtain ⟨wj, hwj⟩ : ∃ q : World, q = wc := ⟨_, rfl⟩
    rw [← hwj] at HW3 ⊢
    clear hwj
    obtain ⟨bb0, hbb0⟩ : ∃ q, q = decide (a < n ∧ p0 ≤ z) := ⟨_, rfl⟩
    rw [← hbb0]
    have HBB := Lib.hid hbb0
    clear hbb0
    go_upto_if 108 with (fail)
    go_cut [16] (fun s wx => ∃ p c, s = .slice p A.length c ∧ RowKit.Hid (Below wo.heap.size wo wx ∧ RdI wx p A))
    case first =>
      clear hP
      cases bb0
      · have hne := of_decide_eq_false HBB.out.symm
        have he := HROW.out
        rw [if_neg hne] at he
        subst he
        go_wp2
        all_goals go_meet
        all_goals exact ⟨none, 0, rfl, Lib.hid ⟨HW3.out, fun h => absurd rfl h⟩⟩
      · have hye := of_decide_eq_true HBB.out.symm
        have he := HROW.out
        rw [if_pos hye] at he
        have hal : a < l.length := by rw [← HN.out]; exact hye.1
        have FB := FR.out wj HW3.out
        obtain ⟨bb, hpe, zb, _, k0, k1, k2⟩ := FB.cells hal
        subst hpe
        obtain ⟨pe, ce, hev, _, hrd⟩ := rdI_own (FB.en _ (getD_mem' hal)) rfl
        rw [hev] at k2
        rw [← he] at k2 hrd
        have h1i : (a : Int) < (n : Int) := by have := hye.1; omega
        have HRD := Lib.hid hrd
        clear hrd hev he k0 k1 hal FB
        obtain ⟨zg, cg⟩ := FC.out wj HW3.out
        go_wp2
        all_goals go_meet
        all_goals exact ⟨pe, ce, rfl, Lib.hid ⟨by first | exact HW3.out | exact below_drewN HW3.out _, HRD.out⟩⟩
    case rest =>
      obtain ⟨pa, ca, rfl, HA4⟩ := hcut
      obtain ⟨wk, hwk⟩ : ∃ q : World, q = wc := ⟨_, rfl⟩
      rw [← hwk] at HA4 ⊢
      have HWK := Lib.hid HA4.out.1
      have HRA := Lib.hid HA4.out.2
      clear hwk HW3 HA4 HBB HROW HP0 HAT
      (repeat (rename_i zzD; revert zzD))
      revert i0 HI j0 HJ hnl HC b HBX HBI HPOST HBR kb HKB w1 u20 u21 u22 u23 u24 u25 u26 u27 u28 u29 u30 u31 u32 u33 u34 u35 u36 u37 u52 u53 u54 u55 u204 u205 u206 u207 u208 u209 w2 HB2 gx HX2 w3 u9 u11 u41 u42 u43 u44 u45 u46 u47 u48 u49 u50 u51 w4 w5 ys cy hyc HB5 HYU hyl HYI F HFE HMK HC5 HX5 HR5 hh hh_1 hh_2 hh_3 hh_4 hh_5 hh_6 hh_7 hh_8 hh_9 hh_10 hh_11 hh_12 hh_14 u12 u16 u17 u18 u19 i cnt a0 out hi hlt hii zzB zzB_1 zzB_2 zzB_3 zzB_4 zzB_5 zzB_6 zzB_7 zzB_8 zzB_9 zzB_10 zzB_11 zzB_12 zzB_13 zzB_14 zzB_15 zzB_16 zzB_17 zzB_18 zzB_19 zzB_20 zzB_21 zzB_22 zzB_23 zzB_24 zzB_25 zzB_26 zzB_27 zzB_28 zzB_29 zzB_30 zzB_31 zzB_32 zzB_33 zzB_34 zzB_35 zzB_36 zzB_37 zzB_38 zzB_39 zzB_40 zzB_41 zzB_42 zzB_43 zzB_44 zzB_45 zzB_46 zzB_47 zzB_48 zzB_49 zzB_50 zzB_51 zzB_52 zzB_53 zzB_54 zzB_55 zzB_56 zzB_57 zzB_58 zzB_59 zzB_60 zzB_61 zzB_62 zzB_63 zzB_64 zzB_65 zzB_66 zzB_67 zzB_68 zzB_69 zzB_70 zzB_71 zzB_72 zzB_73 zzB_74 zzB_75 zzB_76 zzB_77 zzB_78 zzB_79 zzB_80 zzB_81 zzB_82 zzB_83 zzB_84 zzB_85 zzB_86 zzB_87 zzB_88 zzB_89 zzB_90 zzB_91 zzB_92 zzB_93 zzB_94 zzB_95 zzB_96 zzB_97 zzB_98 zzB_99 zzB_100 zzB_101 zzB_102 zzB_103 zzB_104 zzB_105 zzB_106 zzB_107 zzB_108 zzB_109 zzB_110 zzB_111 zzB_112 zzB_113 zzB_114 zzB_115 zzB_116 zzB_117 zzB_118 zzB_119 zzB_120 zzB_121 zzB_122 zzB_123 zzB_124 zzB_125 zzB_126 zzB_127 zzB_128 zzB_129 zzB_130 zzB_131 zzB_132 zzB_133 zzB_134 zzB_135 zzB_136 zzB_137 zzB_138 zzB_139 zzB_140 zzB_141 zzB_142 zzB_143 zzB_144 zzB_145 zzB_146 zzB_147 hh_13 hh_15 zzB_148 zzB_149 zzB_150 gy oy HYR z z2 HEQ HZI HZZ HZ2 wo HM FR FX FC FY wr a ha q1 HQ1 HLO wi zzC zzC_1 zzC_2 zzC_3 zzC_4 zzC_5 zzC_6 zzC_7 zzC_8 zzC_9 zzC_10 zzC_11 zzC_12 zzC_13 zzC_14 zzC_15 zzC_16 zzC_17 zzC_18 zzC_19 zzC_20 zzC_21 zzC_22 zzC_23 zzC_24 zzC_25 zzC_27 zzC_29 zzC_31 zzC_32 zzC_33 zzC_34 zzC_35 zzC_36 zzC_37 zzC_38 zzC_39 zzC_40 zzC_41 zzC_42 zzC_43 zzC_44 zzC_45 zzC_46 zzC_47 zzC_48 zzC_49 zzC_50 zzC_51 zzC_52 zzC_53 zzC_55 p0 A HA wj bb0 wc u56 u57 u58 u59 u60 u61 u62 u63 u64 u65 u66 u67 u68 u69 u70 u71 u72 u73 u74 u75 u76 u77 u78 u79 u80 u81 u82 u83 u84 u85 u86 u87 u88 u89 u90 u91 u92 u93 u94 u95 u96 u97 u98 u99 u100 u101 u102 u103 u104 u105 u106 u107 u108 u109 u110 u111 u112 u113 u114 u115 u116 u117 u118 u119 u120 u121 u122 u123 u124 u125 u126 u127 u128 u129 u130 u131 u132 u133 u134 u135 u136 u137 u138 u139 u140 u141 u142 u143 u144 u145 u146 u147 u148 u149 u150 u151 u152 u153 u154 u155 u156 u157 u158 u159 u160 u161 u162 u163 u164 u165 u166 u167 u168 u169 u170 u171 u172 u173 u174 u175 u176 u177 u178 u179 u180 u181 u182 u183 u184 u185 u186 u187 u188 u189 u190 u191 u192 u193 u194 u195 u196 u197 u198 u199 u200 u201 u202 u203 pa ca wk HWK HRA
      exact hP.out⟩
end Go.Proofs.Ytekcheccelllcaa
