/- Layer 07: a call that changes a region: the loop over the bounds, part E. -/
import Derived.Test.YtekcheccelllcaaRgK
namespace Go.Proofs.Ytekcheccelllcaa
open Go.RowKit
set_option linter.unusedVariables false
set_option linter.unusedSimpArgs false

set_option maxRecDepth 100000 in
set_option maxHeartbeats 32000000 in
def change_E (base : Nat) (w : World) (g : Nat) (pv : Option Addr) (n cv : Nat) (l : List BV) (op : Bool → Bool → Bool) (h0 : op false false = false) (K : FuncId) (HK : RowKit.Hid (Stays op K)) (HR : RowKit.Hid (RegAt base w g (.slice pv n cv) l)) (HN : RowKit.Hid (n = l.length)) (HOK : RowKit.Hid (RegOk (bdsOf l))) (r : R4) (HRR : RowKit.Hid (isR r)) : {P : Prop // RowKit.Hid P → (change_D base w g pv n cv l op h0 K HK HR HN HOK r HRR).1} := ⟨_, fun hP => by
  unfold change_D
  set_option tactic.hygienic false in intro
  set_option tactic.hygienic false in intros
  obtain ⟨X, hX⟩ : ∃ X, X = rowX b z := ⟨_, rfl⟩
  have HX := Lib.hid hX
  have HXW := Lib.hid (show X = if kb = true ∧ b.y0 ≤ z ∧ z < b.y1 then [b.x0, b.x1] else [] from by rw [HKB.out]; exact hX)
  clear hX
  go_upto_region 24 with (fail)
  go_cut [135] (fun s wx => s = .bool (decide (kb = true ∧ b.y0 ≤ z ∧ z < b.y1)) ∧ RowKit.Hid (Below wk.heap.size wk wx))
  case first =>
    clear hP
    obtain ⟨y0, y1c, y2c⟩ := FY.out wk HWK.out
    obtain ⟨zx, x0, x1, x2, x3⟩ := FX.out wk HWK.out
    clear y2c x0 x2
    cases kb
    · go_quiet (fail)
      go_wp2
      all_goals go_meet
      all_goals exact ⟨by simp, Lib.hid (by first | exact Below.refl _ _ | exact below_drewN (Below.refl _ _) _)⟩
    · by_cases h1 : b.y0 ≤ z
      · by_cases h2 : z < b.y1
        · go_quiet (fail)
          go_wp2
          all_goals go_meet
          all_goals exact ⟨by (simp [h1, h2]; try (intros; omega)), Lib.hid (by first | exact Below.refl _ _ | exact below_drewN (Below.refl _ _) _)⟩
        · go_quiet (fail)
          go_wp2
          all_goals go_meet
          all_goals exact ⟨by (simp [h1, h2]; try (intros; omega)), Lib.hid (by first | exact Below.refl _ _ | exact below_drewN (Below.refl _ _) _)⟩
      · go_quiet (fail)
        go_wp2
        all_goals go_meet
        all_goals exact ⟨by (simp [h1]; try (intros; omega)), Lib.hid (by first | exact Below.refl _ _ | exact below_drewN (Below.refl _ _) _)⟩
  case rest =>
    obtain ⟨rfl, HW4⟩ := hcut
    obtain ⟨wl, hwl⟩ : ∃ q : World, q = wc := ⟨_, rfl⟩
    rw [← hwl] at HW4 ⊢
    clear hwl
    obtain ⟨bb0, hbb0⟩ : ∃ q, q = decide (kb = true ∧ b.y0 ≤ z ∧ z < b.y1) := ⟨_, rfl⟩
    rw [← hbb0]
    have HBB := Lib.hid hbb0
    clear hbb0
    go_upto_if 135 with (fail)
    go_cut [17] (fun s wx => ∃ p c, s = .slice p X.length c ∧ RowKit.Hid (Below wk.heap.size wk wx ∧ RdI wx p X))
    case first =>
      clear hP
      cases bb0
      · have hne := of_decide_eq_false HBB.out.symm
        have he := HXW.out
        rw [if_neg hne] at he
        subst he
        go_wp2
        all_goals go_meet
        all_goals exact ⟨none, 0, rfl, Lib.hid ⟨HW4.out, fun h => absurd rfl h⟩⟩
      · have hye := of_decide_eq_true HBB.out.symm
        have he := HXW.out
        rw [if_pos hye] at he
        subst he
        obtain ⟨zx, x0, x1, x2, x3⟩ := FX.out wl (HWK.out.trans (HW4.out.mono HWK.out.size))
        clear x1 x3
        have HB5b := Lib.hid (show Below wk.heap.size wk (wl.alloc (.cells #[.int .i64 b.x0, .int .i64 b.x1] 3)) from HW4.out.trans ((below_al (Below.refl wl.heap.size wl) _).mono HW4.out.size))
        have HRX := Lib.hid (show RdI (wl.alloc (.cells #[.int .i64 b.x0, .int .i64 b.x1] 3)) (some ⟨wl.heap.size, 0, none⟩) [b.x0, b.x1] from fun _ => ⟨wl.heap.size, 0, rfl, by simp, fun q hq => by
          rw [cell_of_row _ _ _ _ _ _ (heap_alloc_new _ _)]
          rcases q with _ | _ | q
          · rfl
          · rfl
          · exact absurd hq (by simp only [List.length_cons, List.length_nil]; omega)⟩)
        go_wp2
        all_goals go_meet
        all_goals exact ⟨some ⟨wl.heap.size, 0, none⟩, 2, rfl, Lib.hid ⟨HB5b.out, HRX.out⟩⟩
    case rest =>
      obtain ⟨pb, cb, rfl, HA5⟩ := hcut
      obtain ⟨wm, hwm⟩ : ∃ q : World, q = wc := ⟨_, rfl⟩
      rw [← hwm] at HA5 ⊢
      have HWM := Lib.hid (HWK.out.trans (HA5.out.1.mono HWK.out.size))
      have HRA2 := Lib.hid (HRA.out.later HA5.out.1 (Nat.le_refl _))
      have HRX := Lib.hid HA5.out.2
      clear hwm HA5 HW4 HBB HRA HXW HWK
      (repeat (rename_i zzE; revert zzE))
      revert i0 HI j0 HJ hnl HC b HBX HBI HPOST HBR kb HKB w1 u20 u21 u22 u23 u24 u25 u26 u27 u28 u29 u30 u31 u32 u33 u34 u35 u36 u37 u52 u53 u54 u55 u204 u205 u206 u207 u208 u209 w2 HB2 gx HX2 w3 u9 u11 u41 u42 u43 u44 u45 u46 u47 u48 u49 u50 u51 w4 w5 ys cy hyc HB5 HYU hyl HYI F HFE HMK HC5 HX5 HR5 hh hh_1 hh_2 hh_3 hh_4 hh_5 hh_6 hh_7 hh_8 hh_9 hh_10 hh_11 hh_12 hh_14 u12 u16 u17 u18 u19 i cnt a0 out hi hlt hii zzB zzB_1 zzB_2 zzB_3 zzB_4 zzB_5 zzB_6 zzB_7 zzB_8 zzB_9 zzB_10 zzB_11 zzB_12 zzB_13 zzB_14 zzB_15 zzB_16 zzB_17 zzB_18 zzB_19 zzB_20 zzB_21 zzB_22 zzB_23 zzB_24 zzB_25 zzB_26 zzB_27 zzB_28 zzB_29 zzB_30 zzB_31 zzB_32 zzB_33 zzB_34 zzB_35 zzB_36 zzB_37 zzB_38 zzB_39 zzB_40 zzB_41 zzB_42 zzB_43 zzB_44 zzB_45 zzB_46 zzB_47 zzB_48 zzB_49 zzB_50 zzB_51 zzB_52 zzB_53 zzB_54 zzB_55 zzB_56 zzB_57 zzB_58 zzB_59 zzB_60 zzB_61 zzB_62 zzB_63 zzB_64 zzB_65 zzB_66 zzB_67 zzB_68 zzB_69 zzB_70 zzB_71 zzB_72 zzB_73 zzB_74 zzB_75 zzB_76 zzB_77 zzB_78 zzB_79 zzB_80 zzB_81 zzB_82 zzB_83 zzB_84 zzB_85 zzB_86 zzB_87 zzB_88 zzB_89 zzB_90 zzB_91 zzB_92 zzB_93 zzB_94 zzB_95 zzB_96 zzB_97 zzB_98 zzB_99 zzB_100 zzB_101 zzB_102 zzB_103 zzB_104 zzB_105 zzB_106 zzB_107 zzB_108 zzB_109 zzB_110 zzB_111 zzB_112 zzB_113 zzB_114 zzB_115 zzB_116 zzB_117 zzB_118 zzB_119 zzB_120 zzB_121 zzB_122 zzB_123 zzB_124 zzB_125 zzB_126 zzB_127 zzB_128 zzB_129 zzB_130 zzB_131 zzB_132 zzB_133 zzB_134 zzB_135 zzB_136 zzB_137 zzB_138 zzB_139 zzB_140 zzB_141 zzB_142 zzB_143 zzB_144 zzB_145 zzB_146 zzB_147 hh_13 hh_15 zzB_148 zzB_149 zzB_150 gy oy HYR z z2 HEQ HZI HZZ HZ2 wo HM FR FX FC FY wr a ha q1 HQ1 HLO wi zzC zzC_1 zzC_2 zzC_3 zzC_4 zzC_5 zzC_6 zzC_7 zzC_8 zzC_9 zzC_10 zzC_11 zzC_12 zzC_13 zzC_14 zzC_15 zzC_16 zzC_17 zzC_18 zzC_19 zzC_20 zzC_21 zzC_22 zzC_23 zzC_24 zzC_25 zzC_27 zzC_29 zzC_31 zzC_32 zzC_33 zzC_34 zzC_35 zzC_36 zzC_37 zzC_38 zzC_39 zzC_40 zzC_41 zzC_42 zzC_43 zzC_44 zzC_45 zzC_46 zzC_47 zzC_48 zzC_49 zzC_50 zzC_51 zzC_52 zzC_53 zzC_55 p0 A HA wj pa ca wk zzD zzD_1 zzD_2 zzD_3 zzD_4 zzD_5 zzD_6 zzD_7 zzD_8 zzD_9 zzD_10 zzD_11 zzD_12 zzD_13 zzD_14 zzD_15 zzD_16 zzD_17 zzD_18 zzD_19 zzD_20 zzD_21 zzD_22 zzD_23 zzD_24 zzD_25 zzD_26 zzD_27 zzD_28 zzD_29 zzD_30 zzD_31 zzD_32 zzD_33 zzD_34 zzD_35 zzD_36 zzD_37 zzD_38 zzD_39 zzD_40 zzD_41 zzD_42 zzD_43 zzD_44 zzD_45 zzD_46 zzD_47 zzD_48 zzD_49 zzD_50 zzD_51 zzD_52 zzD_53 zzD_54 zzD_55 zzD_56 zzD_57 zzD_58 zzD_59 zzD_60 zzD_61 zzD_62 zzD_63 zzD_64 zzD_65 zzD_66 zzD_67 zzD_68 zzD_69 zzD_70 zzD_71 zzD_72 zzD_73 zzD_74 zzD_75 zzD_76 zzD_77 zzD_78 zzD_79 zzD_80 zzD_81 zzD_82 zzD_83 zzD_84 zzD_85 zzD_86 zzD_87 zzD_88 zzD_89 zzD_90 zzD_91 zzD_92 zzD_93 zzD_94 zzD_95 zzD_96 zzD_97 zzD_98 zzD_99 zzD_100 zzD_101 zzD_102 zzD_103 zzD_104 zzD_105 zzD_106 zzD_107 zzD_108 zzD_109 zzD_110 zzD_111 zzD_112 zzD_113 zzD_114 zzD_115 zzD_116 zzD_117 zzD_118 zzD_119 zzD_120 zzD_121 zzD_122 zzD_123 zzC_26 zzC_28 zzD_124 zzC_54 zzC_56 zzD_125 zzD_126 zzD_127 zzD_128 zzD_129 zzD_130 zzD_131 zzD_132 zzD_133 zzD_134 zzD_135 zzD_136 zzD_137 zzD_138 zzD_139 zzD_140 zzD_141 zzD_142 zzD_143 zzD_144 zzD_145 zzD_146 zzD_147 zzD_148 zzD_151 zzD_152 zzD_153 zzD_154 zzD_155 zzD_156 zzD_157 zzD_158 zzD_159 zzD_160 zzD_161 zzD_162 zzD_163 zzD_164 zzD_165 zzD_166 zzD_167 zzD_168 zzD_169 zzD_170 zzD_171 zzD_172 zzD_173 zzD_174 zzD_175 zzD_176 zzD_177 zzD_178 zzD_179 zzD_180 zzD_181 zzD_182 zzD_183 zzD_184 zzD_185 zzD_186 zzD_187 zzD_188 zzD_189 zzD_190 zzD_191 zzD_192 zzD_193 zzD_194 zzD_195 zzD_196 zzD_197 zzD_198 zzD_199 zzD_200 zzD_201 zzD_202 zzD_203 zzD_204 zzD_205 zzD_206 zzD_207 zzD_208 zzD_209 zzD_210 zzD_211 zzD_212 zzD_213 zzD_214 zzD_215 zzD_216 zzD_217 zzD_218 zzD_219 zzD_220 zzD_221 zzD_222 zzD_223 zzD_224 zzD_225 zzD_226 zzD_227 zzD_228 zzD_229 zzD_230 zzD_231 zzD_232 zzD_233 zzD_234 zzD_235 zzD_236 zzD_237 zzD_238 zzD_239 zzD_240 zzD_241 zzD_242 zzD_243 zzD_244 zzD_245 zzD_246 zzD_247 zzD_248 zzD_249 zzD_250 zzD_251 zzD_252 zzD_253 zzD_254 zzD_255 zzD_256 zzD_257 zzD_258 zzD_259 zzD_260 zzD_261 zzD_262 zzD_263 zzD_264 zzD_265 zzD_266 zzD_267 zzD_268 zzD_269 zzD_270 zzD_271 zzD_272 zzD_273 zzD_274 zzD_275 zzD_276 zzD_277 zzD_278 zzD_279 zzD_280 zzD_281 zzD_282 zzD_283 zzD_284 zzD_285 zzD_286 zzD_287 zzD_288 zzD_289 zzD_290 zzD_291 zzD_292 zzD_293 zzD_294 zzD_295 zzD_296 zzD_297 zzD_298 X HX wl bb0 wc u56 u57 u58 u59 u60 u61 u62 u63 u64 u65 u66 u67 u68 u69 u70 u71 u72 u73 u74 u75 u76 u77 u78 u79 u80 u81 u82 u83 u84 u85 u86 u87 u88 u89 u90 u91 u92 u93 u94 u95 u96 u97 u98 u99 u100 u101 u102 u103 u104 u105 u106 u107 u108 u109 u110 u111 u112 u113 u114 u115 u116 u117 u118 u119 u120 u121 u122 u123 u124 u125 u126 u127 u128 u129 u130 u131 u132 u133 u134 u135 u136 u137 u138 u139 u140 u141 u142 u143 u144 u145 u146 u147 u148 u149 u150 u151 u152 u153 u154 u155 u156 u157 u158 u159 u160 u161 u162 u163 u164 u165 u166 u167 u168 u169 u170 u171 u172 u173 u174 u175 u176 u177 u178 u179 u180 u181 u182 u183 u184 u185 u186 u187 u188 u189 u190 u191 u192 u193 u194 u195 u196 u197 u198 u199 u200 u201 u202 u203 pb cb wm HWM HRA2 HRX
      exact hP.out⟩
end Go.Proofs.Ytekcheccelllcaa
