/- Layer 07: RectSets' walk, part B. -/
import Derived.Test.YtekcheccelllcaaRgSa
namespace Go.Proofs.Ytekcheccelllcaa
open Go.RowKit
set_option linter.unusedVariables false
set_option linter.unusedSimpArgs false
set_option maxRecDepth 100000 in
set_option maxHeartbeats 32000000 in
def RectSets_B (p : Option Addr) (c : Nat) (S : List (Int × R4)) (x y : Int) (w : World) (hSS : S.length ≤ 1048576) (HP : RowKit.Hid (StpAt w p S)) (HR : RowKit.Hid (∀ s ∈ S, isR s.2)) : {P : Prop // RowKit.Hid P → (RectSets_A p c S x y w hSS HP HR).1} := ⟨_, fun hP => by
  unfold RectSets_A
  set_option tactic.hygienic false in intro
  set_option tactic.hygienic false in intros
  obtain ⟨v, l, hrg, hok, hnu, hin⟩ := HS.out.rg
  have HRG := Lib.hid hrg
  have HOK := Lib.hid hok
  have HIN := Lib.hid hin
  have HAO := Lib.hid HS.out.ao
  have HDR := Lib.hid HS.out.dr
  have hln := HS.out.ln
  have hdl := HS.out.dl
  have HBE := Lib.hid HS.out.be
  have HRW := Lib.hid HS.out.rw
  clear hrg hok hnu hin HS
  obtain ⟨pa, ca, ea, hca, sla, _, _⟩ := own_sl HRW.out.aw rfl
  subst ea
  have HSA := Lib.hid sla
  obtain ⟨pd, cd, ed, spd⟩ := own_stp HRW.out.dw rfl
  subst ed
  have HSD := Lib.hid spd
  clear sla spd HRW
  go_wp2_with fail
  refine (rects_any w.heap.size wr g v l HRG.out HOK.out).mono ?_
  rintro e w2 ⟨v2, rfl, own2, hb2⟩
  obtain ⟨p2, c2, rfl, hc2, sl2, _, _⟩ := own_sl own2 rfl
  have hl2 : (rctsB (bdsOf l)).length ≤ 1024 := by rw [rctsB_len]; exact HOK.out.few
  obtain ⟨L, hL⟩ : ∃ L, L = rctsB (bdsOf l) := ⟨_, rfl⟩
  rw [← hL] at sl2 hl2 hc2 ⊢
  have HLL := Lib.hid hL
  obtain ⟨n2, hn2⟩ : ∃ q, q = L.length := ⟨_, rfl⟩
  rw [← hn2] at hl2 hc2 ⊢
  have HN2 := Lib.hid hn2
  have HSL := Lib.hid sl2
  have HB2 := Lib.hid hb2
  clear own2 sl2 hb2 hL hn2
  go_wp2_with fail
  refine (probes_any pa D.length ca A w2 hln (by omega) (HSA.out.later HB2.out) HAO.out).mono ?_
  rintro e w3 ⟨v3, rfl, ⟨C, hC, own3⟩, hb3⟩
  have HB3 := Lib.hid (below_via hb3 HB2.out)
  have HB32 := Lib.hid hb3
  have hz3 := hb3.size
  obtain ⟨k0, hi0, hz0, hz1, hz2⟩ := info_parts infoP
  have HK0 := Lib.hid (And.intro hi0 (And.intro hz0 (And.intro hz1 hz2)))
  clear hi0 hz0 hz1 hz2 hb3
  have HO4 := Lib.hid (row_later own3 (below_al (Below.refl w3.heap.size w3) (.cells #[.int .i64 x, .int .i64 y] 42)))
  clear own3
  go_wp2_with (at_builtin; go_must (refine append_keep rfl (.tmp 96) (.tmp 100) 43 rfl w2.heap.size 42 k0 (.agg #[.int .i64 0, .int .i64 0]) 2 16 Try.underlying43 HK0.out.1 HK0.out.2.1 HK0.out.2.2.1 HK0.out.2.2.2 rfl (by decide) _ (16 * D.length) _ rfl HO4.out ⟨w3.heap.size, 0, none⟩ 1 1 [.int .i64 x, .int .i64 y] rfl rfl ?e0 ?e1 ?e2 ?e3 ?e4 ?_))
  (try case e0 => exact World.news_of_block (cs := #[.int .i64 x, .int .i64 y]) (t := 42) (fr := (0, 0)) (heap_alloc_new _ _))
  case e1 => (intro u hu; simp at hu; rcases hu with rfl | rfl <;> rfl)
  case e2 => unfold maxLen; omega
  case e3 => omega
  case e4 => first | omega | (simp; omega)
  intro v4 w4 own4 gr4 loc4
  have HB4 := Lib.hid (show Below w2.heap.size w2 w4 from Below.grown (below_via (below_al (Below.refl w3.heap.size w3) _) HB32.out) gr4 (by simp; omega) (fun q hq => (row_lt HO4.out q hq).2))
  obtain ⟨PC, hPC⟩ : ∃ q, q = C ++ [(x, y)] := ⟨_, rfl⟩
  have own5 : w4.ownsRow w2.heap.size 42 2 v4 (16 * D.length + 1) (cellsP PC) := by rw [hPC, cellsP_append]; exact own4
  have hpl : PC.length = 16 * D.length + 1 := by rw [hPC, List.length_append, hC]; rfl
  obtain ⟨np, hnp⟩ : ∃ q, q = PC.length := ⟨_, rfl⟩
  rw [← hpl, ← hnp] at own5
  have hnpb : np ≤ 16777217 := by omega
  have HNP := Lib.hid hnp
  obtain ⟨pp, hpp⟩ : ∃ g c, v4 = .slice (some ⟨g, 0, none⟩) np c := by
    rcases row_form own5 with ⟨_, h, _⟩ | ⟨g, c, h, _⟩
    · omega
    · exact ⟨g, c, h⟩
  obtain ⟨cp, rfl⟩ := hpp
  have HPT := Lib.hid (own_pnt own5)
  have HBW := Lib.hid (show Below w.heap.size w w4 from below_via (below_via HB4.out HB2.out) HBE.out)
  have HRG4 := Lib.hid (HRG.out.later (below_via HB4.out HB2.out))
  have HSL4 := Lib.hid (HSL.out.later HB4.out)
  have HSD4 := Lib.hid (HSD.out.later (below_via HB4.out HB2.out))
  clear own4 own5 gr4 loc4 HO4 hC hPC hpl hnp HB32 HB3 HB2 HB4 HRG HSL HSD HSA HAO hca hc2
  have HF := Lib.hid (show ∀ r ∈ L, PlaneR r from by rw [HLL.out]; exact rctsB_own HOK.out.can HOK.out.pl)
  have HTOLD := Lib.hid (show ∀ X Y, L.any (fun r => withinR r X Y) = inC X Y D from fun X Y => by rw [HLL.out, rctsB_in HOK.out.can, HIN.out])
  have HHAS := Lib.hid (show ∀ X Y, inB (bdsOf l) X Y = inC X Y D from fun X Y => HIN.out X Y)
  obtain ⟨nd, hnd⟩ : ∃ q, q = D.length := ⟨_, rfl⟩
  rw [← hnd] at hdl ⊢
  have HND := Lib.hid hnd
  clear hnd hln
  go_wp2
  go_loopw [16] (fun iv wr => ∃ i : Nat, iv = .int .i64 i ∧ i ≤ np ∧ RowKit.Hid (Below w4.heap.size w4 wr)) (fun iv _ => np - (intOf iv).toNat)
  case atStart => exact ⟨0, rfl, Nat.zero_le _, Lib.hid (Below.refl _ _)⟩
  case round =>
    obtain ⟨wo, rfl⟩ : ∃ wo : World, wo = wr := ⟨_, rfl⟩
    obtain ⟨i, rfl, hi, HI⟩ := hrel
    by_cases hlt : i < np
    · have hii : (i : Int) < (np : Int) := by omega
      (repeat (rename_i zzB; revert zzB))
      revert i0 HI0 j0 HJ0 n hS HNN w1 g v0 l0 hz1 HGB HGZ wr u12 u13 u36 u37 u38 u39 u40 u41 u42 u43 u44 u45 u46 u47 u48 u49 u50 u51 u52 u53 u54 u55 u56 u57 u58 u59 u60 u61 u62 u63 u64 u65 u66 u67 u68 u69 u70 u71 u72 u73 u74 u75 u76 u77 u78 u79 u80 u81 u82 u83 u84 u85 u86 u87 u88 u89 u90 u91 u92 D A zzA zzA_1 v l HOK HIN HDR HBE pa ca pd cd w2 p2 c2 L HLL n2 hl2 HN2 w3 v3 C hz3 k0 HK0 w4 PC np hnpb HNP pp cp HPT HBW HRG4 HSL4 HSD4 HF HTOLD HHAS nd hdl HND u6 u17 u18 u19 u20 u21 u102 u103 u104 u105 u106 u107 u108 u109 u110 u111 u112 u113 u114 u115 u116 u117 u118 u119 u120 u121 u122 u123 u124 u125 u126 u127 u128 u129 u130 u131 u132 u133 u134 u135 u136 u137 u138 u139 u140 u141 u142 u143 u144 u145 u146 u147 u148 u149 u150 u151 u152 u153 u154 u155 u156 u157 u158 u159 u160 u161 u162 u163 u164 u165 u166 u167 u168 u169 u170 u171 u172 u173 u174 u175 u176 u177 u178 u179 u180 u181 u182 u183 u184 u185 u186 u187 u188 u189 u190 u191 u192 u193 u194 u195 u196 u197 u198 u199 u200 u201 u202 u203 u204 u205 u206 u207 u208 u209 u210 u211 u212 u213 wo i hi HI hlt hii
      exact hP.out
    · have hii2 : ¬ (i : Int) < (np : Int) := by omega
      clear hP
      clear hlt
      go_wp2
      go_loopw [22, 23] (fun av iv wr => ∃ k : Nat, iv = .int .i64 k ∧ k ≤ n2 ∧ av = .int .i64 (areaI (L.take k)) ∧ RowKit.Hid (Below w4.heap.size w4 wr)) (fun _ iv _ => n2 - (intOf iv).toNat)
      case atStart => exact ⟨0, rfl, Nat.zero_le _, rfl, HI⟩
      case round =>
        clear HI
        obtain ⟨wq, rfl⟩ : ∃ wq : World, wq = wr := ⟨_, rfl⟩
        obtain ⟨k, rfl, hk2, rfl, HK⟩ := hrel
        by_cases hkn : k < n2
        · have hkk2 : (k : Int) < (n2 : Int) := by omega
          have hkl : k < L.length := by rw [← HN2.out]; exact hkn
          obtain ⟨rb, ro, rfl, zr, hc⟩ := (HSL4.out.later HK.out) (by rw [← HN2.out]; omega)
          obtain ⟨c0, c1, c2, c3⟩ := hc k hkl
          have HA := Lib.hid (areaI_take L k hkl)
          generalize L.getD k zR = r at c0 c1 c2 c3 HA
          generalize areaI (L.take k) = a at HA ⊢
          clear hc c0 c1
          go_upto_region 49 with (fail)
          go_quiet (fail)
          clear c2 c3
          go_wp2
          go_roundw
          case rel => exact ⟨k + 1, by go_num, by omega, by rw [HA.out]; rfl, Lib.hid (by first | exact HK.out | exact below_drewN HK.out _)⟩
          case measure => simp [intOf] <;> omega
        · have hkk2 : ¬ (k : Int) < (n2 : Int) := by omega
          obtain rfl : n2 = k := by omega
          have HT := Lib.hid (show areaI (L.take n2) = areaI L from by rw [List.take_of_length_le (by rw [HN2.out]; exact Nat.le_refl _)])
          rw [HT.out]
          have HBQ := Lib.hid (below_via HK.out HBW.out)
          have HISR := Lib.hid (show ∀ r ∈ L, isR r from fun r hr => by have h := HF.out r hr; have h1 := h.x; have h2 := h.y; have h3 := h.w; have h4 := h.h; have h5 := h.xw; have h6 := h.yh; exact ⟨by omega, by omega, by omega, by omega⟩)
          go_wp2_with fail
          refine (new_any p2 n2 c2 L wq HN2.out.symm (by omega) (HSL4.out.later HK.out) HISR.out).mono ?_
          intro e w5 hn
          obtain ⟨hb5, hn⟩ := hn
          rw [HLL.out, new_rects HOK.out] at hn
          obtain ⟨h, vh, lh, rfl, hrg5, hbd⟩ := hn
          have HB5 := Lib.hid hb5
          have HRH := Lib.hid hrg5
          have HBD := Lib.hid hbd
          clear hb5 hrg5 hbd
          go_wp2_with fail
          refine (canonical_any p2 n2 c2 (bdsOf l) L w5 HOK.out HLL.out HN2.out ((HSL4.out.later HK.out).later HB5.out)).mono ?_
          rintro e w6 ⟨rfl, hb6⟩
          have HB6 := Lib.hid (below_via hb6 HB5.out)
          have HB65 := Lib.hid hb6
          clear hb6
          go_wp2_with fail
          refine (area_any w.heap.size w6 g v l (HRG4.out.later (below_via HB6.out HK.out)) HOK.out).mono ?_
          rintro e w7 ⟨rfl, hb7⟩
          rw [← HLL.out]
          have HB7 := Lib.hid (below_via hb7 HB6.out)
          have HB75 := Lib.hid (below_via hb7 HB65.out)
          clear hb7
          go_wp2_with fail
          refine (area_any wq.heap.size w7 h vh lh (HRH.out.later HB75.out) (by rw [HBD.out]; exact HOK.out)).mono ?_
          rintro e w8 ⟨rfl, hb8⟩
          rw [HBD.out, ← HLL.out]
          have HB8 := Lib.hid (below_via hb8 HB7.out)
          have HB85 := Lib.hid (below_via hb8 HB75.out)
          clear hb8
          go_wp2_with fail
          refine (rects_any wq.heap.size w8 h vh lh (HRH.out.later HB85.out) (by rw [HBD.out]; exact HOK.out)).mono ?_
          rintro e w9 ⟨v9, rfl, own9, hb9⟩
          rw [HBD.out, ← HLL.out, ← HN2.out] at own9
          obtain ⟨p9, c9, rfl, hc9, sl9, _, _⟩ := own_sl own9 HN2.out
          have HB9 := Lib.hid (below_via hb9 HB8.out)
          have HSL9 := Lib.hid sl9
          clear own9 sl9 hb9 hc9
          go_wp2_with fail
          refine (law_same_any p9 p2 n2 n2 c9 c2 L L w9 HN2.out.symm HN2.out.symm (by omega) HSL9.out (HSL4.out.later (below_via HB9.out HK.out))).mono ?_
          rintro e w10 ⟨bb, rfl, hbb, hb10⟩
          obtain rfl : bb = true := hbb.2 rfl
          have HB10 := Lib.hid (below_via hb10 HB9.out)
          clear hbb hb10
          go_wp2_with fail
          refine (wakes_any _).mono ?_
          rintro e w11 ⟨rfl, hb11⟩
          have HB11 := Lib.hid (below_via hb11 (below_via HB10.out HBQ.out))
          clear hb11
          go_wp2
          go_ret
          exact ⟨rfl, HB11.out⟩⟩
end Go.Proofs.Ytekcheccelllcaa
