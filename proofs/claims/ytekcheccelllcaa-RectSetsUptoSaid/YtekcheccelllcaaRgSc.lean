/- Layer 07: RectSets' walk, part C. -/
import Derived.Test.YtekcheccelllcaaRgSb
namespace Go.Proofs.Ytekcheccelllcaa
open Go.RowKit
set_option linter.unusedVariables false
set_option linter.unusedSimpArgs false
set_option maxRecDepth 100000 in
set_option maxHeartbeats 32000000 in
def RectSets_C (p : Option Addr) (c : Nat) (S : List (Int × R4)) (x y : Int) (w : World) (hSS : S.length ≤ 1048576) (HP : RowKit.Hid (StpAt w p S)) (HR : RowKit.Hid (∀ s ∈ S, isR s.2)) : {P : Prop // RowKit.Hid P → (RectSets_B p c S x y w hSS HP HR).1} := ⟨_, fun hP => by
  unfold RectSets_B
  set_option tactic.hygienic false in intro
  set_option tactic.hygienic false in intros
  obtain ⟨X, hX⟩ : ∃ q, q = (PC.getD i (0, 0)).1 := ⟨_, rfl⟩
  obtain ⟨Y, hY⟩ : ∃ q, q = (PC.getD i (0, 0)).2 := ⟨_, rfl⟩
  have HXY := Lib.hid (show ∀ W : World, Below w4.heap.size w4 W → pp < W.heap.size ∧ W.cell? ⟨pp, i * 2, none⟩ = some (.int .i64 X) ∧ W.cell? ⟨pp, i * 2 + 1, none⟩ = some (.int .i64 Y) from fun W hb => by
    obtain ⟨h1, h2⟩ := HPT.out.later hb
    rw [hX, hY]
    exact ⟨h1, h2 i (by rw [← HNP.out]; exact hlt)⟩)
  clear hX hY
  go_wp2
  go_loopw [17, 18] (fun bv kv wr => ∃ k : Nat, kv = .int .i64 k ∧ k ≤ nd ∧ bv = .bool (inC X Y (D.take k)) ∧ RowKit.Hid (Below w4.heap.size w4 wr)) (fun _ kv _ => nd - (intOf kv).toNat)
  case atStart => exact ⟨0, rfl, Nat.zero_le _, rfl, HI⟩
  case round =>
    clear HI
    obtain ⟨wq, rfl⟩ : ∃ wq : World, wq = wr := ⟨_, rfl⟩
    obtain ⟨k, rfl, hk, rfl, HK⟩ := hrel
    by_cases hkn : k < nd
    · have hkk : (k : Int) < (nd : Int) := by omega
      have HTK := Lib.hid (inC_take X Y D k (by rw [← HND.out]; exact hkn))
      obtain ⟨rb, ro, rfl, zr, hc⟩ := (HSD4.out.later HK.out) (by rw [← HND.out]; omega)
      have hc5 := fun j hj => hc k (by rw [← HND.out]; exact hkn) j hj
      have c0 := hc5 0 (by decide)
      have c1 := hc5 1 (by decide)
      have c2 := hc5 2 (by decide)
      have c3 := hc5 3 (by decide)
      have c4 := hc5 4 (by decide)
      clear hc hc5
      have HIR0 := Lib.hid (HDR.out (D.getD k zS) (by rw [List.getD_eq_getElem?_getD, List.getElem?_eq_getElem (by rw [← HND.out]; exact hkn)]; exact List.getElem_mem _))
      generalize D.getD k zS = s at c0 c1 c2 c3 c4 HIR0 HTK
      obtain ⟨dd, rx, ry, rw_, rh⟩ := s
      have HIR : RowKit.Hid (isR ⟨rx, ry, rw_, rh⟩) := HIR0
      clear HIR0
      simp only [stC, List.getElem?_cons_zero, List.getElem?_cons_succ, ← Nat.add_assoc, Nat.add_zero] at c0 c1 c2 c3 c4
      obtain ⟨b0, hb0⟩ : ∃ q, q = inC X Y (D.take k) := ⟨_, rfl⟩
      rw [← hb0] at HTK ⊢
      clear hb0
      have HCC := Lib.hid (And.intro c0 (And.intro c1 (And.intro c2 (And.intro c3 c4))))
      go_upto_region 36 with (fail)
      obtain ⟨p0, p1, p2⟩ := HXY.out _ HK.out
      have HSF := Lib.hid (show ∀ w' : World, Below wq.heap.size wq w' → (w'.cell? ⟨rb, ro + k * 5, none⟩ = some (.int .i64 dd) ∧ w'.cell? ⟨rb, ro + k * 5 + 1, none⟩ = some (.int .i64 rx) ∧ w'.cell? ⟨rb, ro + k * 5 + 2, none⟩ = some (.int .i64 ry) ∧ w'.cell? ⟨rb, ro + k * 5 + 3, none⟩ = some (.int .i64 rw_) ∧ w'.cell? ⟨rb, ro + k * 5 + 4, none⟩ = some (.int .i64 rh) ∧ w'.cell? ⟨pp, i * 2, none⟩ = some (.int .i64 X) ∧ w'.cell? ⟨pp, i * 2 + 1, none⟩ = some (.int .i64 Y)) from fun w' hb => by
        have e := (bcell hb).1
        obtain ⟨c0, c1, c2, c3, c4⟩ := HCC.out
        exact ⟨by rw [e _ _ zr]; exact c0, by rw [e _ _ zr]; exact c1, by rw [e _ _ zr]; exact c2, by rw [e _ _ zr]; exact c3, by rw [e _ _ zr]; exact c4, by rw [e _ _ p0]; exact p1, by rw [e _ _ p0]; exact p2⟩)
      clear c0 c1 c2 c3 c4 p1 p2 HCC
      obtain ⟨hx, hy, hw, hh⟩ := HIR.out
      simp only at hx hy hw hh
      have CM := Lib.hid (fun W => rect_Has_any rx ry rw_ rh X Y W hx hy hw hh)
      clear hx hy hw hh
      refine wp_region_noPanic ?_
      refine wp_region_lexH (fun w' => Below wq.heap.size wq w') (by kernel_rfl) (by kernel_rfl) (fun _ _ _ _ _ h => h) (Below.drew (Below.refl _ _)) ?_
      apply lexH_run (by rfl)
      · (intro w h; clear h; go_simp; try rfl)
      (try simp only [Act.put, List.setIfInBounds_toArray, List.set_cons_zero, List.set_cons_succ])
      apply lexH_run (by rfl)
      · (intro w h; clear h; go_simp; try rfl)
      (try simp only [Act.put, List.setIfInBounds_toArray, List.set_cons_zero, List.set_cons_succ])
      apply lexH_run (by rfl)
      · (intro w h; clear h; go_simp; try rfl)
      (try simp only [Act.put, List.setIfInBounds_toArray, List.set_cons_zero, List.set_cons_succ])
      apply lexH_run (by rfl)
      · (intro w h; clear h; go_simp; try rfl)
      (try simp only [Act.put, List.setIfInBounds_toArray, List.set_cons_zero, List.set_cons_succ])
      apply lexH_run (by rfl)
      · (intro w h; have FK := HSF.out w h; clear h; go_split_ands; go_simp; try rfl)
      (try simp only [Act.put, List.setIfInBounds_toArray, List.set_cons_zero, List.set_cons_succ])
      apply lexH_run (by rfl)
      · (intro w h; clear h; go_simp; try rfl)
      (try simp only [Act.put, List.setIfInBounds_toArray, List.set_cons_zero, List.set_cons_succ])
      apply lexH_run (by rfl)
      · (intro w h; clear h; go_simp; try rfl)
      (try simp only [Act.put, List.setIfInBounds_toArray, List.set_cons_zero, List.set_cons_succ])
      apply lexH_run (by rfl)
      · (intro w h; clear h; go_simp; try rfl)
      (try simp only [Act.put, List.setIfInBounds_toArray, List.set_cons_zero, List.set_cons_succ])
      apply lexH_run (by rfl)
      · (intro w h; clear h; go_simp; try rfl)
      (try simp only [Act.put, List.setIfInBounds_toArray, List.set_cons_zero, List.set_cons_succ])
      apply lexH_run (by rfl)
      · (intro w h; have FK := HSF.out w h; clear h; go_split_ands; go_simp; try rfl)
      (try simp only [Act.put, List.setIfInBounds_toArray, List.set_cons_zero, List.set_cons_succ])
      apply lexH_run (by rfl)
      · (intro w h; clear h; go_simp; try rfl)
      (try simp only [Act.put, List.setIfInBounds_toArray, List.set_cons_zero, List.set_cons_succ])
      apply lexH_run (by rfl)
      · (intro w h; clear h; go_simp; try rfl)
      (try simp only [Act.put, List.setIfInBounds_toArray, List.set_cons_zero, List.set_cons_succ])
      apply lexH_run (by rfl)
      · (intro w h; clear h; go_simp; try rfl)
      (try simp only [Act.put, List.setIfInBounds_toArray, List.set_cons_zero, List.set_cons_succ])
      apply lexH_run (by rfl)
      · (intro w h; clear h; go_simp; try rfl)
      (try simp only [Act.put, List.setIfInBounds_toArray, List.set_cons_zero, List.set_cons_succ])
      apply lexH_run (by rfl)
      · (intro w h; have FK := HSF.out w h; clear h; go_split_ands; go_simp; try rfl)
      (try simp only [Act.put, List.setIfInBounds_toArray, List.set_cons_zero, List.set_cons_succ])
      refine lexH_call (by kernel_rfl) (by rfl) (by go_simp; first | exact ⟨rfl, rfl⟩ | rfl) ?_
      intro hS
      refine (CM.out _).mono ?_
      rintro e5 w5 ⟨rfl, hb5⟩
      have HB5 := Lib.hid (below_via hb5 hS)
      refine ⟨_, rfl, HB5.out, ?_⟩
      clear hb5 hS
      (try simp only [Act.put, List.setIfInBounds_toArray, List.set_cons_zero, List.set_cons_succ])
      apply lexH_run (by rfl)
      · (intro w h; clear h; go_simp; try rfl)
      (try simp only [Act.put, List.setIfInBounds_toArray, List.set_cons_zero, List.set_cons_succ])
      apply lexH_nil
      refine NoPanic.normal ?_
      have HSF5 := HSF.out w5 HB5.out
      obtain ⟨c0, _⟩ := HSF5
      have HK5 := Lib.hid (below_via HB5.out HK.out)
      have HTK2 := Lib.hid (show stepC X Y b0 (dd, ⟨rx, ry, rw_, rh⟩) = ((decide (dd = 1) && (b0 || hasR ⟨rx, ry, rw_, rh⟩ X Y)) || (decide (dd = 2) && b0 && !hasR ⟨rx, ry, rw_, rh⟩ X Y) || (decide (dd = 3) && b0 && hasR ⟨rx, ry, rw_, rh⟩ X Y)) from rfl)
      have HT3 := Lib.hid (HTK.out.trans HTK2.out)
      clear HTK HTK2 HSF CM HB5
      generalize hasR ⟨rx, ry, rw_, rh⟩ X Y = hb at HT3 ⊢
      go_upto_region 37 with (fail)
      by_cases e1 : dd = 1
      · subst e1
        cases b0
        all_goals cases hb
        go_wp2
        all_goals go_roundw
        all_goals first | exact ⟨k + 1, by go_num, by omega, by rw [HT3.out]; first | rfl | simp [*], HK5⟩ | (simp [intOf] <;> omega)
      · have h1 : (dd == 1) = false := by simpa using e1
        by_cases e2 : dd = 2
        · subst e2
          cases b0
          all_goals cases hb
          go_wp2
          all_goals go_roundw
          all_goals first | exact ⟨k + 1, by go_num, by omega, by rw [HT3.out]; first | rfl | simp [*], HK5⟩ | (simp [intOf] <;> omega)
        · have h2 : (dd == 2) = false := by simpa using e2
          by_cases e3 : dd = 3
          · subst e3
            cases b0
            all_goals cases hb
            go_wp2
            all_goals go_roundw
            all_goals first | exact ⟨k + 1, by go_num, by omega, by rw [HT3.out]; first | rfl | simp [*], HK5⟩ | (simp [intOf] <;> omega)
          · have h3 : (dd == 3) = false := by simpa using e3
            go_wp2
            all_goals go_roundw
            all_goals first | exact ⟨k + 1, by go_num, by omega, by rw [HT3.out]; first | rfl | simp [*], HK5⟩ | (simp [intOf] <;> omega)
    · have hkk : ¬ (k : Int) < (nd : Int) := by omega
      obtain rfl : nd = k := by omega
      (repeat (rename_i zzC; revert zzC))
      revert i0 HI0 j0 HJ0 n hS HNN w1 g v0 l0 hz1 HGB HGZ wr u12 u13 u36 u37 u38 u39 u40 u41 u42 u43 u44 u45 u46 u47 u48 u49 u50 u51 u52 u53 u54 u55 u56 u57 u58 u59 u60 u61 u62 u63 u64 u65 u66 u67 u68 u69 u70 u71 u72 u73 u74 u75 u76 u77 u78 u79 u80 u81 u82 u83 u84 u85 u86 u87 u88 u89 u90 u91 u92 D A zzA zzA_1 v l HOK HIN HDR HBE pa ca pd cd w2 p2 c2 L HLL n2 hl2 HN2 w3 v3 C hz3 k0 HK0 w4 PC np hnpb HNP pp cp HPT HBW HRG4 HSL4 HSD4 HF HTOLD HHAS nd hdl HND u6 u17 u18 u20 u21 u102 u103 u104 u105 u106 u107 u171 u172 u173 u174 u175 u176 u177 u178 u179 u180 u181 u182 u183 u184 u185 u186 u187 u188 u189 u190 u191 u192 u193 u194 u195 u196 u197 u198 u199 u200 u201 u202 u203 u204 u205 u206 u207 u208 u209 u210 u211 u212 u213 wo i hi hlt hii zzB zzB_1 zzB_2 zzB_3 zzB_4 zzB_5 zzB_6 zzB_7 zzB_8 zzB_9 zzB_10 zzB_11 zzB_12 X Y HXY u19 u108 u109 u110 u111 u112 u113 u114 u115 u116 u117 u118 u119 u120 u121 u122 u123 u124 u125 u126 u127 u128 u129 u130 u131 u132 u133 u134 u135 u136 u137 u138 u139 u140 u141 u142 u143 u144 u145 u146 u147 u148 u149 u150 u151 u152 u153 u154 u155 u156 u157 u158 u159 u160 u161 u162 u163 u164 u165 u166 u167 u168 u169 u170 wq HK hk hkn hkk
      exact hP.out⟩
end Go.Proofs.Ytekcheccelllcaa
