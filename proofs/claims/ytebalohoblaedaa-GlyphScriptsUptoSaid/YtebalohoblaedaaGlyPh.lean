/- Layer 13: the whole of a pair of plans: behind what is told. -/
import Derived.Test.YtebalohoblaedaaGlyPi
namespace Go.Proofs.Ytebalohoblaedaa
open Go.RowKit
set_option linter.unusedVariables false
set_option linter.unusedSimpArgs false
set_option maxRecDepth 100000 in
set_option maxHeartbeats 32000000 in
theorem whole_B (base : Nat) (w : World) (pb : Nat) (s : PairS) (HP : RowKit.Hid (PairAt base w pb s)) (hW : s.W ≤ 4096) (hH : s.H ≤ 4096) (hn : s.ts.length + 8 ≤ 1073741824) (ht : s.told.length ≤ 1073741824) (hbw : base ≤ w.heap.size) : (whole_A base w pb s HP hW hH hn ht hbw).1 := by
  unfold whole_A
  set_option tactic.hygienic false in intro
  set_option tactic.hygienic false in intros
  have HF := Lib.hid (fun (wr : World) (c : Chg w7 wr (ST s')) => (HP7.out.rest c).cells htv2 hwv2)
  have HT := Lib.hid (fun (wr : World) (c : Chg w7 wr (ST s')) (i : Nat) (hi : i < N) => (HP7.out.rest c).tcell htv2 (hN2 ▸ hi : i < s'.told.length))
  have HWC := Lib.hid (fun (wr : World) (c : Chg w7 wr (ST s')) (i : Nat) (hi : i < N) => (HP7.out.rest c).wcell hwv2 (hN2 ▸ hi : i < s'.told.length))
  have hNN : N ≤ 1073741826 := by omega
  clear hN
  have HH2 := Lib.hid hH2
  clear hH2
  obtain ⟨j0, hj, hy0, hy1, hy2⟩ := info_parts infoStr_
  have HJ := Lib.hid (And.intro hj (And.intro hy0 (And.intro hy1 hy2)))
  clear hj hy0 hy1 hy2
  go_wp2
  go_loopw [4] (fun iv wr => ∃ i : Nat, iv = .int .i64 i ∧ i ≤ N ∧ RowKit.Hid (Below w7.heap.size w7 wr)) (fun iv _ => N - (intOf iv).toNat)
  case atStart => exact ⟨0, rfl, Nat.zero_le _, Lib.hid (Below.refl _ _)⟩
  case round =>
    obtain ⟨i, rfl, hi, HR⟩ := hrel
    obtain ⟨z0, z1, z2, c0, c2, c3⟩ := HF.out wr (Chg.of_below HR.out _)
    by_cases hlt : i < N
    · have hii : (i : Int) < (N : Int) := by omega
      have hi2 : i < s'.told.length := by omega
      obtain ⟨E, hE⟩ : ∃ E, E = s'.told.getD i zT := ⟨_, rfl⟩
      have HEM := Lib.hid (show E ∈ s'.told from hE ▸ getD_mem hi2)
      have HTE := Lib.hid (fun (w' : World) (c : Chg w7 w' (ST s')) => show w'.cell? ⟨g, i, none⟩ = some E.t from by rw [HT.out w' c i hlt, hE])
      have HKE := Lib.hid (fun (w' : World) (c : Chg w7 w' (ST s')) => show w'.cell? ⟨g6, i, none⟩ = some E.k from by rw [HWC.out w' c i hlt, hE])
      clear hE hi2
      go_upto_region 7 with (fail)
      clear z0 z1 z2 c0 c2 c3
      have HSD := Lib.hid (show Below w7.heap.size w7 wr.drew from HR.out.trans (Below.drew (Below.refl _ _)))
      have HK := Lib.hid (fun (w' : World) (h : Below w7.heap.size w7 w') => And.intro (HF.out w' (Chg.of_below h _)) (And.intro (HTE.out w' (Chg.of_below h _)) (HKE.out w' (Chg.of_below h _))))
      refine wp_region_noPanic ?_
      refine wp_region_Z (fun w' => Below w7.heap.size w7 w') 15 (by kernel_rfl) ?_
      change wpAnyZ _ _ _ _ _ _ 16 (Array.replicate 16 false) _ _
      refine wpAnyZ_take [14, 6, 5, 3, 2, 1] (i := 0) (v := ?v0) (by simp only [List.getElem?_toArray, List.getElem?_cons_succ, List.getElem?_cons_zero]; rfl) (by decide +kernel) (fun _ _ _ h => h) (by rfl) ?t0 ?s0 ?_
      case t0 => (intro w' h; clear h; go_simp; try rfl)
      case s0 => exact HSD.out
      (try simp only [Act.put, List.setIfInBounds_toArray, List.set_cons_zero, List.set_cons_succ])
      refine wpAnyZ_take [14, 6, 5, 3, 2] (i := 1) (v := ?v1) (by simp only [List.getElem?_toArray, List.getElem?_cons_succ, List.getElem?_cons_zero]; rfl) (by decide +kernel) (fun _ _ _ h => h) (by rfl) ?t1 ?s1 ?_
      case t1 => (intro w' h; have FK := HK.out w' h; clear h; go_split_ands; go_simp; try rfl)
      case s1 => exact HSD.out
      (try simp only [Act.put, List.setIfInBounds_toArray, List.set_cons_zero, List.set_cons_succ])
      refine wpAnyZ_take [14, 6, 5, 3] (i := 2) (v := ?v2) (by simp only [List.getElem?_toArray, List.getElem?_cons_succ, List.getElem?_cons_zero]; rfl) (by decide +kernel) (fun _ _ _ h => h) (by rfl) ?t2 ?s2 ?_
      case t2 => (intro w' h; clear h; go_simp; try rfl)
      case s2 => exact HSD.out
      (try simp only [Act.put, List.setIfInBounds_toArray, List.set_cons_zero, List.set_cons_succ])
      refine wpAnyZ_take [14, 6, 5] (i := 3) (v := ?v3) (by simp only [List.getElem?_toArray, List.getElem?_cons_succ, List.getElem?_cons_zero]; rfl) (by decide +kernel) (fun _ _ _ h => h) (by rfl) ?t3 ?s3 ?_
      case t3 => (intro w' h; have FK := HK.out w' h; clear h; go_split_ands; go_simp; try rfl)
      case s3 => exact HSD.out
      (try simp only [Act.put, List.setIfInBounds_toArray, List.set_cons_zero, List.set_cons_succ])
      refine wpAnyZ_take [14, 6, 5] (i := 4) (v := ?v4) (by simp only [List.getElem?_toArray, List.getElem?_cons_succ, List.getElem?_cons_zero]; rfl) (by decide +kernel) (fun _ _ _ h => h) (by rfl) ?t4 ?s4 ?_
      case t4 => (intro w' h; clear h; go_simp; try rfl)
      case s4 => exact HSD.out
      (try simp only [Act.put, List.setIfInBounds_toArray, List.set_cons_zero, List.set_cons_succ])
      refine wpAnyZ_take [14, 6] (i := 5) (v := ?v5) (by simp only [List.getElem?_toArray, List.getElem?_cons_succ, List.getElem?_cons_zero]; rfl) (by decide +kernel) (fun _ _ _ h => h) (by rfl) ?t5 ?s5 ?_
      case t5 => (intro w' h; have FK := HK.out w' h; clear h; go_split_ands; go_simp; try rfl)
      case s5 => exact HSD.out
      (try simp only [Act.put, List.setIfInBounds_toArray, List.set_cons_zero, List.set_cons_succ])
      refine wpAnyZ_take [14] (i := 6) (v := ?v6) (by simp only [List.getElem?_toArray, List.getElem?_cons_succ, List.getElem?_cons_zero]; rfl) (by decide +kernel) (fun _ _ _ h => h) (by rfl) ?t6 ?s6 ?_
      case t6 => (intro w' h; have FK := HK.out w' h; clear h; go_split_ands; go_simp; try rfl)
      case s6 => exact HSD.out
      (try simp only [Act.put, List.setIfInBounds_toArray, List.set_cons_zero, List.set_cons_succ])
      refine wpAnyZ_take [14, 13, 12, 10, 9, 8] (i := 7) (v := ?v7) (by simp only [List.getElem?_toArray, List.getElem?_cons_succ, List.getElem?_cons_zero]; rfl) (by decide +kernel) (fun _ _ _ h => h) (by rfl) ?t7 ?s7 ?_
      case t7 => (intro w' h; clear h; go_simp; try rfl)
      case s7 => exact HSD.out
      (try simp only [Act.put, List.setIfInBounds_toArray, List.set_cons_zero, List.set_cons_succ])
      refine wpAnyZ_take [14, 13, 12, 10, 9] (i := 8) (v := ?v8) (by simp only [List.getElem?_toArray, List.getElem?_cons_succ, List.getElem?_cons_zero]; rfl) (by decide +kernel) (fun _ _ _ h => h) (by rfl) ?t8 ?s8 ?_
      case t8 => (intro w' h; have FK := HK.out w' h; clear h; go_split_ands; go_simp; try rfl)
      case s8 => exact HSD.out
      (try simp only [Act.put, List.setIfInBounds_toArray, List.set_cons_zero, List.set_cons_succ])
      refine wpAnyZ_take [14, 13, 12, 10] (i := 9) (v := ?v9) (by simp only [List.getElem?_toArray, List.getElem?_cons_succ, List.getElem?_cons_zero]; rfl) (by decide +kernel) (fun _ _ _ h => h) (by rfl) ?t9 ?s9 ?_
      case t9 => (intro w' h; clear h; go_simp; try rfl)
      case s9 => exact HSD.out
      (try simp only [Act.put, List.setIfInBounds_toArray, List.set_cons_zero, List.set_cons_succ])
      refine wpAnyZ_take [14, 13, 12] (i := 10) (v := ?v10) (by simp only [List.getElem?_toArray, List.getElem?_cons_succ, List.getElem?_cons_zero]; rfl) (by decide +kernel) (fun _ _ _ h => h) (by rfl) ?t10 ?s10 ?_
      case t10 => (intro w' h; have FK := HK.out w' h; clear h; go_split_ands; go_simp; try rfl)
      case s10 => exact HSD.out
      (try simp only [Act.put, List.setIfInBounds_toArray, List.set_cons_zero, List.set_cons_succ])
      refine wpAnyZ_take [14, 13, 12] (i := 11) (v := ?v11) (by simp only [List.getElem?_toArray, List.getElem?_cons_succ, List.getElem?_cons_zero]; rfl) (by decide +kernel) (fun _ _ _ h => h) (by rfl) ?t11 ?s11 ?_
      case t11 => (intro w' h; clear h; go_simp; try rfl)
      case s11 => exact HSD.out
      (try simp only [Act.put, List.setIfInBounds_toArray, List.set_cons_zero, List.set_cons_succ])
      refine wpAnyZ_take [14, 13] (i := 12) (v := ?v12) (by simp only [List.getElem?_toArray, List.getElem?_cons_succ, List.getElem?_cons_zero]; rfl) (by decide +kernel) (fun _ _ _ h => h) (by rfl) ?t12 ?s12 ?_
      case t12 => (intro w' h; have FK := HK.out w' h; clear h; go_split_ands; go_simp; try rfl)
      case s12 => exact HSD.out
      (try simp only [Act.put, List.setIfInBounds_toArray, List.set_cons_zero, List.set_cons_succ])
      refine wpAnyZ_take [14] (i := 13) (v := ?v13) (by simp only [List.getElem?_toArray, List.getElem?_cons_succ, List.getElem?_cons_zero]; rfl) (by decide +kernel) (fun _ _ _ h => h) (by rfl) ?t13 ?s13 ?_
      case t13 => (intro w' h; have FK := HK.out w' h; clear h; go_split_ands; go_simp; try rfl)
      case s13 => exact HSD.out
      (try simp only [Act.put, List.setIfInBounds_toArray, List.set_cons_zero, List.set_cons_succ])
      have HPr := Lib.hid (HP7.out.later HSD.out)
      refine wpAnyZ_one (i := 14) (by decide +kernel) ?_
      refine wpOpK_call (by simp only [List.getElem?_toArray, List.getElem?_cons_succ, List.getElem?_cons_zero]; rfl) (by rfl) (by go_simp; first | exact ⟨rfl, rfl⟩ | rfl) ?_
      refine (same_strs base base E.x.length E.x _ _ wr.drew (HPr.out.te _ HEM.out) (HPr.out.we _ HEM.out) (HPr.out.tx _ HEM.out).1 (HPr.out.tx _ HEM.out).2).mono ?_
      rintro e wa ⟨rfl, hs⟩
      have HSE := Lib.hid (show Below w7.heap.size w7 wa from below_via hs HSD.out)
      clear hs
      refine ⟨_, rfl, .inr HSE.out, ?_⟩
      (try simp only [Act.put, List.setIfInBounds_toArray, List.set_cons_zero, List.set_cons_succ])
      refine wpAnyZ_one (i := 15) (by decide +kernel) ?_
      refine wpOpK_value (v := .bool false) (w' := wa) (by simp only [List.getElem?_toArray, List.getElem?_cons_succ, List.getElem?_cons_zero]; rfl) (by rfl) ?m15 ⟨.inl rfl, ?_⟩
      case m15 => (go_simp; try rfl)
      (try simp only [Act.put, List.setIfInBounds_toArray, List.set_cons_zero, List.set_cons_succ])
      refine wpAnyZ_done (by kernel_rfl) (NoPanic.normal ?_) _
      go_wp2
      go_roundw
      case rel => exact ⟨i + 1, by go_num, by omega, HSE⟩
      case measure => simp [intOf] <;> omega
    · have hii : ¬ (i : Int) < (N : Int) := by omega
      obtain rfl : N = i := by omega
      have MK0 := Lib.hid (MkP.start HP7.out HR.out)
      obtain ⟨wo, rfl⟩ : ∃ wo : World, wo = wr := ⟨_, rfl⟩
      go_wp2
      clear z0 z1 z2 c0 c2 c3 HR hi hii hlt
      go_loopw [5] (fun iv wr => ∃ i : Nat, iv = .int .i64 i ∧ i ≤ N ∧ RowKit.Hid (MkP base w7 s' i 0 wr)) (fun iv _ => N - (intOf iv).toNat)
      case atStart => exact ⟨0, rfl, Nat.zero_le _, MK0⟩
      case round =>
        clear MK0
        obtain ⟨i, rfl, hi, MK⟩ := hrel
        obtain ⟨z0, z1, z2, c0, c2, c3⟩ := HF.out wr MK.out.chg
        by_cases hlt : i < N
        · have hii : (i : Int) < (N : Int) := by omega
          have hi2 : i < s'.told.length := by omega
          obtain ⟨pa, ca, hta⟩ := row_slice (HP7.out.te _ (getD_mem hi2))
          obtain ⟨n, hnx⟩ : ∃ n, n = (s'.told.getD i zT).x.length := ⟨_, rfl⟩
          rw [← hnx] at hta
          have hn4 : n ≤ 4096 := by rw [hnx]; exact (HP7.out.tx _ (getD_mem hi2)).2
          have HNX := Lib.hid hnx
          clear hnx
          have HTI := Lib.hid (fun (w' : World) (c : Chg w7 w' (ST s')) => show w'.cell? ⟨g, i, none⟩ = some (.slice pa n ca) from by rw [HT.out w' c i hlt, hta])
          go_upto_region 12 with (fail)
          clear z0 z1 z2 c0 c2 c3
          obtain ⟨wo2, rfl⟩ : ∃ wo : World, wo = wr := ⟨_, rfl⟩
          go_wp2
          go_loopw [6] (fun iv wr => ∃ k : Nat, iv = .int .i64 k ∧ k ≤ n ∧ RowKit.Hid (MkP base w7 s' i k wr)) (fun iv _ => n - (intOf iv).toNat)
          case atStart => exact ⟨0, rfl, Nat.zero_le _, MK⟩
          case round =>
            clear MK
            obtain ⟨k, rfl, hk, MK⟩ := hrel
            obtain ⟨z0, z1, z2, c0, c2, c3⟩ := HF.out wr MK.out.chg
            have ct := HTI.out wr MK.out.chg
            by_cases hkl : k < n
            · have hkk : (k : Int) < (n : Int) := by omega
              have OWi := MK.out.fam.own i hi2
              simp only [RT] at OWi
              rw [hta, ← HNX.out] at OWi
              obtain ⟨ga, rfl⟩ : ∃ g, pa = some ⟨g, 0, none⟩ := by
                rcases row_form OWi with ⟨_, h, _⟩ | ⟨g, c, h, _⟩
                · omega
                · injection h with e1 e2 e3
                  exact ⟨g, e1⟩
              have HOI := Lib.hid OWi
              clear OWi
              go_upto_region 15 with (fail)
              clear z0 z1 z2 c0 c2 c3 ct
              have HSD := Lib.hid (show Chg w7 wr.drew (ST s') from MK.out.chg.trans (Chg.of_below (Below.drew (Below.refl _ _)) (ST s')) (fun k hk => .inl hk))
              have HK := Lib.hid (fun (w' : World) (h : Chg w7 w' (ST s')) => And.intro (HF.out w' h) (HTI.out w' h))
              refine wp_region_noPanic ?_
              refine wp_region_Z (fun w' => Chg w7 w' (ST s')) 16 (by kernel_rfl) ?_
              change wpAnyZ _ _ _ _ _ _ 17 (Array.replicate 17 false) _ _
              refine wpAnyZ_take [15, 6, 5, 3, 2, 1] (i := 0) (v := ?vb0) (by simp only [List.getElem?_toArray, List.getElem?_cons_succ, List.getElem?_cons_zero]; rfl) (by decide +kernel) (fun _ _ _ h => h) (by rfl) ?tb0 ?sb0 ?_
              case tb0 => (intro w' h; clear h; go_simp; try rfl)
              case sb0 => exact HSD.out
              (try simp only [Act.put, List.setIfInBounds_toArray, List.set_cons_zero, List.set_cons_succ])
              refine wpAnyZ_take [15, 6, 5, 3, 2] (i := 1) (v := ?vb1) (by simp only [List.getElem?_toArray, List.getElem?_cons_succ, List.getElem?_cons_zero]; rfl) (by decide +kernel) (fun _ _ _ h => h) (by rfl) ?tb1 ?sb1 ?_
              case tb1 => (intro w' h; have FK := HK.out w' h; clear h; go_split_ands; go_simp; try rfl)
              case sb1 => exact HSD.out
              (try simp only [Act.put, List.setIfInBounds_toArray, List.set_cons_zero, List.set_cons_succ])
              refine wpAnyZ_take [15, 6, 5, 3] (i := 2) (v := ?vb2) (by simp only [List.getElem?_toArray, List.getElem?_cons_succ, List.getElem?_cons_zero]; rfl) (by decide +kernel) (fun _ _ _ h => h) (by rfl) ?tb2 ?sb2 ?_
              case tb2 => (intro w' h; clear h; go_simp; try rfl)
              case sb2 => exact HSD.out
              (try simp only [Act.put, List.setIfInBounds_toArray, List.set_cons_zero, List.set_cons_succ])
              refine wpAnyZ_take [15, 6, 5] (i := 3) (v := ?vb3) (by simp only [List.getElem?_toArray, List.getElem?_cons_succ, List.getElem?_cons_zero]; rfl) (by decide +kernel) (fun _ _ _ h => h) (by rfl) ?tb3 ?sb3 ?_
              case tb3 => (intro w' h; have FK := HK.out w' h; clear h; go_split_ands; go_simp; try rfl)
              case sb3 => exact HSD.out
              (try simp only [Act.put, List.setIfInBounds_toArray, List.set_cons_zero, List.set_cons_succ])
              refine wpAnyZ_take [15, 6, 5] (i := 4) (v := ?vb4) (by simp only [List.getElem?_toArray, List.getElem?_cons_succ, List.getElem?_cons_zero]; rfl) (by decide +kernel) (fun _ _ _ h => h) (by rfl) ?tb4 ?sb4 ?_
              case tb4 => (intro w' h; clear h; go_simp; try rfl)
              case sb4 => exact HSD.out
              (try simp only [Act.put, List.setIfInBounds_toArray, List.set_cons_zero, List.set_cons_succ])
              refine wpAnyZ_take [15, 6] (i := 5) (v := ?vb5) (by simp only [List.getElem?_toArray, List.getElem?_cons_succ, List.getElem?_cons_zero]; rfl) (by decide +kernel) (fun _ _ _ h => h) (by rfl) ?tb5 ?sb5 ?_
              case tb5 => (intro w' h; have FK := HK.out w' h; clear h; go_split_ands; go_simp; try rfl)
              case sb5 => exact HSD.out
              (try simp only [Act.put, List.setIfInBounds_toArray, List.set_cons_zero, List.set_cons_succ])
              refine wpAnyZ_take [15] (i := 6) (v := ?vb6) (by simp only [List.getElem?_toArray, List.getElem?_cons_succ, List.getElem?_cons_zero]; rfl) (by decide +kernel) (fun _ _ _ h => h) (by rfl) ?tb6 ?sb6 ?_
              case tb6 => (intro w' h; have FK := HK.out w' h; clear h; go_split_ands; go_simp; try rfl)
              case sb6 => exact HSD.out
              (try simp only [Act.put, List.setIfInBounds_toArray, List.set_cons_zero, List.set_cons_succ])
              refine wpAnyZ_take [15] (i := 7) (v := ?vb7) (by simp only [List.getElem?_toArray, List.getElem?_cons_succ, List.getElem?_cons_zero]; rfl) (by decide +kernel) (fun _ _ _ h => h) (by rfl) ?tb7 ?sb7 ?_
              case tb7 => (intro w' h; clear h; go_simp; try rfl)
              case sb7 => exact HSD.out
              (try simp only [Act.put, List.setIfInBounds_toArray, List.set_cons_zero, List.set_cons_succ])
              refine wpAnyZ_take [14, 13, 12, 9] (i := 8) (v := ?vb8) (by simp only [List.getElem?_toArray, List.getElem?_cons_succ, List.getElem?_cons_zero]; rfl) (by decide +kernel) (fun _ _ _ h => h) (by rfl) ?tb8 ?sb8 ?_
              case tb8 => (intro w' h; clear h; go_simp; try rfl)
              case sb8 => exact HSD.out
              (try simp only [Act.put, List.setIfInBounds_toArray, List.set_cons_zero, List.set_cons_succ])
              refine wpAnyZ_take [14, 13, 12] (i := 9) (v := ?vb9) (by simp only [List.getElem?_toArray, List.getElem?_cons_succ, List.getElem?_cons_zero]; rfl) (by decide +kernel) (fun _ _ _ h => h) (by rfl) ?tb9 ?sb9 ?_
              case tb9 => (intro w' h; clear h; go_simp; try rfl)
              case sb9 => exact HSD.out
              (try simp only [Act.put, List.setIfInBounds_toArray, List.set_cons_zero, List.set_cons_succ])
              refine wpAnyZ_take [14, 13, 12, 11] (i := 10) (v := ?vb10) (by simp only [List.getElem?_toArray, List.getElem?_cons_succ, List.getElem?_cons_zero]; rfl) (by decide +kernel) (fun _ _ _ h => h) (by rfl) ?tb10 ?sb10 ?_
              case tb10 => (intro w' h; clear h; go_simp; try rfl)
              case sb10 => exact HSD.out
              (try simp only [Act.put, List.setIfInBounds_toArray, List.set_cons_zero, List.set_cons_succ])
              refine wpAnyZ_take [14, 13, 12] (i := 11) (v := ?vb11) (by simp only [List.getElem?_toArray, List.getElem?_cons_succ, List.getElem?_cons_zero]; rfl) (by decide +kernel) (fun _ _ _ h => h) (by rfl) ?tb11 ?sb11 ?_
              case tb11 => (intro w' h; clear h; go_simp; try rfl)
              case sb11 => exact HSD.out
              (try simp only [Act.put, List.setIfInBounds_toArray, List.set_cons_zero, List.set_cons_succ])
              obtain ⟨wq, hwq⟩ : ∃ z, z = wr.drew.alloc (.cells #[.int .u8 (IntKind.u8.wrap (i : Int)), .int .u8 (IntKind.u8.wrap (k : Int))] 5) := ⟨_, rfl⟩
              have HBQ := Lib.hid (show Below wr.heap.size wr wq from by rw [hwq]; exact below_al (Below.drew (Below.refl _ _)) _)
              have HXQ := Lib.hid (show wq.heap[wr.heap.size]? = some (.cells #[.int .u8 (IntKind.u8.wrap (i : Int)), .int .u8 (IntKind.u8.wrap (k : Int))] 5 (0, 0)) from by rw [hwq]; exact heap_alloc_new _ _)
              have HSQ := Lib.hid (show Chg w7 wq (ST s') from MK.out.chg.trans (Chg.of_below HBQ.out (ST s')) (fun k hk => .inl hk))
              have HCQ := Lib.hid hwq
              clear hwq
              refine wpAnyZ_one (i := 12) (by decide +kernel) ?_
              refine wpOpK_value (v := .slice (some ⟨wr.heap.size, 0, none⟩) 2 2) (w' := wq) (by simp only [List.getElem?_toArray, List.getElem?_cons_succ, List.getElem?_cons_zero]; rfl) (by rfl) ?mb12 ⟨.inr HSQ.out, ?_⟩
              case mb12 => (rw [HCQ.out]; go_simp; try rfl)
              (try simp only [Act.put, List.setIfInBounds_toArray, List.set_cons_zero, List.set_cons_succ])
              have hcv := conv_mark HXQ.out
              refine wpAnyZ_one (i := 13) (by decide +kernel) ?_
              refine wpOpK_value (v := .string ⟨#[UInt8.ofNat i, UInt8.ofNat k]⟩) (w' := wq) (by simp only [List.getElem?_toArray, List.getElem?_cons_succ, List.getElem?_cons_zero]; rfl) (by rfl) ?mb13 ⟨.inr HSQ.out, ?_⟩
              case mb13 => (go_simp; try rfl)
              (try simp only [Act.put, List.setIfInBounds_toArray, List.set_cons_zero, List.set_cons_succ])
              clear hcv
              refine wpAnyZ_take [] (i := 14) (v := ?vb14) (by simp only [List.getElem?_toArray, List.getElem?_cons_succ, List.getElem?_cons_zero]; rfl) (by decide +kernel) (fun _ _ _ h => h) (by rfl) ?tb14 ?sb14 ?_
              case tb14 => (intro w' h; clear h; go_simp; try rfl)
              case sb14 => exact HSQ.out
              (try simp only [Act.put, List.setIfInBounds_toArray, List.set_cons_zero, List.set_cons_succ])
              refine wpAnyZ_take [] (i := 15) (v := ?vb15) (by simp only [List.getElem?_toArray, List.getElem?_cons_succ, List.getElem?_cons_zero]; rfl) (by decide +kernel) (fun _ _ _ h => h) (by rfl) ?tb15 ?sb15 ?_
              case tb15 => (intro w' h; clear h; go_simp; try rfl)
              case sb15 => exact HSQ.out
              (try simp only [Act.put, List.setIfInBounds_toArray, List.set_cons_zero, List.set_cons_succ])
              obtain ⟨uq, zq, hzq, hcq⟩ : ∃ uq, ga < wq.heap.size ∧ wq.frozen? ⟨ga, k, none⟩ = false ∧ wq.cell? ⟨ga, k, none⟩ = some uq := by
                have R := row_later HOI.out HBQ.out
                have hc := row_cells R k _ (cont_get (s'.told.getD i zT).x i i k k (by rw [← HNX.out]; exact hkl))
                rw [Nat.zero_add] at hc
                exact ⟨_, (row_lt R ga rfl).1, R.frozenAt k, hc⟩
              have HMK2 := Lib.hid ((MK.out.later HBQ.out).set (i := i) (by have := hN2; omega) (g := ga) (n := n) (c := ca) hta HNX.out hkl)
              refine wpAnyZ_one (i := 16) (by decide +kernel) ?_
              refine wpOpK_skip (w' := wq.setCell ⟨ga, k, none⟩ (mkS i k)) (by simp only [List.getElem?_toArray, List.getElem?_cons_succ, List.getElem?_cons_zero]; rfl) (by rfl) ?mb16 ⟨.inl rfl, ?_⟩
              case mb16 => (go_simp; try rfl)
              (try simp only [Act.put, List.setIfInBounds_toArray, List.set_cons_zero, List.set_cons_succ])
              refine wpAnyZ_done (by kernel_rfl) (NoPanic.normal ?_) _
              obtain ⟨wz, hwz⟩ : ∃ z, z = wq.setCell ⟨ga, k, none⟩ (mkS i k) := ⟨_, rfl⟩
              have hwz2 : wq.setCell ⟨ga, k, none⟩ (.string ⟨#[103, 111, 110, 101, UInt8.ofNat i, UInt8.ofNat k]⟩) = wz := hwz.symm
              rw [← hwz] at HMK2 ⊢
              clear hwz hwz2 hcq zq hzq HSQ HCQ HXQ HBQ HOI HSD HK
              go_wp2
              go_roundw
              case rel => exact ⟨k + 1, by go_num, by omega, HMK2⟩
              case measure => simp [intOf] <;> omega
            · have hkk : ¬ (k : Int) < (n : Int) := by omega
              obtain rfl : k = n := by omega
              have HMN := Lib.hid (MK.out.next (show k = (s'.told.getD i zT).x.length from HNX.out))
              clear MK
              go_wp2
              go_roundw
              case rel => exact ⟨i + 1, by go_num, by omega, HMN⟩
              case measure => simp [intOf] <;> omega
        · have hii : ¬ (i : Int) < (N : Int) := by omega
          obtain rfl : N = i := by omega
          have GP0 := Lib.hid (MkP.grown (wm := wr) (show MkP base w7 s' s'.told.length 0 wr from by rw [hN2]; exact MK.out) (Nat.le_trans hb7 MK.out.chg.size))
          obtain ⟨wm, hwm⟩ : ∃ z : World, z = wr := ⟨_, rfl⟩
          rw [← hwm] at GP0 ⊢
          clear MK z0 z1 z2 c0 c2 c3 hi hii hlt
          have gc0 := GP0.out.chg
          obtain ⟨z0, z1, z2, c0, c2, c3⟩ := HF.out wm gc0
          clear gc0 hwm
          go_wp2
          clear z0 z1 z2 c0 c2 c3
          go_loopw [7] (fun iv wr => ∃ i : Nat, iv = .int .i64 i ∧ i ≤ N ∧ RowKit.Hid (GrP base w7 wm s' i wr)) (fun iv _ => N - (intOf iv).toNat)
          case atStart => exact ⟨0, rfl, Nat.zero_le _, GP0⟩
          case round =>
            clear GP0
            obtain ⟨i, rfl, hi, GP⟩ := hrel
            obtain ⟨z0, z1, z2, c0, c2, c3⟩ := HF.out wr GP.out.chg
            by_cases hlt : i < N
            · have hii : (i : Int) < (N : Int) := by omega
              have hi2 : i < s'.told.length := by omega
              obtain ⟨pa, ca, hta⟩ := row_slice (HP7.out.te _ (getD_mem hi2))
              have hnl := (HP7.out.tx _ (getD_mem hi2)).2
              obtain ⟨n, hnx⟩ : ∃ n, n = (s'.told.getD i zT).x.length := ⟨_, rfl⟩
              rw [← hnx] at hta hnl
              have ct : wr.cell? ⟨g, i, none⟩ = some (.slice pa n ca) := by rw [HT.out wr GP.out.chg i hlt, hta]
              have GI := Lib.hid (GP.out.inner hi2)
              rw [hta] at GI
              have HNX := Lib.hid hnx
              have HI2 := Lib.hid hi2
              clear hnx hi2 hta GP
              obtain ⟨wo, hwo⟩ : ∃ z : World, z = wr := ⟨_, rfl⟩
              rw [← hwo] at GI ct z0 z1 z2 c0 c2 c3 ⊢
              clear hwo
              go_wp2
              clear z0 z1 z2 c0 c2 c3 ct
              go_loopw [8, 9] (fun G qv wr => ∃ (q : Nat) (T : List Value), qv = .int .i64 q ∧ q ≤ 70 ∧ RowKit.Hid (GrI base w7 wm s' i q G T wr)) (fun _ qv _ => 70 - (intOf qv).toNat)
              case atStart => exact ⟨0, [], rfl, by omega, GI⟩
              case round =>
                clear GI
                obtain ⟨q, T, rfl, hq, GI⟩ := hrel
                by_cases hql : q < 70
                · have hqq : (q : Int) < 70 := by omega
                  obtain ⟨wa, hwa⟩ : ∃ z, z = wr.alloc (.cells #[.string ⟨#[109, 111, 114, 101]⟩] 9) := ⟨_, rfl⟩
                  have GA := Lib.hid (GI.out.later (w' := wa) (by rw [hwa]; exact below_al (Below.refl _ _) _))
                  have hza : wa.heap.size = wr.heap.size + 1 := by rw [hwa]; simp
                  have HNW := Lib.hid (show ∀ j u, [Value.string ⟨#[109, 111, 114, 101]⟩][j]? = some u → wa.cell? (Addr.add ⟨wr.heap.size, 0, none⟩ j) = some u from by rw [hwa]; exact World.news_of_block (cs := #[.string ⟨#[109, 111, 114, 101]⟩]) (t := 9) (fr := (0, 0)) (heap_alloc_new _ _))
                  have HZB := Lib.hid (show base ≤ wa.heap.size from by have h1 := GA.out.p.chg.size; omega)
                  have how := GA.out.own
                  rw [← HNX.out] at how
                  obtain ⟨XC, hXC⟩ : ∃ X, X = cont (s'.told.getD i zT).x i s'.told.length 0 ++ T := ⟨_, rfl⟩
                  rw [← hXC] at how
                  have HOW := Lib.hid how
                  have HXC := Lib.hid hXC
                  clear how hXC
                  have HWA := Lib.hid hwa
                  clear hwa GI
                  go_upto_region 23 with (fail)
                  go_wp2_with (first | (rw [← HWA.out]; at_builtin; go_must (refine append_keep rfl (.tmp 129) (.tmp 130) 67 rfl base 9 j0 (.string ⟨#[]⟩) 1 16 Try.underlying67 HJ.out.1 HJ.out.2.1 HJ.out.2.2.1 HJ.out.2.2.2 rfl (by decide) _ (n + q) _ rfl HOW.out ⟨wr.heap.size, 0, none⟩ 1 1 [.string ⟨#[109, 111, 114, 101]⟩] rfl rfl HNW.out ?e1 ?e2 ?e3 HZB.out ?_)))
                  case e1 => (intro u hu; simp at hu; subst hu; rfl)
                  case e2 => unfold maxLen; omega
                  case e3 => omega
                  intro v2 w2 own2 gr2 loc2
                  have GI2 := Lib.hid (GA.out.app HI2.out gr2 (by rw [← HNX.out, ← HXC.out]; exact own2) (by rw [hza]; exact loc2))
                  clear own2 gr2 loc2 HOW HZB HNW HWA GA
                  go_wp2
                  go_roundw
                  case rel => exact ⟨q + 1, _, by go_num, by omega, GI2⟩
                  case measure => simp [intOf] <;> omega
                · have hqq : ¬ (q : Int) < 70 := by omega
                  have HG := Lib.hid GI.out.p
                  clear GI
                  go_wp2
                  go_roundw
                  case rel => exact ⟨i + 1, by go_num, by omega, HG⟩
                  case measure => simp [intOf] <;> omega
            · have hii : ¬ (i : Int) < (N : Int) := by omega
              obtain rfl : N = i := by omega
              obtain ⟨wf, hwf⟩ : ∃ z : World, z = wr := ⟨_, rfl⟩
              rw [← hwf] at GP z0 z1 z2 c0 c2 c3 ⊢
              clear hwf hi hii hlt
              go_wp2
              clear z0 z1 z2 c0 c2 c3
              go_loopw [10] (fun iv wr => ∃ i : Nat, iv = .int .i64 i ∧ i ≤ N ∧ RowKit.Hid (GrP base w7 wm s' N wr)) (fun iv _ => N - (intOf iv).toNat)
              case atStart => exact ⟨0, rfl, Nat.zero_le _, GP⟩
              case round =>
                clear GP
                obtain ⟨i, rfl, hi, GP⟩ := hrel
                obtain ⟨z0, z1, z2, c0, c2, c3⟩ := HF.out wr GP.out.chg
                by_cases hlt : i < N
                · have hii : (i : Int) < (N : Int) := by omega
                  have hi2 : i < s'.told.length := by omega
                  obtain ⟨pa, ca, hta⟩ := row_slice (HP7.out.te _ (getD_mem hi2))
                  obtain ⟨n, hnx⟩ : ∃ n, n = (s'.told.getD i zT).x.length := ⟨_, rfl⟩
                  rw [← hnx] at hta
                  have hn4 : n ≤ 4096 := by rw [hnx]; exact (HP7.out.tx _ (getD_mem hi2)).2
                  have HNX := Lib.hid hnx
                  have HTI := Lib.hid (fun (w' : World) (c : Chg w7 w' (ST s')) => show w'.cell? ⟨g, i, none⟩ = some (.slice pa n ca) from by rw [HT.out w' c i hlt, hta])
                  have HPA := Lib.hid (show ∀ k, k < n → ∃ ga, pa = some ⟨ga, 0, none⟩ ∧ ga < wm.heap.size ∧ ∀ wx, GrP base w7 wm s' N wx → wx.cell? ⟨ga, k, none⟩ = some (mkS i k) from fun k hk => by
                    have OWi := GP.out.f.own i hi2
                    simp only [RT] at OWi
                    rw [hta, ← hnx] at OWi
                    obtain ⟨ga, hga⟩ : ∃ g, pa = some ⟨g, 0, none⟩ := by
                      rcases row_form OWi with ⟨_, h, _⟩ | ⟨g, c, h, _⟩
                      · omega
                      · injection h with e1 e2 e3
                        exact ⟨g, e1⟩
                    refine ⟨ga, hga, (row_lt OWi ga (by rw [hga]; rfl)).1, fun wx hx => ?_⟩
                    have := hx.cell (i := i) (j := k) (g := ga) hi2 (by rw [hta, hga]; rfl) (by rw [← hnx]; exact hk)
                    exact this)
                  clear hnx hta hi2
                  go_upto_region 27 with (fail)
                  clear z0 z1 z2 c0 c2 c3
                  obtain ⟨wo2, hwo2⟩ : ∃ wo : World, wo = wr := ⟨_, rfl⟩
                  rw [← hwo2] at GP ⊢
                  clear hwo2
                  go_wp2
                  go_loopw [11] (fun iv wr => ∃ k : Nat, iv = .int .i64 k ∧ k ≤ n ∧ RowKit.Hid (GrP base w7 wm s' N wr)) (fun iv _ => n - (intOf iv).toNat)
                  case atStart => exact ⟨0, rfl, Nat.zero_le _, GP⟩
                  case round =>
                    clear GP
                    obtain ⟨k, rfl, hk, GP⟩ := hrel
                    obtain ⟨z0, z1, z2, c0, c2, c3⟩ := HF.out wr GP.out.chg
                    have ct := HTI.out wr GP.out.chg
                    by_cases hkl : k < n
                    · have hkk : (k : Int) < (n : Int) := by omega
                      obtain ⟨ga, rfl, hgz, hgc⟩ := HPA.out k hkl
                      have HGC := Lib.hid hgc
                      clear hgc
                      go_upto_region 30 with (fail)
                      clear z0 z1 z2 c0 c2 c3 ct
                      have HSD := Lib.hid (show Below wr.heap.size wr wr.drew from Below.drew (Below.refl _ _))
                      have HK := Lib.hid (fun (w' : World) (h : Below wr.heap.size wr w') => And.intro (HF.out w' (GP.out.later h).chg) (And.intro (HTI.out w' (GP.out.later h).chg) (And.intro (HGC.out w' (GP.out.later h)) (show ga < w'.heap.size from by have := (GP.out.later h).g.sz; omega))))
                      refine wp_region_noPanic ?_
                      refine wp_region_Z (fun w' => Below wr.heap.size wr w') 17 (by kernel_rfl) ?_
                      change wpAnyZ _ _ _ _ _ _ 18 (Array.replicate 18 false) _ _
                      refine wpAnyZ_take [9, 8, 6, 5, 3, 2, 1] (i := 0) (v := ?vc0) (by simp only [List.getElem?_toArray, List.getElem?_cons_succ, List.getElem?_cons_zero]; rfl) (by decide +kernel) (fun _ _ _ h => h) (by rfl) ?tc0 ?sc0 ?_
                      case tc0 => (intro w' h; clear h; go_simp; try rfl)
                      case sc0 => exact HSD.out
                      (try simp only [Act.put, List.setIfInBounds_toArray, List.set_cons_zero, List.set_cons_succ])
                      refine wpAnyZ_take [9, 8, 6, 5, 3, 2] (i := 1) (v := ?vc1) (by simp only [List.getElem?_toArray, List.getElem?_cons_succ, List.getElem?_cons_zero]; rfl) (by decide +kernel) (fun _ _ _ h => h) (by rfl) ?tc1 ?sc1 ?_
                      case tc1 => (intro w' h; have FK := HK.out w' h; clear h; go_split_ands; go_simp; try rfl)
                      case sc1 => exact HSD.out
                      (try simp only [Act.put, List.setIfInBounds_toArray, List.set_cons_zero, List.set_cons_succ])
                      refine wpAnyZ_take [9, 8, 6, 5, 3] (i := 2) (v := ?vc2) (by simp only [List.getElem?_toArray, List.getElem?_cons_succ, List.getElem?_cons_zero]; rfl) (by decide +kernel) (fun _ _ _ h => h) (by rfl) ?tc2 ?sc2 ?_
                      case tc2 => (intro w' h; clear h; go_simp; try rfl)
                      case sc2 => exact HSD.out
                      (try simp only [Act.put, List.setIfInBounds_toArray, List.set_cons_zero, List.set_cons_succ])
                      refine wpAnyZ_take [9, 8, 6, 5] (i := 3) (v := ?vc3) (by simp only [List.getElem?_toArray, List.getElem?_cons_succ, List.getElem?_cons_zero]; rfl) (by decide +kernel) (fun _ _ _ h => h) (by rfl) ?tc3 ?sc3 ?_
                      case tc3 => (intro w' h; have FK := HK.out w' h; clear h; go_split_ands; go_simp; try rfl)
                      case sc3 => exact HSD.out
                      (try simp only [Act.put, List.setIfInBounds_toArray, List.set_cons_zero, List.set_cons_succ])
                      refine wpAnyZ_take [9, 8, 6, 5] (i := 4) (v := ?vc4) (by simp only [List.getElem?_toArray, List.getElem?_cons_succ, List.getElem?_cons_zero]; rfl) (by decide +kernel) (fun _ _ _ h => h) (by rfl) ?tc4 ?sc4 ?_
                      case tc4 => (intro w' h; clear h; go_simp; try rfl)
                      case sc4 => exact HSD.out
                      (try simp only [Act.put, List.setIfInBounds_toArray, List.set_cons_zero, List.set_cons_succ])
                      refine wpAnyZ_take [9, 8, 6] (i := 5) (v := ?vc5) (by simp only [List.getElem?_toArray, List.getElem?_cons_succ, List.getElem?_cons_zero]; rfl) (by decide +kernel) (fun _ _ _ h => h) (by rfl) ?tc5 ?sc5 ?_
                      case tc5 => (intro w' h; have FK := HK.out w' h; clear h; go_split_ands; go_simp; try rfl)
                      case sc5 => exact HSD.out
                      (try simp only [Act.put, List.setIfInBounds_toArray, List.set_cons_zero, List.set_cons_succ])
                      refine wpAnyZ_take [9, 8] (i := 6) (v := ?vc6) (by simp only [List.getElem?_toArray, List.getElem?_cons_succ, List.getElem?_cons_zero]; rfl) (by decide +kernel) (fun _ _ _ h => h) (by rfl) ?tc6 ?sc6 ?_
                      case tc6 => (intro w' h; have FK := HK.out w' h; clear h; go_split_ands; go_simp; try rfl)
                      case sc6 => exact HSD.out
                      (try simp only [Act.put, List.setIfInBounds_toArray, List.set_cons_zero, List.set_cons_succ])
                      refine wpAnyZ_take [9, 8] (i := 7) (v := ?vc7) (by simp only [List.getElem?_toArray, List.getElem?_cons_succ, List.getElem?_cons_zero]; rfl) (by decide +kernel) (fun _ _ _ h => h) (by rfl) ?tc7 ?sc7 ?_
                      case tc7 => (intro w' h; clear h; go_simp; try rfl)
                      case sc7 => exact HSD.out
                      (try simp only [Act.put, List.setIfInBounds_toArray, List.set_cons_zero, List.set_cons_succ])
                      refine wpAnyZ_take [9] (i := 8) (v := ?vc8) (by simp only [List.getElem?_toArray, List.getElem?_cons_succ, List.getElem?_cons_zero]; rfl) (by decide +kernel) (fun _ _ _ h => h) (by rfl) ?tc8 ?sc8 ?_
                      case tc8 => (intro w' h; have FK := HK.out w' h; clear h; go_split_ands; go_simp; try rfl)
                      case sc8 => exact HSD.out
                      (try simp only [Act.put, List.setIfInBounds_toArray, List.set_cons_zero, List.set_cons_succ])
                      refine wpAnyZ_take [] (i := 9) (v := ?vc9) (by simp only [List.getElem?_toArray, List.getElem?_cons_succ, List.getElem?_cons_zero]; rfl) (by decide +kernel) (fun _ _ _ h => h) (by rfl) ?tc9 ?sc9 ?_
                      case tc9 => (intro w' h; have FK := HK.out w' h; clear h; go_split_ands; go_simp; try rfl)
                      case sc9 => exact HSD.out
                      (try simp only [Act.put, List.setIfInBounds_toArray, List.set_cons_zero, List.set_cons_succ])
                      refine wpAnyZ_take [16, 15, 14, 11] (i := 10) (v := ?vc10) (by simp only [List.getElem?_toArray, List.getElem?_cons_succ, List.getElem?_cons_zero]; rfl) (by decide +kernel) (fun _ _ _ h => h) (by rfl) ?tc10 ?sc10 ?_
                      case tc10 => (intro w' h; clear h; go_simp; try rfl)
                      case sc10 => exact HSD.out
                      (try simp only [Act.put, List.setIfInBounds_toArray, List.set_cons_zero, List.set_cons_succ])
                      refine wpAnyZ_take [16, 15, 14] (i := 11) (v := ?vc11) (by simp only [List.getElem?_toArray, List.getElem?_cons_succ, List.getElem?_cons_zero]; rfl) (by decide +kernel) (fun _ _ _ h => h) (by rfl) ?tc11 ?sc11 ?_
                      case tc11 => (intro w' h; clear h; go_simp; try rfl)
                      case sc11 => exact HSD.out
                      (try simp only [Act.put, List.setIfInBounds_toArray, List.set_cons_zero, List.set_cons_succ])
                      refine wpAnyZ_take [16, 15, 14, 13] (i := 12) (v := ?vc12) (by simp only [List.getElem?_toArray, List.getElem?_cons_succ, List.getElem?_cons_zero]; rfl) (by decide +kernel) (fun _ _ _ h => h) (by rfl) ?tc12 ?sc12 ?_
                      case tc12 => (intro w' h; clear h; go_simp; try rfl)
                      case sc12 => exact HSD.out
                      (try simp only [Act.put, List.setIfInBounds_toArray, List.set_cons_zero, List.set_cons_succ])
                      refine wpAnyZ_take [16, 15, 14] (i := 13) (v := ?vc13) (by simp only [List.getElem?_toArray, List.getElem?_cons_succ, List.getElem?_cons_zero]; rfl) (by decide +kernel) (fun _ _ _ h => h) (by rfl) ?tc13 ?sc13 ?_
                      case tc13 => (intro w' h; clear h; go_simp; try rfl)
                      case sc13 => exact HSD.out
                      (try simp only [Act.put, List.setIfInBounds_toArray, List.set_cons_zero, List.set_cons_succ])
                      obtain ⟨wq, hwq⟩ : ∃ z, z = wr.drew.alloc (.cells #[.int .u8 (IntKind.u8.wrap (i : Int)), .int .u8 (IntKind.u8.wrap (k : Int))] 5) := ⟨_, rfl⟩
                      have HSQ := Lib.hid (show Below wr.heap.size wr wq from by rw [hwq]; exact below_al (Below.drew (Below.refl _ _)) _)
                      have HXQ := Lib.hid (show wq.heap[wr.heap.size]? = some (.cells #[.int .u8 (IntKind.u8.wrap (i : Int)), .int .u8 (IntKind.u8.wrap (k : Int))] 5 (0, 0)) from by rw [hwq]; exact heap_alloc_new _ _)
                      have HCQ := Lib.hid hwq
                      clear hwq
                      refine wpAnyZ_one (i := 14) (by decide +kernel) ?_
                      refine wpOpK_value (v := .slice (some ⟨wr.heap.size, 0, none⟩) 2 2) (w' := wq) (by simp only [List.getElem?_toArray, List.getElem?_cons_succ, List.getElem?_cons_zero]; rfl) (by rfl) ?mc14 ⟨.inr HSQ.out, ?_⟩
                      case mc14 => (rw [HCQ.out]; go_simp; try rfl)
                      (try simp only [Act.put, List.setIfInBounds_toArray, List.set_cons_zero, List.set_cons_succ])
                      have hcv := conv_mark HXQ.out
                      refine wpAnyZ_one (i := 15) (by decide +kernel) ?_
                      refine wpOpK_value (v := .string ⟨#[UInt8.ofNat i, UInt8.ofNat k]⟩) (w' := wq) (by simp only [List.getElem?_toArray, List.getElem?_cons_succ, List.getElem?_cons_zero]; rfl) (by rfl) ?mc15 ⟨.inr HSQ.out, ?_⟩
                      case mc15 => (go_simp; try rfl)
                      (try simp only [Act.put, List.setIfInBounds_toArray, List.set_cons_zero, List.set_cons_succ])
                      clear hcv
                      refine wpAnyZ_take [] (i := 16) (v := ?vc16) (by simp only [List.getElem?_toArray, List.getElem?_cons_succ, List.getElem?_cons_zero]; rfl) (by decide +kernel) (fun _ _ _ h => h) (by rfl) ?tc16 ?sc16 ?_
                      case tc16 => (intro w' h; clear h; go_simp; try rfl)
                      case sc16 => exact HSQ.out
                      (try simp only [Act.put, List.setIfInBounds_toArray, List.set_cons_zero, List.set_cons_succ])
                      refine wpAnyZ_one (i := 17) (by decide +kernel) ?_
                      refine wpOpK_value (v := .bool false) (w' := wq) (by simp only [List.getElem?_toArray, List.getElem?_cons_succ, List.getElem?_cons_zero]; rfl) (by rfl) ?mc17 ⟨.inl rfl, ?_⟩
                      case mc17 => (rw [show mkS i k = Value.string ((⟨#[103, 111, 110, 101]⟩ : ByteArray) ++ (⟨#[UInt8.ofNat i, UInt8.ofNat k]⟩ : ByteArray)) from rfl]; go_simp; try rfl)
                      (try simp only [Act.put, List.setIfInBounds_toArray, List.set_cons_zero, List.set_cons_succ])
                      refine wpAnyZ_done (by kernel_rfl) (NoPanic.normal ?_) _
                      have HG2 := Lib.hid (GP.out.later HSQ.out)
                      clear HSQ HCQ HXQ HSD HK GP
                      go_wp2
                      go_roundw
                      case rel => exact ⟨k + 1, by go_num, by omega, HG2⟩
                      case measure => simp [intOf] <;> omega
                    · have hkk : ¬ (k : Int) < (n : Int) := by omega
                      go_wp2
                      go_roundw
                      case rel => exact ⟨i + 1, by go_num, by omega, GP⟩
                      case measure => simp [intOf] <;> omega
                · have hii : ¬ (i : Int) < (N : Int) := by omega
                  have RST := Lib.hid (HP7.out.rest GP.out.chg)
                  have HC := Lib.hid GP.out.chg
                  clear GP
                  obtain ⟨ew, hew, hek, hex⟩ := HWT.out
                  go_upto_region 32 with (fail)
                  go_wp2_with fail
                  refine (rows_any s'.g s'.gc s'.W s'.H M wr (by rw [HMM2.out]; exact RST.out.pl)).mono ?_
                  rintro e w8 ⟨v8, rfl, own8, hb8⟩
                  have HR8 := Lib.hid (RST.out.later hb8)
                  have HB8 := Lib.hid hb8
                  have HO8 := Lib.hid own8
                  clear z0 z1 z2 c0 c2 c3 own8 hb8 RST
                  go_wp2_with fail
                  have hlen : (rowsN s'.W M s'.H).length = s'.H := by simp [rowsN]
                  have hwe := HR8.out.we ew hew
                  rw [hek, hex, hlen] at hwe
                  refine (same_strs _ base s'.H (rowsN s'.W M s'.H) _ _ w8 HO8.out hwe (fun i hi => txt_rows _ _ _ i (by rw [hlen]; exact hi)) (by rw [HH2.out]; exact hH)).mono ?_
                  rintro e w9 ⟨rfl, hb9⟩
                  have HB9 := Lib.hid hb9
                  clear hb9 hwe
                  go_wp2
                  go_ret
                  exact ⟨rfl, HC7.out.trans ((HC.out.trans (Chg.of_below HB8.out (ST s')) (fun k hk => .inl hk)).trans (Chg.of_below HB9.out (ST s')) (fun k hk => .inl hk)) HST.out⟩
theorem whole_any (base : Nat) (w : World) (pb : Nat) (s : PairS) (hp : PairAt base w pb s) (hW : s.W ≤ 4096) (hH : s.H ≤ 4096) (hn : s.ts.length + 8 ≤ 1073741824) (ht : s.told.length ≤ 1073741824) (hbw : base ≤ w.heap.size) : Calls Try.prog 28 #[.pointer (some ⟨pb, 0, none⟩)] w fun e w' => e = .returned (.bool true) ∧ Chg w w' (SP pb s) := (whole_A base w pb s (Lib.hid hp) hW hH hn ht hbw).2 (Lib.hid (whole_B base w pb s (Lib.hid hp) hW hH hn ht hbw))
end Go.Proofs.Ytebalohoblaedaa
