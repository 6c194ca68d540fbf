/- Trees: contract of Check. -/
import Derived.Test.YtihjefncjkdnpaaTreD0
import Derived.Outline
namespace Go.Proofs.Ytihjefncjkdnpaa
open Go.RowKit Go.Deep
set_option linter.unusedVariables false
set_option linter.unusedSimpArgs false

theorem ret_chk {r : Int × Int} {a b : Int} (h : r = (a, b)) : Ending.returned (.tuple #[.int .i64 a, .int .i64 b]) = .returned (.tuple #[.int .i64 r.1, .int .i64 r.2]) := by rw [h]
theorem ckw_start (w : World) (p : Option Addr) (c : Nat) (T : List Nd) : CkW w ((((w.alloc (.cells #[.slice p T.length c] 24)).alloc (.cells (madeCells #[.bool false] T.length) 4)).alloc (.cells (madeCells #[.int .i64 0] T.length) 3)).alloc (.map #[] 0)) (w.heap.size + 1) (w.heap.size + 1 + 1) (w.heap.size + 1 + 1 + 1) p c T (fun _ => false) (fun _ => 0) 0 0 := by
  obtain ⟨w0, h0⟩ : ∃ x, x = w.alloc (.cells #[.slice p T.length c] 24) := ⟨_, rfl⟩
  have B0 : Below w.heap.size w w0 := by rw [h0]; exact below_al (Below.refl _ _) _
  have z0 : w0.heap.size = w.heap.size + 1 := by rw [h0]; simp
  have x0 : w0.cell? ⟨w.heap.size, 0, none⟩ = some (.slice p T.length c) := by rw [h0]; simp [go_sem]
  rw [← h0, ← z0]
  clear h0
  have r1 := World.rowIs_made w0 (.bool false) T.length 4
  obtain ⟨w1, h1⟩ : ∃ x, x = w0.alloc (.cells (madeCells #[.bool false] T.length) 4) := ⟨_, rfl⟩
  have B1 : Below w0.heap.size w0 w1 := by rw [h1]; exact below_al (Below.refl _ _) _
  have z1 : w1.heap.size = w0.heap.size + 1 := by rw [h1]; simp
  rw [← h1] at r1 ⊢
  rw [← z1]
  clear h1
  have r2 := World.rowIs_made w1 (.int .i64 0) T.length 3
  obtain ⟨w2, h2⟩ : ∃ x, x = w1.alloc (.cells (madeCells #[.int .i64 0] T.length) 3) := ⟨_, rfl⟩
  have B2 : Below w1.heap.size w1 w2 := by rw [h2]; exact below_al (Below.refl _ _) _
  have z2 : w2.heap.size = w1.heap.size + 1 := by rw [h2]; simp
  rw [← h2] at r2 ⊢
  rw [← z2]
  clear h2
  have r3 := idsAt_made w2 T
  obtain ⟨w3, h3⟩ : ∃ x, x = w2.alloc (.map #[] 0) := ⟨_, rfl⟩
  have B3 : Below w2.heap.size w2 w3 := by rw [h3]; exact below_al (Below.refl _ _) _
  rw [← h3] at r3 ⊢
  clear h3
  have B13 : Below w1.heap.size w1 w3 := below_via B3 B2
  have B03 : Below w0.heap.size w0 w3 := below_via B13 B1
  refine ⟨by omega, by omega, by omega, ?_, ?_, r3, below_via B03 B0, ?_, fun i => ⟨Int.le_refl _, Int.le_refl _⟩⟩
  · exact r1.of_block (below_block B13 (by omega))
  · exact r2.of_block (below_block B3 (by omega))
  · rw [(bcell B03).1 _ _ (by omega)]; exact x0
theorem size_pos {s : ByteArray} (h : s.toList.isEmpty = false) : 0 < s.size := by
  rw [List.isEmpty_eq_false_iff, ByteArray.toList_eq] at h
  rw [Lib.size_eq]
  exact List.length_pos_iff.2 h
theorem size_zero {s : ByteArray} (h : s.toList.isEmpty = true) : s.size = 0 := by
  rw [List.isEmpty_iff, ByteArray.toList_eq] at h
  rw [Lib.size_eq, h]; rfl
set_option maxRecDepth 100000 in
set_option maxHeartbeats 16000000 in
theorem tree_Check_any (p : Option Addr) (c : Nat) (T : List Nd) (w : World) (hT : TreeAt w (.slice p T.length c) T) : Calls Try.prog 46 #[.agg #[.slice p T.length c]] w fun e w' => e = .returned (.tuple #[.int .i64 (checkT T).1, .int .i64 (checkT T).2]) ∧ Below w.heap.size w w' := by
  obtain ⟨hok, hlen, p', c', e, hc1, hc2, hnds⟩ := hT
  injection e with e1 _ e3
  subst e1 e3
  rcases (show T.length = 0 ∨ 4096 < T.length ∨ (0 < T.length ∧ T.length ≤ 4096) by omega) with h0 | h0 | ⟨h0, h1⟩
  · have E := Lib.hid (show checkT T = (100, 0) by unfold checkT; rw [if_pos (.inl h0)])
    have h0' : ((T.length : Int) == 0) = true := by rw [beq_iff_eq]; omega
    clear hnds hok
    generalize T.length = N at *
    go_enter Try.func46, Try.ntmps46
    go_wp2
    go_ret2
    exact ⟨ret_chk E.out, by go_grown⟩
  · have E := Lib.hid (show checkT T = (100, 0) by unfold checkT; rw [if_pos (.inr h0)])
    have h0' : ((T.length : Int) == 0) = false := by rw [beq_eq_false_iff_ne]; omega
    have h1' : (4096 : Int) < (T.length : Int) := by omega
    clear hnds hok
    go_enter Try.func46, Try.ntmps46
    go_wp2
    go_ret2
    exact ⟨ret_chk E.out, by go_grown⟩
  · have E := Lib.hid (show resT T T 0 (fun _ => false) (fun _ => 0) = checkT T by unfold checkT; rw [if_neg (by omega)])
    have h0' : ((T.length : Int) == 0) = false := by rw [beq_eq_false_iff_ne]; omega
    have h1' : (T.length : Int) ≤ 4096 := by omega
    obtain ⟨b, off, rfl, hb, hn⟩ := hnds h0
    have HN := Lib.hid hn
    have HOK := Lib.hid hok
    have ST := Lib.hid (ckw_start w (some ⟨b, off, none⟩) c T)
    have mk1 := run_make_row' (P := Try.prog) 68 4 (.bool false) 1 Try.underlying68 (by kernel_rfl) rfl .i64 .i64 T.length (by omega) (by omega)
    have mk2 := run_make_row' (P := Try.prog) 25 3 (.int .i64 0) 8 Try.underlying25 (by kernel_rfl) rfl .i64 .i64 T.length (by omega) (by omega)
    have mk3 := @run_makeMap Try.prog
    clear hn hok hlen hc1
    go_enter Try.func46, Try.ntmps46
    go_wp2
    obtain ⟨BT, hBT⟩ : ∃ z, z = w.heap.size + 1 := ⟨_, rfl⟩
    obtain ⟨BD, hBD⟩ : ∃ z, z = w.heap.size + 1 + 1 := ⟨_, rfl⟩
    obtain ⟨BM, hBM⟩ : ∃ z, z = w.heap.size + 1 + 1 + 1 := ⟨_, rfl⟩
    rw [← hBM, ← hBD, ← hBT] at ST ⊢
    obtain ⟨ws, hws⟩ : ∃ x, x = (((w.alloc (.cells #[.slice (some ⟨b, off, none⟩) T.length c] 24)).alloc (.cells (madeCells #[.bool false] T.length) 4)).alloc (.cells (madeCells #[.int .i64 0] T.length) 3)).alloc (.map #[] 0) := ⟨_, rfl⟩
    rw [← hws] at ST ⊢
    clear hws hBT hBD hBM mk1 mk2 mk3
    go_loopw [35] (fun i wr => ∃ n : Nat, ∃ t : Nat → Bool, ∃ d : Nat → Int, n ≤ T.length ∧ i = .int .i64 n ∧ RowKit.Hid (resT T (T.drop n) n t d = checkT T) ∧ RowKit.Hid (CkW w wr BT BD BM (some ⟨b, off, none⟩) c T t d n n)) (fun i _ => T.length - (intOf i).toNat)
    case atStart => exact ⟨0, _, _, Nat.zero_le _, rfl, E, ST⟩
    case round =>
      clear E ST
      obtain ⟨n, t, d, hn, rfl, HR, HW⟩ := hrel
      have box := HW.out.box
      have BW := HW.out.be
      have SW := BW.size
      have ln := HW.out.rt.lt
      have l1 := HW.out.l1
      by_cases hlt : n < T.length
      · have hx := HN.out n hlt
        obtain ⟨x, hxe⟩ : ∃ x, x = T.getD n zNd := ⟨_, rfl⟩
        have HX := Lib.hid hxe.symm
        have hxo : NdOk x := by
          rw [hxe, List.getD_eq_getElem?_getD, List.getElem?_eq_getElem hlt]
          exact HOK.out _ (List.getElem_mem hlt)
        rw [← hxe] at hx
        have HR' := Lib.hid (show resT T (x :: T.drop (n + 1)) n t d = checkT T by
          have := HR.out
          rw [List.drop_eq_getElem_cons hlt] at this
          rw [hxe, List.getD_eq_getElem?_getD, List.getElem?_eq_getElem hlt]
          exact this)
        clear hxe HR
        have HXW := Lib.hid hx
        obtain ⟨kv, cv, hk, _, hc0⟩ := hx
        obtain ⟨pk, ck, rfl, k1, k2, _, hks⟩ := hk
        have HC0 := Lib.hid hc0
        have hc : ∀ j, j < 34 → wr.cell? ⟨b, off + n * 34 + j, none⟩ = (ndV x (.slice pk x.kids.length ck) cv)[j]? := fun j hj => by rw [(bcell BW).1 _ _ hb]; exact HC0.out j hj
        have c0 : wr.cell? ⟨b, off + n * 34, none⟩ = some (.int .i8 x.kind) := hc 0 (by omega)
        have c1 : wr.cell? ⟨b, off + n * 34 + 1, none⟩ = some (.string x.id) := hc 1 (by omega)
        have c2 : wr.cell? ⟨b, off + n * 34 + 2, none⟩ = some (.string x.cls) := hc 2 (by omega)
        have c22 : wr.cell? ⟨b, off + n * 34 + 22, none⟩ = some (.string x.text) := hc 22 (by omega)
        have c3 : wr.cell? ⟨b, off + n * 34 + 3, none⟩ = some (.slice pk x.kids.length ck) := hc 3 (by omega)
        have HKS := Lib.hid hks
        have HXO := Lib.hid hxo
        have hbw : b < wr.heap.size := by omega
        clear hks hc hc0 hxo
        by_cases hkd : x.kind < 1 ∨ 11 < x.kind
        · have E := Lib.hid (res_bad HR'.out (wrong_kind hkd) (by decide))
          rcases (show x.kind < 1 ∨ (1 ≤ x.kind ∧ 11 < x.kind) by omega) with h | ⟨h, h'⟩
          all_goals clear hkd
          all_goals go_wp2
          all_goals go_ret2
          all_goals exact ⟨ret_chk E.out, BW⟩
        · have HKD := Lib.hid hkd
          have kd1 : 1 ≤ x.kind := by omega
          have kd2 : x.kind ≤ 11 := by omega
          clear hkd
          go_upto_if 59 with (fail)
          go_cut [7] (fun s wx => s = .int .i64 (n : Int) ∧ RowKit.Hid (¬ (0 < x.id.size ∧ (idIn (T.take n) x.id = true ∨ nameB x.id = false))) ∧ RowKit.Hid (CkW w wx BT BD BM (some ⟨b, off, none⟩) c T t d n (n + 1)))
          case first =>
            obtain ⟨v, hrun, hv1, hv2⟩ := HW.out.ids.look x.id HXO.out.id
            have HV1 := Lib.hid hv1
            have HV2 := Lib.hid hv2
            clear hv1 hv2
            by_cases hv : 0 < v
            · go_wp2_with fail
              · have hb0 : (!x.id.toList.isEmpty) = true := by assumption
                have h0 : 0 < x.id.size := size_pos (by rwa [Bool.not_eq_true'] at hb0)
                have hin : idIn (T.take n) x.id = true := by
                  cases hin : idIn (T.take n) x.id
                  · have := HV2.out h0 hin
                    omega
                  · rfl
                have E := Lib.hid (res_bad HR'.out (wrong_name HKD.out (.inl ⟨h0, .inl hin⟩)) (by decide))
                clear HV1 HV2 hin h0
                go_wp2
                go_ret2
                exact ⟨ret_chk E.out, BW⟩
              · have hb0 : (!x.id.toList.isEmpty) = false := by assumption
                have h0 : x.id.size = 0 := size_zero (by rwa [Bool.not_eq_false'] at hb0)
                have HW' := Lib.hid (HW.out.skip hlt HX.out h0)
                have hq := Lib.hid (show ¬ (0 < x.id.size ∧ (idIn (T.take n) x.id = true ∨ nameB x.id = false)) by omega)
                go_meet
                exact ⟨rfl, hq, HW'⟩
            · have hv' : v ≤ 0 := by omega
              go_wp2_with fail
              · have hb0 : (!x.id.toList.isEmpty) = true := by assumption
                have h0 : 0 < x.id.size := size_pos (by rwa [Bool.not_eq_true'] at hb0)
                have hin : idIn (T.take n) x.id = false := by
                  cases hin : idIn (T.take n) x.id
                  · rfl
                  · exact absurd (HV1.out h0 hin) (by omega)
                cases hnm : nameB x.id
                · have E := Lib.hid (res_bad HR'.out (wrong_name HKD.out (.inl ⟨h0, .inr hnm⟩)) (by decide))
                  have NM := Lib.hid hnm
                  clear hnm hin h0
                  refine (tree_name_any x.id _ HXO.out.id).mono ?_
                  rw [NM.out]
                  rintro e w' ⟨rfl, rfl⟩
                  go_wp2
                  go_ret2
                  exact ⟨ret_chk E.out, BW⟩
                · have NM := Lib.hid hnm
                  have hq := Lib.hid (show ¬ (0 < x.id.size ∧ (idIn (T.take n) x.id = true ∨ nameB x.id = false)) by rw [hin, hnm]; rintro ⟨_, h | h⟩ <;> cases h)
                  obtain ⟨D, own, isM, hD⟩ := HW.out.ids
                  have h0h := Lib.hid h0
                  have HD := Lib.hid hD
                  have ISM := Lib.hid isM
                  have kx := Lib.hid (keyOf_str HXO.out.id)
                  clear hnm hin h0 hD isM
                  refine (tree_name_any x.id _ HXO.out.id).mono ?_
                  rw [NM.out]
                  rintro e w' ⟨rfl, rfl⟩
                  go_wp2_with (at_mapUpdate; refine wpList_mapUpdate_own _ rfl _ _ _ 127 rfl 9 3 string_law_ Try.underlying127 _ BM n _ rfl own (by unfold maxLen; omega) _ _ _ rfl rfl kx.out _ [] (plainElem_int Try.underlying3 (show (Lit.int .i64 ((n : Int) + 1)).wf = true from WalkArith.wf_i64 (by omega))) ?_)
                  intro w1 own1 hg1
                  have HW' := Lib.hid (HW.out.put (IdsAt.put ISM.out HD.out hlt HX.out h0h.out (by omega) own1) hg1)
                  clear own own1 hg1 hrun
                  go_wp2
                  go_meet
                  exact ⟨rfl, hq, HW'⟩
              · have hb0 : (!x.id.toList.isEmpty) = false := by assumption
                have h0 : x.id.size = 0 := size_zero (by rwa [Bool.not_eq_false'] at hb0)
                have HW' := Lib.hid (HW.out.skip hlt HX.out h0)
                have hq := Lib.hid (show ¬ (0 < x.id.size ∧ (idIn (T.take n) x.id = true ∨ nameB x.id = false)) by omega)
                go_meet
                exact ⟨rfl, hq, HW'⟩
          case rest =>
            clear HW box BW SW ln c0 c1 c2 c3 c22 hbw
            obtain ⟨rfl, HQ, HW⟩ := hcut
            obtain ⟨w1, hw1⟩ : ∃ x : World, x = wc := ⟨_, rfl⟩
            rw [← hw1] at HW ⊢
            clear hw1
            have box := HW.out.box
            have BW := HW.out.be
            have SW := BW.size
            have hbw : b < w1.heap.size := by omega
            have hc : ∀ j, j < 34 → w1.cell? ⟨b, off + n * 34 + j, none⟩ = (ndV x (.slice pk x.kids.length ck) cv)[j]? := fun j hj => by rw [(bcell BW).1 _ _ hb]; exact HC0.out j hj
            have c0 : w1.cell? ⟨b, off + n * 34, none⟩ = some (.int .i8 x.kind) := hc 0 (by omega)
            have c2 : w1.cell? ⟨b, off + n * 34 + 2, none⟩ = some (.string x.cls) := hc 2 (by omega)
            have c3 : w1.cell? ⟨b, off + n * 34 + 3, none⟩ = some (.slice pk x.kids.length ck) := hc 3 (by omega)
            have c22 : w1.cell? ⟨b, off + n * 34 + 22, none⟩ = some (.string x.text) := hc 22 (by omega)
            clear hc
            go_upto_region 16 with (fail)
            obtain ⟨bc, hbc⟩ : ∃ bc, bc = (decide (0 < x.cls.size) && !nameB x.cls) := ⟨_, rfl⟩
            have HBC := Lib.hid hbc
            clear hbc
            go_cut [95] (fun s wx => s = .bool bc ∧ wx = w1)
            case first =>
              go_wp2_with fail
              · have hb0 : x.cls.toList = [] := by assumption
                have h0 : x.cls.size = 0 := size_zero (by rw [hb0]; rfl)
                have E := Lib.hid (HBC.out.trans (show _ = false by rw [show decide (0 < x.cls.size) = false by rw [decide_eq_false_iff_not]; omega, Bool.false_and]))
                go_meet
                exact ⟨congrArg Value.bool E.out.symm, rfl⟩
              · have hb0 : ¬ x.cls.toList = [] := by assumption
                have h0 : 0 < x.cls.size := size_pos (by rw [List.isEmpty_eq_false_iff]; exact hb0)
                have E := Lib.hid (HBC.out.trans (show _ = !nameB x.cls by rw [show decide (0 < x.cls.size) = true by rw [decide_eq_true_eq]; exact h0, Bool.true_and]))
                refine (tree_name_any x.cls _ HXO.out.cls).mono ?_
                rintro e w' ⟨rfl, rfl⟩
                have e2 : (!x.cls.toList.isEmpty) = true := by rw [Bool.not_eq_true', List.isEmpty_eq_false_iff]; exact hb0
                have E2 := Lib.hid e2
                clear e2
                go_wp2
                go_meet
                exact ⟨congrArg Value.bool (by first | exact E.out.symm | (rw [E2.out, Bool.true_and]; exact E.out.symm)), rfl⟩
            case rest =>
              obtain ⟨rfl, hwc⟩ := hcut
              rw [hwc]
              clear hwc
              cases bc
              · have hnb : ¬ namesBad T n x := by
                  unfold namesBad
                  rintro (h | ⟨h, h'⟩)
                  · exact HQ.out h
                  · have := HBC.out
                    rw [h', show decide (0 < x.cls.size) = true by rw [decide_eq_true_eq]; exact h] at this
                    cases this
                have HNB := Lib.hid hnb
                clear hnb HQ HBC
                go_wp2
                go_loopw [102] (fun i wr => ∃ j : Nat, ∃ t2 : Nat → Bool, ∃ d2 : Nat → Int, j ≤ x.kids.length ∧ i = .int .i64 j ∧ RowKit.Hid (kidGo T.length n (x.kids.drop j) t2 d2 = kidGo T.length n x.kids t d) ∧ RowKit.Hid (CkW w wr BT BD BM (some ⟨b, off, none⟩) c T t2 d2 (n + 1) (n + 1)) ∧ d2 n ≤ (n : Int)) (fun i _ => x.kids.length - (intOf i).toNat)
                case atStart => exact ⟨0, t, d, Nat.zero_le _, rfl, Lib.hid rfl, Lib.hid (HW.out.depth (by omega)), (HW.out.dep n).2⟩
                case round =>
                  clear HW box BW SW c0 c2 c3 c22 hbw
                  obtain ⟨j, t2, d2, hj, rfl, HK, HW, hdn⟩ := hrel
                  obtain ⟨w2, hw2⟩ : ∃ x : World, x = wr := ⟨_, rfl⟩
                  rw [← hw2] at HW ⊢
                  clear hw2
                  have box := HW.out.box
                  have BW := HW.out.be
                  have SW := BW.size
                  have hbw : b < w2.heap.size := by omega
                  have hdn0 := (HW.out.dep n).1
                  have ne1 : BT ≠ BD := by have := HW.out.l2; omega
                  have ne2 : BD ≠ BT := by omega
                  by_cases hjl : j < x.kids.length
                  · obtain ⟨bk, ok, rfl, hbk, hkc⟩ := HKS.out (by omega)
                    obtain ⟨k, hke⟩ : ∃ k, k = x.kids.getD j 0 := ⟨_, rfl⟩
                    have kc : w2.cell? ⟨bk, ok + j, none⟩ = some (.int .i64 k) := by rw [(bcell BW).1 _ _ hbk, hkc j hjl, hke]
                    have HK' := Lib.hid (show kidGo T.length n (k :: x.kids.drop (j + 1)) t2 d2 = kidGo T.length n x.kids t d by
                      have := HK.out
                      rw [List.drop_eq_getElem_cons hjl] at this
                      rw [hke, List.getD_eq_getElem?_getD, List.getElem?_eq_getElem hjl]
                      exact this)
                    clear hke hkc HK
                    by_cases hk1 : k ≤ (n : Int)
                    · have E := Lib.hid (res_bad HR'.out (wrong_kids HKD.out HNB.out (.inl (by rw [← HK'.out, kidGo_bad (.inl hk1)]; rfl))) (by decide))
                      go_wp2
                      go_ret2
                      exact ⟨ret_chk E.out, BW⟩
                    · have hk2 : (n : Int) < k := by omega
                      clear hk1
                      by_cases hk3 : (T.length : Int) ≤ k
                      · have E := Lib.hid (res_bad HR'.out (wrong_kids HKD.out HNB.out (.inl (by rw [← HK'.out, kidGo_bad (.inr (.inl hk3))]; rfl))) (by decide))
                        go_wp2
                        go_ret2
                        exact ⟨ret_chk E.out, BW⟩
                      · obtain ⟨q, rfl⟩ : ∃ q : Nat, k = (q : Int) := ⟨k.toNat, by omega⟩
                        have hq1 : n < q := by omega
                        have hq2 : q < T.length := by omega
                        have hq3 : (q : Int) < (T.length : Int) := by omega
                        clear hk3
                        have tq := HW.out.rt.cell hq2
                        have dq := HW.out.rd.cell hq2
                        have dn := HW.out.rd.cell hlt
                        have fq := HW.out.rt.frozen q
                        have gq := HW.out.rd.frozen q
                        cases htq : t2 q
                        · have HKO := Lib.hid ((kidGo_ok (ks := x.kids.drop (j + 1)) (d := d2) hq1 hq2 htq).symm.trans HK'.out)
                          rw [htq] at tq
                          have HW' := Lib.hid ((HW.out.setT q).setD q (d2 n + 1) ⟨by omega, by omega⟩)
                          have hdn' : upd d2 q (d2 n + 1) n ≤ (n : Int) := by rw [upd_other (by omega)]; exact hdn
                          have HDN := Lib.hid hdn'
                          clear htq HK' hdn'
                          generalize d2 n = dv at *
                          go_wp2
                          go_roundw
                          case rel => exact ⟨j + 1, _, _, by omega, by go_num, HKO, HW', HDN.out⟩
                          case measure => simp [intOf]; omega
                        · have E := Lib.hid (res_bad HR'.out (wrong_kids HKD.out HNB.out (.inl (by rw [← HK'.out, kidGo_bad (.inr (.inr (by rw [Int.toNat_natCast]; exact htq)))]; rfl))) (by decide))
                          rw [htq] at tq
                          clear htq HK'
                          go_wp2
                          go_ret2
                          exact ⟨ret_chk E.out, BW⟩
                  · obtain rfl : j = x.kids.length := by omega
                    have HKE := Lib.hid (show kidGo T.length n x.kids t d = some (t2, d2) by rw [← HK.out, List.drop_length]; rfl)
                    have hc : ∀ j, j < 34 → w2.cell? ⟨b, off + n * 34 + j, none⟩ = (ndV x (.slice pk x.kids.length ck) cv)[j]? := fun j hj => by rw [(bcell BW).1 _ _ hb]; exact HC0.out j hj
                    have c0 : w2.cell? ⟨b, off + n * 34, none⟩ = some (.int .i8 x.kind) := hc 0 (by omega)
                    have c3 : w2.cell? ⟨b, off + n * 34 + 3, none⟩ = some (.slice pk x.kids.length ck) := hc 3 (by omega)
                    clear hc HK hjl hdn hdn0
                    go_upto_region 26 with (fail)
                    obtain ⟨bk, hbk⟩ : ∃ bk : Bool, bk = ((leafB x.kind && decide (0 < x.kids.length)) || (decide (x.kind = 6) && decide (x.kids.length ≠ 1))) := ⟨_, rfl⟩
                    have HBK := Lib.hid hbk
                    clear hbk
                    go_cut [162] (fun s wx => s = .bool bk ∧ wx = w2)
                    case first =>
                      cases hlf : leafB x.kind
                      · have HLF := Lib.hid hlf
                        rcases (show x.kind = 6 ∨ x.kind ≠ 6 by omega) with h6 | h6
                        · rcases (show x.kids.length = 1 ∨ x.kids.length ≠ 1 by omega) with h1k | h1k
                          · have E := Lib.hid (show bk = false by rw [HBK.out, hlf, decide_eq_true h6, decide_eq_false (show ¬ (x.kids.length ≠ 1) from fun h => h h1k)]; rfl)
                            have d6 : (x.kind == 6) = true := by rw [beq_iff_eq]; exact h6
                            have d1 : ((x.kids.length : Int) != 1) = false := by rw [bne_eq_false_iff_eq]; omega
                            clear hlf h6 h1k
                            go_wp2_with fail
                            refine (tree_leaf_any x.kind _).mono ?_
                            rw [HLF.out]
                            rintro e w' ⟨rfl, rfl⟩
                            go_wp2
                            go_meet
                            exact ⟨congrArg Value.bool E.out.symm, rfl⟩
                          · have E := Lib.hid (show bk = true by rw [HBK.out, hlf, decide_eq_true h6, decide_eq_true h1k]; rfl)
                            have d6 : (x.kind == 6) = true := by rw [beq_iff_eq]; exact h6
                            have d1 : ((x.kids.length : Int) != 1) = true := by rw [bne_iff_ne]; omega
                            clear hlf h6 h1k
                            go_wp2_with fail
                            refine (tree_leaf_any x.kind _).mono ?_
                            rw [HLF.out]
                            rintro e w' ⟨rfl, rfl⟩
                            go_wp2
                            go_meet
                            exact ⟨congrArg Value.bool E.out.symm, rfl⟩
                        · have E := Lib.hid (show bk = false by rw [HBK.out, hlf, decide_eq_false h6]; rfl)
                          have d6 : (x.kind == 6) = false := by rw [beq_eq_false_iff_ne]; exact h6
                          clear hlf h6
                          go_wp2_with fail
                          refine (tree_leaf_any x.kind _).mono ?_
                          rw [HLF.out]
                          rintro e w' ⟨rfl, rfl⟩
                          go_wp2
                          go_meet
                          exact ⟨congrArg Value.bool E.out.symm, rfl⟩
                      · have HLF := Lib.hid hlf
                        have h6 : x.kind ≠ 6 := by
                          intro h; unfold leafB at hlf; rw [decide_eq_true_eq] at hlf; omega
                        have d6 : (x.kind == 6) = false := by rw [beq_eq_false_iff_ne]; exact h6
                        rcases (show x.kids.length = 0 ∨ 0 < x.kids.length by omega) with h0k | h0k
                        · have E := Lib.hid (show bk = false by rw [HBK.out, decide_eq_false (show ¬ 0 < x.kids.length by omega), decide_eq_false h6, Bool.and_false]; rfl)
                          have d0 : decide (0 < x.kids.length) = false := by rw [decide_eq_false_iff_not]; omega
                          clear hlf h6 h0k
                          go_wp2_with fail
                          refine (tree_leaf_any x.kind _).mono ?_
                          rw [HLF.out]
                          rintro e w' ⟨rfl, rfl⟩
                          go_wp2
                          go_meet
                          exact ⟨congrArg Value.bool E.out.symm, rfl⟩
                        · have E := Lib.hid (show bk = true by rw [HBK.out, hlf, decide_eq_true h0k]; rfl)
                          clear hlf h6
                          go_wp2_with fail
                          refine (tree_leaf_any x.kind _).mono ?_
                          rw [HLF.out]
                          rintro e w' ⟨rfl, rfl⟩
                          go_wp2
                          go_meet
                          exact ⟨congrArg Value.bool E.out.symm, rfl⟩
                    case rest =>
                      obtain ⟨rfl, hwc⟩ := hcut
                      rw [hwc]
                      clear hwc
                      cases bk
                      · have hkb : ¬ kidsBad T n x t d := by
                          unfold kidsBad
                          rw [HKE.out]
                          have hh := HBK.out.symm
                          rw [Bool.or_eq_false_iff, Bool.and_eq_false_iff, Bool.and_eq_false_iff] at hh
                          rintro (h | ⟨h, h'⟩ | ⟨h, h'⟩)
                          · cases h
                          · rcases hh.1 with e | e
                            · rw [h] at e; cases e
                            · rw [decide_eq_false_iff_not] at e; exact e h'
                          · rcases hh.2 with e | e
                            · rw [decide_eq_false_iff_not] at e; exact e h
                            · rw [decide_eq_false_iff_not] at e; exact e h'
                        have HKB := Lib.hid hkb
                        clear hkb HBK c3
                        cases hit : itemsB x
                        · have E := Lib.hid (res_bad HR'.out (wrong_items HKD.out HNB.out HKB.out hit) (by decide))
                          have HIT := Lib.hid hit
                          clear hit
                          go_wp2_with fail
                          refine (tree_items_any b (off + n * 34) x _ (HXW.out.later BW (Nat.le_refl _) hb) hbw).mono ?_
                          rw [HIT.out]
                          rintro e w3 ⟨rfl, hb3⟩
                          go_wp2
                          go_ret2
                          exact ⟨ret_chk E.out, below_via hb3 BW⟩
                        · have HIT := Lib.hid hit
                          clear hit
                          go_wp2_with fail
                          refine (tree_items_any b (off + n * 34) x _ (HXW.out.later BW (Nat.le_refl _) hb) hbw).mono ?_
                          rw [HIT.out]
                          rintro e w3 ⟨rfl, hb3⟩
                          have HW3 := Lib.hid (HW.out.below hb3)
                          have B3 : Below w.heap.size w w3 := HW3.out.be
                          have box3 := HW3.out.box
                          have c22 : w3.cell? ⟨b, off + n * 34 + 22, none⟩ = some (.string x.text) := by rw [(bcell B3).1 _ _ hb]; exact HC0.out 22 (by omega)
                          clear hb3 HW box BW SW c0 hbw
                          cases hfd : fieldsB x
                          · have E := Lib.hid (res_bad HR'.out (wrong_fields HKD.out HNB.out HKB.out HIT.out hfd) (by decide))
                            have HFD := Lib.hid hfd
                            clear hfd
                            go_wp2_with fail
                            refine (tree_fields_any b (off + n * 34) x _ (HXW.out.later B3 (Nat.le_refl _) hb) HXO.out).mono ?_
                            rw [HFD.out]
                            rintro e w' ⟨rfl, rfl⟩
                            go_wp2
                            go_ret2
                            exact ⟨ret_chk E.out, B3⟩
                          · have HFD := Lib.hid hfd
                            clear hfd
                            go_wp2_with fail
                            refine (tree_fields_any b (off + n * 34) x _ (HXW.out.later B3 (Nat.le_refl _) hb) HXO.out).mono ?_
                            rw [HFD.out]
                            rintro e w' ⟨rfl, rfl⟩
                            by_cases htx : 65536 < x.text.size
                            · have E := Lib.hid (res_bad HR'.out (wrong_text HKD.out HNB.out HKB.out HIT.out HFD.out htx) (by decide))
                              have d : (65536 : Int) < (x.text.size : Int) := by omega
                              clear htx
                              go_wp2
                              go_ret2
                              exact ⟨ret_chk E.out, B3⟩
                            · have HRN := Lib.hid (show resT T (T.drop (n + 1)) (n + 1) t2 d2 = checkT T by
                                have := res_ok HR'.out (wrong_none HKD.out HNB.out HKB.out HIT.out HFD.out (by omega))
                                unfold after at this
                                rw [HKE.out] at this
                                exact this)
                              have d : (x.text.size : Int) ≤ 65536 := by omega
                              clear htx
                              go_wp2
                              go_roundw
                              case rel => exact ⟨n + 1, t2, d2, by omega, by go_num, HRN, HW3⟩
                              case measure => simp [intOf]; omega
                      · have E := Lib.hid (res_bad HR'.out (wrong_kids HKD.out HNB.out (.inr (by
                          have hh := HBK.out.symm
                          rw [Bool.or_eq_true, Bool.and_eq_true, Bool.and_eq_true, decide_eq_true_eq, decide_eq_true_eq, decide_eq_true_eq] at hh
                          exact hh))) (by decide))
                        go_wp2
                        go_ret2
                        exact ⟨ret_chk E.out, BW⟩
              · have E := Lib.hid (res_bad HR'.out (wrong_name HKD.out (.inr (by
                  have := HBC.out
                  rw [eq_comm, Bool.and_eq_true, decide_eq_true_eq, Bool.not_eq_true'] at this
                  exact this))) (by decide))
                go_wp2
                go_ret2
                exact ⟨ret_chk E.out, BW⟩
      · obtain rfl : n = T.length := by omega
        have HF := Lib.hid (show loneFrom t (deepFrom d T.length 0) (T.length - 1) 1 = checkT T by rw [← HR.out, List.drop_length]; rfl)
        have rt := HW.out.rt
        have RT := Lib.hid rt
        have RD := Lib.hid HW.out.rd
        have DP := Lib.hid HW.out.dep
        have h1n : (1 : Int) ≤ (T.length : Int) := by omega
        clear HR HW rt hlt hn
        go_wp2
        go_loop [11] (fun i => ∃ k : Nat, 1 ≤ k ∧ k ≤ T.length ∧ i = .int .i64 k ∧ RowKit.Hid (loneFrom t (deepFrom d T.length 0) (T.length - k) k = checkT T)) (fun i => T.length - (intOf i).toNat)
        case atStart => exact ⟨1, Nat.le_refl _, by omega, rfl, HF⟩
        case round =>
          clear HF
          obtain ⟨k, hk1, hk, rfl, HF⟩ := hrel
          by_cases hlt : k < T.length
          · have tk := RT.out.cell hlt
            obtain ⟨f, hf⟩ : ∃ f, T.length - k = f + 1 := ⟨T.length - k - 1, by omega⟩
            have hf' : T.length - (k + 1) = f := by omega
            cases htk : t k
            · have E := Lib.hid (show checkT T = (102, (k : Int)) by rw [← HF.out, hf, loneFrom, htk, if_neg (by decide)])
              rw [htk] at tk
              clear htk HF hf hf'
              go_wp2
              go_ret2
              exact ⟨ret_chk E.out, BW⟩
            · have HF' := Lib.hid (show loneFrom t (deepFrom d T.length 0) (T.length - (k + 1)) (k + 1) = checkT T by rw [← HF.out, hf, hf', loneFrom, htk, if_pos rfl])
              rw [htk] at tk
              clear htk HF hf hf'
              go_wp2
              go_round
              case rel => exact ⟨k + 1, by omega, by omega, by go_num, HF'⟩
              case measure => simp [intOf]; omega
          · obtain rfl : k = T.length := by omega
            have HF' := Lib.hid (show deepFrom d (T.length - 0) 0 = checkT T by rw [← HF.out, Nat.sub_self, Nat.sub_zero]; rfl)
            clear HF hlt hk hk1
            go_wp2
            go_loop [196] (fun i => ∃ k : Nat, k ≤ T.length ∧ i = .int .i64 k ∧ RowKit.Hid (deepFrom d (T.length - k) k = checkT T)) (fun i => T.length - (intOf i).toNat)
            case atStart => exact ⟨0, Nat.zero_le _, rfl, HF'⟩
            case round =>
              clear HF'
              obtain ⟨k, hk, rfl, HF⟩ := hrel
              by_cases hlt : k < T.length
              · have dk := RD.out.cell hlt
                obtain ⟨f, hf⟩ : ∃ f, T.length - k = f + 1 := ⟨T.length - k - 1, by omega⟩
                have hf' : T.length - (k + 1) = f := by omega
                by_cases hd : 64 ≤ d k
                · have E := Lib.hid (show checkT T = (103, (k : Int)) by rw [← HF.out, hf, deepFrom, if_pos hd])
                  clear HF hf hf'
                  go_wp2
                  go_ret2
                  exact ⟨ret_chk E.out, BW⟩
                · have HF' := Lib.hid (show deepFrom d (T.length - (k + 1)) (k + 1) = checkT T by rw [← HF.out, hf, hf', deepFrom, if_neg hd])
                  have hd' : d k < 64 := by omega
                  clear HF hf hf' hd
                  go_wp2
                  go_round
                  case rel => exact ⟨k + 1, by omega, by go_num, HF'⟩
                  case measure => simp [intOf]; omega
              · obtain rfl : k = T.length := by omega
                have E := Lib.hid (show checkT T = (0, 0) by rw [← HF.out, Nat.sub_self]; rfl)
                clear HF hlt hk
                go_wp2
                go_ret2
                exact ⟨ret_chk E.out, BW⟩
end Go.Proofs.Ytihjefncjkdnpaa
