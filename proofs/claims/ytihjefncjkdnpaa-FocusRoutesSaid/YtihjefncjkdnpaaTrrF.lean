/- Trees: contract of the reference's Check. -/
import Derived.Test.YtihjefncjkdnpaaTrrF0
import Derived.StillTailTactics
import Derived.Outline
namespace Go.Proofs.Ytihjefncjkdnpaa
open Go.RowKit Go.Deep
set_option linter.unusedVariables false
set_option linter.unusedSimpArgs false

theorem ret_chk' {r : Int × Int} {a b : Int} (h : r = (a, b)) : Ending.returned (.tuple #[.int .i64 a, .int .i64 b]) = .returned (.tuple #[.int .i64 r.1, .int .i64 r.2]) := by rw [h]
theorem range_block {w w' : World} {b o : Nat} {cs : List Value} (h : w.rangeAt b o cs) (e : w'.heap[b]? = w.heap[b]?) : w'.rangeAt b o cs := fun j v hv => by
  rw [World.cell?_of_block e]; exact h j v hv
theorem rcw_start (w : World) (p : Option Addr) (c : Nat) (T : List Nd) : RcW w ((w.alloc (.cells #[.slice p T.length c] 24)).alloc (.cells (madeCells #[.bool false] T.length) 4)) (w.heap.size + 1) p c T (fun _ => false) := by
  obtain ⟨w0, h0⟩ : ∃ x, x = w.alloc (.cells #[.slice p T.length c] 24) := ⟨_, rfl⟩
  have B0 : Below w.heap.size w w0 := by rw [h0]; exact below_al (Below.refl _ _) _
  have z0 : w0.heap.size = w.heap.size + 1 := by rw [h0]; simp
  have x0 : w0.cell? ⟨w.heap.size, 0, none⟩ = some (.slice p T.length c) := by rw [h0]; simp [go_sem]
  rw [← h0, ← z0]
  have B1 : Below w0.heap.size w0 (w0.alloc (.cells (madeCells #[.bool false] T.length) 4)) := below_al (Below.refl _ _) _
  exact ⟨by omega, World.rowIs_made w0 (.bool false) T.length 4, below_via B1 B0, by rw [(bcell B1).1 _ _ (by omega)]; exact x0⟩
set_option maxRecDepth 100000 in
set_option maxHeartbeats 16000000 in
theorem ref_Check_any (p : Option Addr) (c : Nat) (T : List Nd) (w : World) (hT : TreeAt w (.slice p T.length c) T) : Calls Try.prog 51 #[.agg #[.slice p T.length c]] w fun e w' => e = .returned (.tuple #[.int .i64 (checkT T).1, .int .i64 (checkT T).2]) ∧ Below w.heap.size w w' := by
  have HT := Lib.hid hT
  obtain ⟨hok, hlen, p', c', e, hc1, hc2, hnds⟩ := hT
  injection e with e1 _ e3
  subst e1 e3
  rcases (show T.length = 0 ∨ 4096 < T.length ∨ (0 < T.length ∧ T.length ≤ 4096) by omega) with h0 | h0 | ⟨h0, h1⟩
  · have E := Lib.hid (show checkT T = (100, 0) by unfold checkT; rw [if_pos (.inl h0)])
    have h0' : (T.length : Int) < 1 := by omega
    clear hnds hok
    go_enter Try.func51, Try.ntmps51
    go_wp2
    go_ret2
    exact ⟨ret_chk E.out, by go_grown⟩
  · have E := Lib.hid (show checkT T = (100, 0) by unfold checkT; rw [if_pos (.inr h0)])
    have h0' : (1 : Int) ≤ (T.length : Int) := by omega
    have h1' : (4096 : Int) < (T.length : Int) := by omega
    clear hnds hok
    go_enter Try.func51, Try.ntmps51
    go_wp2
    go_ret2
    exact ⟨ret_chk E.out, by go_grown⟩
  · have E := Lib.hid (show resT T (T.drop 0) 0 (stAt T 0).1 (stAt T 0).2 = checkT T by unfold checkT; rw [if_neg (by omega)]; rfl)
    have h0' : (1 : Int) ≤ (T.length : Int) := by omega
    have h1' : (T.length : Int) ≤ 4096 := by omega
    obtain ⟨b, off, rfl, hb, hn⟩ := hnds h0
    have HN := Lib.hid hn
    have HOK := Lib.hid hok
    have ST := Lib.hid (rcw_start w (some ⟨b, off, none⟩) c T)
    have mk1 := run_make_row' (P := Try.prog) 68 4 (.bool false) 1 Try.underlying68 (by kernel_rfl) rfl .i64 .i64 T.length (by omega) (by omega)
    have mk2 := run_make_row' (P := Try.prog) 25 3 (.int .i64 0) 8 Try.underlying25 (by kernel_rfl) rfl .i64 .i64 T.length (by omega) (by omega)
    have MK2 := Lib.hid mk2
    clear hn hok hlen hc1 mk2
    go_enter Try.func51, Try.ntmps51
    go_wp2
    obtain ⟨BT, hBT⟩ : ∃ z, z = w.heap.size + 1 := ⟨_, rfl⟩
    rw [← hBT] at ST ⊢
    obtain ⟨ws, hws⟩ : ∃ x, x = (w.alloc (.cells #[.slice (some ⟨b, off, none⟩) T.length c] 24)).alloc (.cells (madeCells #[.bool false] T.length) 4) := ⟨_, rfl⟩
    rw [← hws] at ST ⊢
    clear hws hBT mk1
    go_loopw [5] (fun i wr => ∃ n : Nat, n ≤ T.length ∧ i = .int .i64 n ∧ RowKit.Hid (resT T (T.drop n) n (stAt T n).1 (stAt T n).2 = checkT T) ∧ RowKit.Hid (AllGo T n) ∧ RowKit.Hid (RcW w wr BT (some ⟨b, off, none⟩) c T (stAt T n).1)) (fun i _ => T.length - (intOf i).toNat)
    case atStart => exact ⟨0, Nat.zero_le _, rfl, E, Lib.hid (fun n hn => absurd hn (Nat.not_lt_zero _)), ST⟩
    case round =>
      clear E ST
      obtain ⟨n, hn, rfl, HR, HG, HW⟩ := hrel
      have box := HW.out.box
      have BW := HW.out.be
      have SW := BW.size
      have l1 := HW.out.l1
      by_cases hlt : n < T.length
      · obtain ⟨x, hxe⟩ : ∃ x, x = T.getD n zNd := ⟨_, rfl⟩
        have HX := Lib.hid hxe.symm
        have hxo : NdOk x := by
          rw [hxe, List.getD_eq_getElem?_getD, List.getElem?_eq_getElem hlt]
          exact HOK.out _ (List.getElem_mem hlt)
        have hx := HN.out n hlt
        rw [← hxe] at hx
        have HR' := Lib.hid (show resT T (x :: T.drop (n + 1)) n (stAt T n).1 (stAt T n).2 = checkT T by
          have := HR.out
          rw [List.drop_eq_getElem_cons hlt] at this
          rw [hxe, List.getD_eq_getElem?_getD, List.getElem?_eq_getElem hlt]
          exact this)
        clear hxe HR
        obtain ⟨kv, cv, hkv, hcv, hc⟩ := hx
        have RNG0 := nd_range (w := wr) (b := b) (o := off + n * 34) (x := x) (kv := kv) (cv := cv) (fun j hj => by rw [(bcell BW).1 _ _ hb]; exact hc j hj)
        have ONE0 := ndV_one hkv hcv
        have HCV := Lib.hid hcv
        have c0e : (ndV x kv cv)[0]? = some (.int .i8 x.kind) := rfl
        have c22e : (ndV x kv cv)[22]? = some (.string x.text) := rfl
        have len0 := ndV_len x kv cv
        obtain ⟨cs, hcs⟩ : ∃ cs, cs = ndV x kv cv := ⟨_, rfl⟩
        rw [← hcs] at RNG0 ONE0 c0e c22e len0
        have CSE := Lib.hid hcs
        have RNG1 := Lib.hid RNG0
        have ONE := Lib.hid ONE0
        have LEN := Lib.hid len0
        have C0 := Lib.hid c0e
        have C22 := Lib.hid c22e
        have HXO := Lib.hid hxo
        have hbw : b < wr.heap.size := by omega
        have hnT : (n : Int) < (T.length : Int) := by omega
        clear hc hkv hcv RNG0 ONE0 len0 c0e c22e hcs hxo
        go_wp2_with (first | ((with_reducible refine wpList_load_node ?g1 (.tmp 35) ?g2 b (off + n * 34) ?g3 cs LEN.out RNG1.out ?_); (case g1 => rfl); (case g2 => rfl); (case g3 => rfl)) | ((with_reducible refine wpList_store_node ?g1 (.tmp 6) (.tmp 36) ?g2 _ _ cs ?g3 ?g4 ?g5 LEN.out ONE.out ?_); (case g1 => rfl); (case g2 => rfl); (case g3 => rfl); (case g4 => rfl); (case g5 => rfl)))
        intro w3 hb3 hz3 hr3
        have n0 : w3.cell? ⟨wr.heap.size, 0, none⟩ = some (.int .i8 x.kind) := hr3 0 _ C0.out
        have HW3 := Lib.hid (HW.out.below hb3)
        have B3 := HW3.out.be
        have box3 := HW3.out.box
        have RX3 := Lib.hid hr3
        have lBT : BT < wr.heap.size := HW.out.rt.lt
        obtain ⟨BX, hBX⟩ : ∃ z, z = wr.heap.size := ⟨_, rfl⟩
        rw [← hBX] at n0 RX3 hz3 lBT
        rw [← hBX]
        have neX : BX ≠ BT := by omega
        clear hr3 hb3 box BW SW RNG1 HW hBX hbw
        by_cases hkd : x.kind < 1 ∨ 11 < x.kind
        · have E := Lib.hid (res_bad HR'.out (wrong_kind hkd) (by decide))
          rcases (show x.kind < 1 ∨ (1 ≤ x.kind ∧ 11 < x.kind) by omega) with h | ⟨h, h'⟩
          all_goals clear hkd
          all_goals go_wp2
          all_goals go_ret2
          all_goals exact ⟨ret_chk E.out, B3⟩
        · have HKD := Lib.hid hkd
          have kd1 : 1 ≤ x.kind := by omega
          have kd2 : x.kind ≤ 11 := by omega
          clear hkd
          go_wp2_with fail
          refine (ref_names_any (some ⟨b, off, none⟩) c n T x _ (HT.out.later B3) hlt HX.out).mono ?_
          rintro e w4 ⟨r, rfl, hr, hb4⟩
          have B4 := below_via hb4 B3
          cases r
          · have HNB : namesBad T n x := Classical.byContradiction fun h => by cases hr.2 h
            have E := Lib.hid (res_bad HR'.out (wrong_name HKD.out HNB) (by decide))
            clear HNB hr hb4
            go_wp2
            go_ret2
            exact ⟨ret_chk E.out, B4⟩
          · have HNB := Lib.hid (hr.1 rfl)
            have HW4 := Lib.hid (HW3.out.below hb4)
            have box4 := HW4.out.box
            have RX4 := Lib.hid (range_block RX3.out (below_block hb4 hz3))
            have hz4 : BX < w4.heap.size := by have := hb4.size; omega
            clear hr hb4 HW3 box3 RX3 n0 B3 hz3
            go_wp2_with fail
            refine (ref_kids_any (some ⟨b, off, none⟩) c n BT T.length T x (stAt T n).1 (stAt T n).2 w _ HT.out B4 (by omega) hlt HX.out HW4.out.rt kd1).mono ?_
            rintro e w5 ⟨r, rfl, hr, hg5, hrow⟩
            have B5 : Below w.heap.size w w5 := Below.grown B4 hg5 B4.size (fun k hk => by injection hk with hk; omega)
            cases r
            · have HKB : kidsBad T n x (stAt T n).1 (stAt T n).2 := Classical.byContradiction fun h => by cases hr.2 h
              have E := Lib.hid (res_bad HR'.out (wrong_kids HKD.out HNB.out HKB) (by decide))
              clear HKB hr hg5 hrow
              go_wp2
              go_ret2
              exact ⟨ret_chk E.out, B5⟩
            · have HKB := Lib.hid (hr.1 rfl)
              have HW5 := Lib.hid (HW4.out.kids hg5 (hrow rfl))
              have box5 := HW5.out.box
              have RNG := Lib.hid (range_block RX4.out (hg5.block BX hz4 (fun e => neX (by injection e))))
              have hz5 : BX < w5.heap.size := by have := hg5.size; omega
              have HCV5 := Lib.hid (HCV.out.later B5 (Nat.le_refl _))
              clear hr hg5 hrow HW4 box4 RX4 B4 hz4
              have hI := ref_items_any x kv cv w5 HCV5.out
              rw [← CSE.out] at hI
              have HI := Lib.hid hI
              clear hI
              go_wp2_with ((with_reducible refine wpList_load_node ?g1 (.tmp 6) ?g2 BX 0 ?g3 cs LEN.out RNG.out ?_); (case g1 => rfl); (case g2 => rfl); (case g3 => rfl))
              refine HI.out.mono ?_
              clear HI
              cases hit : itemsB x
              · have E := Lib.hid (res_bad HR'.out (wrong_items HKD.out HNB.out HKB.out hit) (by decide))
                clear hit
                rintro e w6 ⟨rfl, hb6⟩
                go_wp2
                go_ret2
                exact ⟨ret_chk E.out, below_via hb6 B5⟩
              · have HIT := Lib.hid hit
                clear hit
                rintro e w6 ⟨rfl, hb6⟩
                have HW6 := Lib.hid (HW5.out.below hb6)
                have B6 := HW6.out.be
                have box6 := HW6.out.box
                have RNG6 := Lib.hid (range_block RNG.out (below_block hb6 hz5))
                have hz6 : BX < w6.heap.size := by have := hb6.size; omega
                clear hb6 HW5 box5 RNG B5 hz5 HCV5
                have hF := ref_fields_any x kv cv w6 HXO.out
                rw [← CSE.out] at hF
                have HF := Lib.hid hF
                clear hF
                go_wp2_with ((with_reducible refine wpList_load_node ?g1 (.tmp 6) ?g2 BX 0 ?g3 cs LEN.out RNG6.out ?_); (case g1 => rfl); (case g2 => rfl); (case g3 => rfl))
                refine HF.out.mono ?_
                clear HF
                cases hfd : fieldsB x
                · have E := Lib.hid (res_bad HR'.out (wrong_fields HKD.out HNB.out HKB.out HIT.out hfd) (by decide))
                  clear hfd
                  rintro e w7 ⟨rfl, hb7⟩
                  go_wp2
                  go_ret2
                  exact ⟨ret_chk E.out, below_via hb7 B6⟩
                · have HFD := Lib.hid hfd
                  clear hfd
                  rintro e w7 ⟨rfl, hb7⟩
                  have HW7 := Lib.hid (HW6.out.below hb7)
                  have B7 := HW7.out.be
                  have box7 := HW7.out.box
                  have n22 : w7.cell? ⟨BX, 22, none⟩ = some (.string x.text) := by
                    rw [(bcell hb7).1 _ _ hz6]
                    have := RNG6.out 22 _ C22.out
                    simpa using this
                  clear hb7 HW6 box6 RNG6 B6 hz6
                  by_cases htx : 65536 < x.text.size
                  · have E := Lib.hid (res_bad HR'.out (wrong_text HKD.out HNB.out HKB.out HIT.out HFD.out htx) (by decide))
                    have d : (65536 : Int) < (x.text.size : Int) := by omega
                    clear htx
                    go_wp2
                    go_ret2
                    exact ⟨ret_chk E.out, B7⟩
                  · have HST := Lib.hid (show stAt T (n + 1) = after T.length n x (stAt T n).1 (stAt T n).2 by show after T.length n (T.getD n zNd) _ _ = _; rw [HX.out])
                    have HRN := Lib.hid (show resT T (T.drop (n + 1)) (n + 1) (stAt T (n + 1)).1 (stAt T (n + 1)).2 = checkT T by
                      have := res_ok HR'.out (wrong_none HKD.out HNB.out HKB.out HIT.out HFD.out (by omega))
                      rw [HST.out]
                      exact this)
                    have HG' := Lib.hid (show AllGo T (n + 1) from fun m hm => by
                      by_cases e : m = n
                      · subst e
                        rw [HX.out, HST.out]
                        unfold after
                        cases hk : kidGo T.length m x.kids (stAt T m).1 (stAt T m).2 with
                        | none => exact absurd (.inl (by rw [hk]; rfl)) HKB.out
                        | some r => rfl
                      · exact HG.out m (by omega))
                    have HW' := Lib.hid (show RcW w w7 BT (some ⟨b, off, none⟩) c T (stAt T (n + 1)).1 from by rw [HST.out]; exact HW7.out)
                    have d : (x.text.size : Int) ≤ 65536 := by omega
                    clear htx
                    go_wp2
                    go_roundw
                    case rel => exact ⟨n + 1, by omega, by go_num, HRN, HG', HW'⟩
                    case measure => simp [intOf]; omega
      · obtain rfl : n = T.length := by omega
        have HF := Lib.hid (show loneFrom (stAt T T.length).1 (deepFrom (stAt T T.length).2 T.length 0) (T.length - 1) 1 = checkT T by rw [← HR.out, List.drop_length]; rfl)
        have mk2 := MK2.out
        clear HR hlt hn
        go_upto_region 21 with (fail)
        have hrow0 := World.rowIs_made wr (.int .i64 0) T.length 3
        obtain ⟨w3, hw3⟩ : ∃ x, x = wr.alloc (.cells (madeCells #[.int .i64 0] T.length) 3) := ⟨_, rfl⟩
        have B3 : Below wr.heap.size wr w3 := by rw [hw3]; exact below_al (Below.refl _ _) _
        rw [← hw3] at hrow0 ⊢
        have lBT : BT < wr.heap.size := HW.out.rt.lt
        have RD0 := Lib.hid (show RdW w w3 BT wr.heap.size (some ⟨b, off, none⟩) c T (stAt T T.length).1 (fun _ => 0) from ⟨HW.out.below B3, by omega, by omega, hrow0⟩)
        obtain ⟨BD, hBD⟩ : ∃ z, z = wr.heap.size := ⟨_, rfl⟩
        rw [← hBD] at RD0 ⊢
        have d0 := RD0.out.rd.cell h0
        have f0 := RD0.out.rd.frozen 0
        have zD := RD0.out.rd.lt
        have box3 := RD0.out.rc.box
        have hT0 : (0 : Int) < (T.length : Int) := by omega
        have RD1 := Lib.hid (RD0.out.set 0 1)
        (try simp only [] at d0)
        clear hrow0 hw3 B3 hBD RD0 HW box BW SW mk2 lBT
        obtain ⟨fin, hfin⟩ : ∃ f, f = deepFrom (stAt T T.length).2 T.length 0 := ⟨_, rfl⟩
        have HFIN := Lib.hid hfin
        rw [← hfin] at HF
        clear hfin
        go_wp2
        go_loopw [8] (fun i wr => ∃ n : Nat, ∃ dR : Nat → Int, n ≤ T.length ∧ i = .int .i64 n ∧ RowKit.Hid (loneFrom (stAt T T.length).1 fin (T.length - max n 1) (max n 1) = checkT T) ∧ RowKit.Hid (∀ i, 1 ≤ i → i < n → (stAt T T.length).1 i = true) ∧ RowKit.Hid (Deeper (stAt T n).1 (stAt T n).2 dR) ∧ RowKit.Hid (∀ i, 0 ≤ dR i ∧ dR i ≤ (n : Int) + 1) ∧ RowKit.Hid (RdW w wr BT BD (some ⟨b, off, none⟩) c T (stAt T T.length).1 dR)) (fun i _ => T.length - (intOf i).toNat)
        case atStart => exact ⟨0, _, Nat.zero_le _, rfl, HF, Lib.hid (fun i h1 h2 => by omega), Lib.hid (fun i hi => by
          rcases hi with rfl | h
          · rfl
          · cases h), Lib.hid (fun i => by
          unfold upd
          split
          · omega
          · show (0 : Int) ≤ 0 ∧ (0 : Int) ≤ ((0 : Nat) : Int) + 1
            omega), RD1⟩
        case round =>
          clear HF RD1 d0 f0 zD box3
          obtain ⟨n, dR, hn, rfl, HL, HA, HD, HB, HW⟩ := hrel
          have box := HW.out.rc.box
          have BW := HW.out.rc.be
          have SW := BW.size
          by_cases hlt : n < T.length
          · have hnT : (n : Int) < (T.length : Int) := by omega
            have tn := HW.out.rc.rt.cell hlt
            (try simp only [] at tn)
            go_upto_region 25 with (fail)
            obtain ⟨bb, hbb⟩ : ∃ bb : Bool, bb = (decide (0 < n) && !(stAt T T.length).1 n) := ⟨_, rfl⟩
            have HBB := Lib.hid hbb
            clear hbb
            go_cut [91] (fun s wx => s = .bool bb ∧ wx = wr)
            case first =>
              rcases (show n = 0 ∨ 0 < n by omega) with hn0 | hn0
              · have hE := Lib.hid (show bb = false by rw [HBB.out, decide_eq_false (by omega), Bool.false_and])
                have d : (n : Int) ≤ 0 := by omega
                clear hn0
                go_wp2
                go_meet
                exact ⟨congrArg Value.bool hE.out.symm, rfl⟩
              · have hE := Lib.hid (show bb = !(stAt T T.length).1 n by rw [HBB.out, decide_eq_true hn0, Bool.true_and])
                have d : (0 : Int) < (n : Int) := by omega
                generalize (stAt T T.length).1 n = tv at *
                clear hn0
                go_wp2
                go_meet
                exact ⟨congrArg Value.bool hE.out.symm, rfl⟩
            case rest =>
              obtain ⟨rfl, hwc⟩ := hcut
              rw [hwc]
              clear hwc tn
              cases bb
              · have htn : n = 0 ∨ (stAt T T.length).1 n = true := by
                  have := HBB.out
                  rcases (show n = 0 ∨ 0 < n by omega) with h | h
                  · exact .inl h
                  · right
                    rw [decide_eq_true h, Bool.true_and, eq_comm, Bool.not_eq_false'] at this
                    exact this
                have hlow := st_low HG.out (T.length - n) n n (by omega) (Nat.le_refl _)
                rw [show n + (T.length - n) = T.length by omega] at hlow
                have HTN := Lib.hid (show n = 0 ∨ (stAt T n).1 n = true by rw [← hlow.1]; exact htn)
                have HTN' := Lib.hid htn
                have hx := HN.out n hlt
                obtain ⟨x, hxe⟩ : ∃ x, x = T.getD n zNd := ⟨_, rfl⟩
                have HX := Lib.hid hxe.symm
                rw [← hxe] at hx
                obtain ⟨kv, cv, hkv, _, hc⟩ := hx
                obtain ⟨pk, ck, rfl, l1, l2, _, hks⟩ := hkv
                have HC3 := Lib.hid (show w.cell? ⟨b, off + n * 34 + 3, none⟩ = some (.slice pk x.kids.length ck) from hc 3 (by omega))
                have HKS := Lib.hid hks
                have HGO := Lib.hid (show kidGo T.length n x.kids (stAt T n).1 (stAt T n).2 = some (stAt T (n + 1)) by rw [← HX.out]; exact HG.out n hlt)
                have HB0 := Lib.hid (show ∀ i, 0 ≤ dR i ∧ dR i ≤ (n : Int) + 2 from fun i => ⟨(HB.out i).1, by have := (HB.out i).2; omega⟩)
                have HBn := (HB.out n).2
                clear hc hks hxe hlow htn HBB box BW SW HB
                go_wp2
                go_loopw [9] (fun i wr => ∃ j : Nat, ∃ t2 : Nat → Bool, ∃ d2 dS : Nat → Int, j ≤ x.kids.length ∧ i = .int .i64 j ∧ RowKit.Hid (kidGo T.length n (x.kids.drop j) t2 d2 = some (stAt T (n + 1))) ∧ RowKit.Hid (Deeper t2 d2 dS) ∧ RowKit.Hid (n = 0 ∨ t2 n = true) ∧ RowKit.Hid (∀ i, 0 ≤ dS i ∧ dS i ≤ (n : Int) + 2) ∧ dS n ≤ (n : Int) + 1 ∧ RowKit.Hid (RdW w wr BT BD (some ⟨b, off, none⟩) c T (stAt T T.length).1 dS)) (fun i _ => x.kids.length - (intOf i).toNat)
                case atStart => exact ⟨0, _, _, _, Nat.zero_le _, rfl, HGO, HD, HTN, HB0, HBn, HW⟩
                case round =>
                  clear HD HTN HB0 HBn HW HGO
                  obtain ⟨j, t2, d2, dS, hj, rfl, HGO, HD, HTN, HB, HBn, HW⟩ := hrel
                  obtain ⟨wj, hwj⟩ : ∃ x : World, x = wr := ⟨_, rfl⟩
                  rw [← hwj] at HW ⊢
                  clear hwj
                  have box := HW.out.rc.box
                  have BW := HW.out.rc.be
                  have SW := BW.size
                  have c3 : wj.cell? ⟨b, off + n * 34 + 3, none⟩ = some (.slice pk x.kids.length ck) := by rw [(bcell BW).1 _ _ hb]; exact HC3.out
                  have hbw : b < wj.heap.size := by omega
                  by_cases hjl : j < x.kids.length
                  · obtain ⟨bk, ok, rfl, hbk, hkc⟩ := HKS.out (by omega)
                    obtain ⟨k, hke⟩ : ∃ k, k = x.kids.getD j 0 := ⟨_, rfl⟩
                    have kc : wj.cell? ⟨bk, ok + j, none⟩ = some (.int .i64 k) := by rw [(bcell BW).1 _ _ hbk, hkc j hjl, hke]
                    have hbkw : bk < wj.heap.size := by omega
                    have hG : kidGo T.length n (k :: x.kids.drop (j + 1)) t2 d2 = some (stAt T (n + 1)) := by
                      have := HGO.out
                      rw [List.drop_eq_getElem_cons hjl] at this
                      rw [hke, List.getD_eq_getElem?_getD, List.getElem?_eq_getElem hjl]
                      exact this
                    have hkb : ¬ (k ≤ (n : Int) ∨ (T.length : Int) ≤ k ∨ t2 k.toNat = true) := fun h => by rw [kidGo_bad h] at hG; cases hG
                    have hk1 : ¬ k ≤ (n : Int) := fun h => hkb (.inl h)
                    have hk2 : ¬ (T.length : Int) ≤ k := fun h => hkb (.inr (.inl h))
                    obtain ⟨q, rfl⟩ : ∃ q : Nat, k = (q : Int) := ⟨k.toNat, by omega⟩
                    have hq1 : n < q := by omega
                    have hq2 : q < T.length := by omega
                    have hq3 : (q : Int) < (T.length : Int) := by omega
                    have htq : t2 q = false := by
                      cases h : t2 q
                      · rfl
                      · exact absurd (.inr (.inr (by rw [Int.toNat_natCast]; exact h))) hkb
                    rw [kidGo_ok hq1 hq2 htq] at hG
                    have HGO' := Lib.hid hG
                    have HD' := Lib.hid (deeper_upd (q := q) HD.out HTN.out)
                    have HTN2 := Lib.hid (show n = 0 ∨ upd t2 q true n = true from HTN.out.elim .inl fun h => .inr (by rw [upd_other (by omega)]; exact h))
                    have hdn0 := (HB.out n).1
                    have HB' := Lib.hid (show ∀ i, 0 ≤ upd dS q (dS n + 1) i ∧ upd dS q (dS n + 1) i ≤ (n : Int) + 2 from fun i => by
                      unfold upd
                      split
                      · omega
                      · exact HB.out i)
                    have HBn' := Lib.hid (show upd dS q (dS n + 1) n ≤ (n : Int) + 1 by rw [upd_other (by omega)]; exact HBn)
                    have HW' := Lib.hid (HW.out.set q (dS n + 1))
                    have dn := HW.out.rd.cell hlt
                    have dq := HW.out.rd.cell hq2
                    have gq := HW.out.rd.frozen q
                    have zD := HW.out.rd.lt
                    (try simp only [] at dn dq)
                    generalize dS n = dv at dn HD' HB' HBn' HW' hdn0 HBn
                    clear hkb hke hkc htq hG
                    go_upto_region 30 with (fail)
                    go_still_tail 16, (by kernel_rfl)
                    change wpList _ _ _ _ _ wj.drew
                    generalize hq : wj.drew = w5
                    have HW5 := Lib.hid (show RdW w (w5.setCell ⟨BD, q, none⟩ (.int .i64 (dv + 1))) BT BD (some ⟨b, off, none⟩) c T (stAt T T.length).1 (upd dS q (dv + 1)) by
                      rw [← hq]
                      exact HW'.out.drew_in)
                    have dq5 : w5.cell? ⟨BD, q, none⟩ = some (.int .i64 (dS q)) := by rw [← hq]; exact dq
                    have gq5 : w5.frozen? ⟨BD, q, none⟩ = false := by rw [← hq]; exact gq
                    have zD5 : BD < w5.heap.size := by rw [← hq]; exact zD
                    clear hq dq gq dn zD box kc c3 HW'
                    go_wp2
                    go_roundw
                    case rel => exact ⟨j + 1, _, _, _, by omega, by go_num, HGO', HD', HTN2, HB', HBn'.out, HW5⟩
                    case measure => simp [intOf]; omega
                  · obtain rfl : j = x.kids.length := by omega
                    have hst : (t2, d2) = stAt T (n + 1) := by
                      have := HGO.out
                      rw [List.drop_length, kidGo] at this
                      injection this
                    have HD' := Lib.hid (show Deeper (stAt T (n + 1)).1 (stAt T (n + 1)).2 dS by rw [← hst]; exact HD.out)
                    have HB' := Lib.hid (show ∀ i, 0 ≤ dS i ∧ dS i ≤ ((n + 1 : Nat) : Int) + 1 from fun i => ⟨(HB.out i).1, by have := (HB.out i).2; omega⟩)
                    have HL' := Lib.hid (show loneFrom (stAt T T.length).1 fin (T.length - max (n + 1) 1) (max (n + 1) 1) = checkT T by
                      rw [show max (n + 1) 1 = n + 1 by omega, ← HL.out]
                      rcases HTN'.out with h | h
                      · subst h; rfl
                      · rcases (show n = 0 ∨ 0 < n by omega) with h' | h'
                        · subst h'; rfl
                        · rw [show max n 1 = n by omega, lone_step (by omega) hlt, if_pos h])
                    have HA' := Lib.hid (show ∀ i, 1 ≤ i → i < n + 1 → (stAt T T.length).1 i = true from fun i h1 h2 => by
                      by_cases e : i = n
                      · subst e
                        rcases HTN'.out with h | h
                        · omega
                        · exact h
                      · exact HA.out i h1 (by omega))
                    clear HGO HD HB HTN hst hjl hj
                    go_wp2
                    go_roundw
                    case rel => exact ⟨n + 1, dS, by omega, by go_num, HL', HA', HD', HB', HW⟩
                    case measure => simp [intOf]; omega
              · have hE : 0 < n ∧ (stAt T T.length).1 n = false := by
                  have := HBB.out
                  rw [eq_comm, Bool.and_eq_true, decide_eq_true_eq, Bool.not_eq_true'] at this
                  exact this
                have E := Lib.hid (show checkT T = (102, (n : Int)) by
                  rw [← HL.out, show max n 1 = n by omega, lone_step (by omega) hlt, hE.2, if_neg (by decide)])
                go_wp2
                go_ret2
                exact ⟨ret_chk E.out, BW⟩
          · obtain rfl : n = T.length := by omega
            have HL' := Lib.hid (show deepFrom (stAt T T.length).2 (T.length - 0) 0 = checkT T by
              rw [← HL.out, show max T.length 1 = T.length by omega, Nat.sub_self, Nat.sub_zero]
              show _ = fin
              exact HFIN.out.symm)
            have HDD := Lib.hid (show ∀ i, i < T.length → dR i = (stAt T T.length).2 i + 1 from fun i hi => HD.out i (by
              rcases (show i = 0 ∨ 1 ≤ i by omega) with h | h
              · exact .inl h
              · exact .inr (HA.out i h hi)))
            have RD := Lib.hid HW.out.rd
            clear HL HA HD HB HW hlt hn
            go_wp2
            go_loop [10] (fun i => ∃ k : Nat, k ≤ T.length ∧ i = .int .i64 k ∧ RowKit.Hid (deepFrom (stAt T T.length).2 (T.length - k) k = checkT T)) (fun i => T.length - (intOf i).toNat)
            case atStart => exact ⟨0, Nat.zero_le _, rfl, HL'⟩
            case round =>
              clear HL'
              obtain ⟨k, hk, rfl, HF⟩ := hrel
              by_cases hlt : k < T.length
              · have dk := RD.out.cell hlt
                have e1 := HDD.out k hlt
                by_cases hd : 64 ≤ (stAt T T.length).2 k
                · have E := Lib.hid (show checkT T = (103, (k : Int)) by rw [← HF.out, deep_step hlt, if_pos hd])
                  have hd2 : 64 < dR k := by omega
                  clear HF hd e1
                  generalize dR k = v at *
                  go_wp2
                  go_ret2
                  exact ⟨ret_chk E.out, BW⟩
                · have HF' := Lib.hid (show deepFrom (stAt T T.length).2 (T.length - (k + 1)) (k + 1) = checkT T by rw [← HF.out, deep_step hlt, if_neg hd])
                  have hd2 : dR k ≤ 64 := by omega
                  clear HF hd e1
                  generalize dR k = v at *
                  go_wp2
                  go_round
                  case rel => exact ⟨k + 1, by omega, by go_num, HF'⟩
                  case measure => simp [intOf]; omega
              · obtain rfl : k = T.length := by omega
                have E := Lib.hid (show checkT T = (0, 0) by rw [← HF.out, Nat.sub_self]; rfl)
                clear HF hlt hk
                go_wp2
                go_ret2
                exact ⟨ret_chk E.out, BW⟩
end Go.Proofs.Ytihjefncjkdnpaa
