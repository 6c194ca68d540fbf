/- Reading trees' bytes: the contract of tree.Decode. -/
import Derived.Test.YtcihihncgpddfaaDecB
import Derived.StillTailTactics
import Derived.Laws.EntriesVeiled
import Derived.Deep.DeepCutAuto
namespace Go.Proofs.Ytcihihncgpddfaa
open Go.RowKit Go.Deep
set_option linter.unusedVariables false
set_option linter.unusedSimpArgs false

theorem row_sl2 {w : World} {base : Nat} {t : TypeId} {k n : Nat} {v : Value} {xs : List Value} (h : w.ownsRow base t k v n xs) : ∃ p c, v = .slice p n c := by
  rcases row_form h with ⟨rfl, rfl, _⟩ | ⟨g, c, rfl, _⟩
  · exact ⟨_, _, rfl⟩
  · exact ⟨_, _, rfl⟩
theorem tyRd2 : 100 ≠ 24 ∧ 100 ≠ 90 := ⟨by decide, by decide⟩
set_option maxRecDepth 100000 in
set_option maxHeartbeats 16000000 in
theorem tree_Decode_any (sv : Value) (B : List Int) (w : World) (hB : BytesAt w sv B) (hby : Byte8 B) : Calls Try.prog 22 #[sv] w (RetDec B w) := by
  obtain ⟨p, c, rfl, hc1, hc2, -⟩ := id hB
  by_cases hbig : 1048576 < B.length
  · have E := Lib.hid (decT_long hbig)
    have hbi : (1048576 : Int) < (B.length : Int) := by omega
    clear hB hbig
    go_enter Try.func22, Try.ntmps22
    go_wp2
    refine bodyPost_ret (v := .tuple #[.agg #[.slice none 0 0], .int .i64 3, .int .i64 0]) (by simp [results, Try.results22, go_sem]) rfl ?_
    exact ret_dcd_nil E.out (by go_grown)
  · have hl : B.length ≤ 1048576 := by omega
    have hbi : ¬ (1048576 : Int) < (B.length : Int) := by omega
    have HB := Lib.hid hB
    have HBY := Lib.hid hby
    clear hB hbig hby
    go_enter Try.func22, Try.ntmps22
    go_wp2
    obtain ⟨W1, hW1⟩ : ∃ x, x = ((w.alloc (.cells #[.slice none 0 0] 24)).alloc (.cells #[.slice p B.length c, .int .i64 0, .int .i64 0, .int .i64 0] 100)).alloc (.cells #[.int .u8 70, .int .u8 84, .int .u8 1] 5) := ⟨_, rfl⟩
    have BW1 : Below w.heap.size w W1 := by rw [hW1]; go_grown
    have b0 : W1.heap[w.heap.size]? = some (.cells #[.slice none 0 0] 24 (0, 0)) := by rw [hW1, heap_alloc_old _ _ (by simp; omega), heap_alloc_old _ _ (by simp)]; exact heap_alloc_new _ _
    have b1 : W1.heap[w.heap.size + 1]? = some (.cells #[.slice p B.length c, .int .i64 0, .int .i64 0, .int .i64 0] 100 (0, 0)) := by
      rw [hW1, heap_alloc_old _ _ (by simp)]
      have := heap_alloc_new (w.alloc (.cells #[.slice none 0 0] 24)) (.cells #[.slice p B.length c, .int .i64 0, .int .i64 0, .int .i64 0] 100)
      simpa using this
    have b2 : W1.heap[w.heap.size + 1 + 1]? = some (.cells #[.int .u8 70, .int .u8 84, .int .u8 1] 5 (0, 0)) := by
      rw [hW1]
      have := heap_alloc_new ((w.alloc (.cells #[.slice none 0 0] 24)).alloc (.cells #[.slice p B.length c, .int .i64 0, .int .i64 0, .int .i64 0] 100)) (.cells #[.int .u8 70, .int .u8 84, .int .u8 1] 5)
      simpa using this
    rw [← hW1]
    obtain ⟨rb, hrb⟩ : ∃ x, x = w.heap.size + 1 := ⟨_, rfl⟩
    rw [← hrb] at b1 b2
    simp only [← hrb]
    have z0 : w.heap.size < rb := by omega
    have hne0 : w.heap.size ≠ rb := by omega
    have hne2 : rb + 1 ≠ rb := by omega
    have R1 := Lib.hid (show RdAt 100 w W1 rb (.slice p B.length c) B (hdS B 0) from ⟨b1, by omega, BW1, HB.out, Nat.zero_le _, hl, HBY.out⟩)
    have D0 := Lib.hid b0
    have D2 := Lib.hid b2
    clear hW1 BW1 b0 b1 b2 hrb
    go_loopw [28] (fun iv wr => ∃ (i : Nat) (s : Rs), iv = .int .i64 i ∧ i ≤ 3 ∧ RowKit.Hid (RdS 100 w W1 rb (.slice p B.length c) B s wr) ∧ RowKit.Hid (s = hdS B i)) (fun iv _ => 3 - (intOf iv).toNat)
    case atStart => exact ⟨0, _, rfl, by omega, Lib.hid (RdS.refl R1.out), Lib.hid rfl⟩
    case round =>
      obtain ⟨i, s, rfl, hi, HS, HE⟩ := hrel
      have d2 := (HS.out.fr (rb + 1) (lt_of_block D2.out) hne2).trans D2.out
      have zhb := lt_of_block d2
      obtain rfl | rfl | rfl | rfl : i = 0 ∨ i = 1 ∨ i = 2 ∨ i = 3 := by omega
      · have hc : wr.cell? ⟨rb + 1, 0, none⟩ = some (.int .u8 70) := by rw [cell_of_row _ _ _ _ _ _ d2]; rfl
        have HC := Lib.hid (rd_octet w wr rb _ B s 255 HS.out.at_)
        have hrg := octR_u 255 HBY.out s (by decide)
        obtain ⟨r, hr⟩ : ∃ r, r = octR 255 B s := ⟨_, rfl⟩
        have HW := Lib.hid (And.intro (want_yes (i := 0) (c := 70) (B := B) (s := s)) (want_no (i := 0) (c := 70) (B := B) (s := s)))
        rw [← hr] at HC HW hrg
        obtain ⟨ch, s2⟩ := r
        simp only at HW hrg
        obtain ⟨hg0, hg1, _⟩ := hrg
        have HE2 := Lib.hid (show hdS B 1 = (wantR 0 70 B s).2 by rw [HE.out]; rfl)
        clear hr d2
        by_cases hch : ch = 70
        · have hcb : (ch == 70) = true := by rw [beq_iff_eq]; exact hch
          have EQ := Lib.hid (HW.out.1 hch)
          clear HW
          go_wp2_with fail
          refine HC.out.mono ?_
          rintro e w2 ⟨rfl, hs⟩
          have HS2 := Lib.hid (HS.out.trans hs)
          clear hs HC HS
          simp only at HS2 ⊢
          go_wp2
          go_roundw
          case rel => exact ⟨1, s2, by first | rfl | go_num, by omega, HS2, Lib.hid (by rw [HE2.out, EQ.out])⟩
          case measure => simp [intOf]
        · have hcb : (ch == 70) = false := beq_eq_false_iff_ne.2 hch
          have EQ := Lib.hid (HW.out.2 hch)
          clear HW
          go_wp2_with fail
          refine HC.out.mono ?_
          rintro e w2 ⟨rfl, hs⟩
          have HS2 := Lib.hid (HS.out.trans hs)
          have HF := Lib.hid (rd_fail w w2 rb _ B s2 100 0 hs.at_)
          clear hs HC HS
          simp only at HS2 ⊢
          go_wp2_with fail
          refine HF.out.mono ?_
          rintro e w3 ⟨rfl, hs⟩
          have HS3 := Lib.hid (HS2.out.trans hs)
          clear hs HF HS2
          go_wp2
          go_roundw
          case rel => exact ⟨1, _, by first | rfl | go_num, by omega, HS3, Lib.hid (by rw [HE2.out, EQ.out]; rfl)⟩
          case measure => simp [intOf]
      · have hc : wr.cell? ⟨rb + 1, 1, none⟩ = some (.int .u8 84) := by rw [cell_of_row _ _ _ _ _ _ d2]; rfl
        have HC := Lib.hid (rd_octet w wr rb _ B s 255 HS.out.at_)
        have hrg := octR_u 255 HBY.out s (by decide)
        obtain ⟨r, hr⟩ : ∃ r, r = octR 255 B s := ⟨_, rfl⟩
        have HW := Lib.hid (And.intro (want_yes (i := 1) (c := 84) (B := B) (s := s)) (want_no (i := 1) (c := 84) (B := B) (s := s)))
        rw [← hr] at HC HW hrg
        obtain ⟨ch, s2⟩ := r
        simp only at HW hrg
        obtain ⟨hg0, hg1, _⟩ := hrg
        have HE2 := Lib.hid (show hdS B 2 = (wantR 1 84 B s).2 by rw [HE.out]; rfl)
        clear hr d2
        by_cases hch : ch = 84
        · have hcb : (ch == 84) = true := by rw [beq_iff_eq]; exact hch
          have EQ := Lib.hid (HW.out.1 hch)
          clear HW
          go_wp2_with fail
          refine HC.out.mono ?_
          rintro e w2 ⟨rfl, hs⟩
          have HS2 := Lib.hid (HS.out.trans hs)
          clear hs HC HS
          simp only at HS2 ⊢
          go_wp2
          go_roundw
          case rel => exact ⟨2, s2, by first | rfl | go_num, by omega, HS2, Lib.hid (by rw [HE2.out, EQ.out])⟩
          case measure => simp [intOf]
        · have hcb : (ch == 84) = false := beq_eq_false_iff_ne.2 hch
          have EQ := Lib.hid (HW.out.2 hch)
          clear HW
          go_wp2_with fail
          refine HC.out.mono ?_
          rintro e w2 ⟨rfl, hs⟩
          have HS2 := Lib.hid (HS.out.trans hs)
          have HF := Lib.hid (rd_fail w w2 rb _ B s2 100 1 hs.at_)
          clear hs HC HS
          simp only at HS2 ⊢
          go_wp2_with fail
          refine HF.out.mono ?_
          rintro e w3 ⟨rfl, hs⟩
          have HS3 := Lib.hid (HS2.out.trans hs)
          clear hs HF HS2
          go_wp2
          go_roundw
          case rel => exact ⟨2, _, by first | rfl | go_num, by omega, HS3, Lib.hid (by rw [HE2.out, EQ.out]; rfl)⟩
          case measure => simp [intOf]
      · have hc : wr.cell? ⟨rb + 1, 2, none⟩ = some (.int .u8 1) := by rw [cell_of_row _ _ _ _ _ _ d2]; rfl
        have HC := Lib.hid (rd_octet w wr rb _ B s 255 HS.out.at_)
        have hrg := octR_u 255 HBY.out s (by decide)
        obtain ⟨r, hr⟩ : ∃ r, r = octR 255 B s := ⟨_, rfl⟩
        have HW := Lib.hid (And.intro (want_yes (i := 2) (c := 1) (B := B) (s := s)) (want_no (i := 2) (c := 1) (B := B) (s := s)))
        rw [← hr] at HC HW hrg
        obtain ⟨ch, s2⟩ := r
        simp only at HW hrg
        obtain ⟨hg0, hg1, _⟩ := hrg
        have HE2 := Lib.hid (show hdS B 3 = (wantR 2 1 B s).2 by rw [HE.out]; rfl)
        clear hr d2
        by_cases hch : ch = 1
        · have hcb : (ch == 1) = true := by rw [beq_iff_eq]; exact hch
          have EQ := Lib.hid (HW.out.1 hch)
          clear HW
          go_wp2_with fail
          refine HC.out.mono ?_
          rintro e w2 ⟨rfl, hs⟩
          have HS2 := Lib.hid (HS.out.trans hs)
          clear hs HC HS
          simp only at HS2 ⊢
          go_wp2
          go_roundw
          case rel => exact ⟨3, s2, by first | rfl | go_num, by omega, HS2, Lib.hid (by rw [HE2.out, EQ.out])⟩
          case measure => simp [intOf]
        · have hcb : (ch == 1) = false := beq_eq_false_iff_ne.2 hch
          have EQ := Lib.hid (HW.out.2 hch)
          clear HW
          go_wp2_with fail
          refine HC.out.mono ?_
          rintro e w2 ⟨rfl, hs⟩
          have HS2 := Lib.hid (HS.out.trans hs)
          have HF := Lib.hid (rd_fail w w2 rb _ B s2 100 2 hs.at_)
          clear hs HC HS
          simp only at HS2 ⊢
          go_wp2_with fail
          refine HF.out.mono ?_
          rintro e w3 ⟨rfl, hs⟩
          have HS3 := Lib.hid (HS2.out.trans hs)
          clear hs HF HS2
          go_wp2
          go_roundw
          case rel => exact ⟨3, _, by first | rfl | go_num, by omega, HS3, Lib.hid (by rw [HE2.out, EQ.out]; rfl)⟩
          case measure => simp [intOf]
      · have HS3 := HS
        rw [HE.out] at HS3
        clear d2 zhb HS HE D2
        obtain ⟨w3, hw3⟩ : ∃ x, x = wr := ⟨_, rfl⟩
        rw [← hw3] at HS3 ⊢
        clear hw3
        have d0 := (HS3.out.fr _ (lt_of_block D0.out) hne0).trans D0.out
        have D3 := Lib.hid d0
        clear d0 D0
        obtain ⟨s3, hs3⟩ : ∃ s, s = hdS B 3 := ⟨_, rfl⟩
        have HC := Lib.hid (rd_number w w3 rb _ B s3 (by rw [hs3]; exact HS3.out.at_))
        have HCNT := Lib.hid (show cntS B = numR B s3 by rw [hs3]; rfl)
        have HBG := Lib.hid (show bgS B = if (cntS B).1 = 0 ∨ 4096 < (cntS B).1 then failS 100 s3.at_ (cntS B).2 else (cntS B).2 by rw [hs3]; rfl)
        have hnr := numR_range HBY.out s3
        rw [← hs3] at HS3
        obtain ⟨a3, cd3, bd3⟩ := s3
        have q1 : w3.cell? ⟨rb, 1, none⟩ = some (.int .i64 a3) := HS3.out.at_.cells.2.1
        have q3 := HS3.out.at_.lt
        rw [← HCNT.out] at HC hnr
        obtain ⟨r, hr⟩ : ∃ r, r = cntS B := ⟨_, rfl⟩
        have HR := Lib.hid hr
        rw [← hr] at HC hnr HBG
        obtain ⟨n, s4⟩ := r
        simp only at hnr HBG
        obtain ⟨hn0, hn1⟩ := hnr
        obtain ⟨n, rfl⟩ := Int.eq_ofNat_of_zero_le hn0
        clear hs3 hr HCNT hn0 hn1
        go_wp2_with fail
        refine HC.out.mono ?_
        clear HC q1 q3
        rintro e w4 ⟨rfl, hs⟩
        have HS4 := Lib.hid (HS3.out.trans hs)
        have D4 := Lib.hid ((hs.fr _ (lt_of_block D3.out) hne0).trans D3.out)
        clear hs HS3 D3
        simp only at HS4 ⊢
        obtain ⟨bb, hbb⟩ : ∃ b, b = decide ((n : Int) = 0 ∨ (4096 : Int) < (n : Int)) := ⟨_, rfl⟩
        have HBB := Lib.hid hbb
        go_upto_region 13 with (fail)
        go_cut [54] (fun s wx => s = .bool bb ∧ wx = w4)
        case first =>
          by_cases hz : (n : Int) = 0
          · have hzb : ((n : Int) == 0) = true := by rw [beq_iff_eq]; exact hz
            have e : bb = true := by rw [hbb, decide_eq_true_eq]; exact .inl hz
            clear hz hbb HBB
            go_wp2_with fail
            go_meet
            exact ⟨by rw [e], rfl⟩
          · have hzb : ((n : Int) == 0) = false := beq_eq_false_iff_ne.2 hz
            have e : bb = decide ((4096 : Int) < (n : Int)) := by rw [hbb]; exact decide_eq_decide.2 ⟨fun h => h.resolve_left hz, .inr⟩
            clear hz hbb HBB
            go_wp2_with fail
            go_meet
            exact ⟨by rw [e], rfl⟩
        case rest =>
        obtain ⟨rfl, rfl⟩ := hcut
        clear hbb
        go_upto_if 54 with (fail)
        go_cut [10] (fun s wx => s = .int .i64 n ∧ RowKit.Hid (RdS 100 w W1 rb (.slice p B.length c) B (bgS B) wx) ∧ RowKit.Hid (wx.heap[w.heap.size]? = some (.cells #[.slice none 0 0] 24 (0, 0))))
        case first =>
          cases bb
          · have hq := of_decide_eq_false HBB.out.symm
            have EB := Lib.hid (HBG.out.trans (if_neg hq))
            clear hq HBB
            go_wp2_with fail
            go_meet
            exact ⟨rfl, Lib.hid (by rw [EB.out]; exact HS4.out), D4⟩
          · have hq := of_decide_eq_true HBB.out.symm
            have EB := Lib.hid (HBG.out.trans (if_pos hq))
            have HF := Lib.hid (rd_fail w _ rb _ B s4 100 a3 HS4.out.at_)
            clear hq HBB
            go_wp2_with fail
            refine HF.out.mono ?_
            rintro e w5 ⟨rfl, hs⟩
            have HX := Lib.hid (show RdS 100 w W1 rb (.slice p B.length c) B (bgS B) w5 by rw [EB.out]; exact HS4.out.trans hs)
            have DX := Lib.hid ((hs.fr _ (lt_of_block D4.out) hne0).trans D4.out)
            clear hs
            go_wp2_with fail
            go_meet
            exact ⟨rfl, HX, DX⟩
        case rest =>
        obtain ⟨rfl, HS5, D5⟩ := hcut
        clear HS4 D4
        go_wp2_with fail
        obtain ⟨w6, hw6⟩ : ∃ x, x = wc.alloc (.cells #[.slice none 0 0] 24) := ⟨_, rfl⟩
        have B6 : Below wc.heap.size wc w6 := by rw [hw6]; exact below_al (Below.refl _ _) _
        have b6 : w6.heap[wc.heap.size]? = some (.cells #[.slice none 0 0] 24 (0, 0)) := by rw [hw6]; exact heap_alloc_new _ _
        rw [← hw6]
        refine (parts_any w6).mono ?_
        obtain ⟨w7, hw7⟩ : ∃ x, x = w6.alloc (.cells partsA 90) := ⟨_, rfl⟩
        have B7 : Below w6.heap.size w6 w7 := by rw [hw7]; exact below_al (Below.refl _ _) _
        have b7 : w7.heap[w6.heap.size]? = some (.cells partsA 90 (0, 0)) := by rw [hw7]; exact heap_alloc_new _ _
        have z6 : w6.heap.size = wc.heap.size + 1 := by rw [hw6]; simp
        have zwc : w.heap.size < wc.heap.size := lt_of_block D5.out
        obtain ⟨tb, htb⟩ : ∃ x, x = wc.heap.size := ⟨_, rfl⟩
        obtain ⟨gp, hgp⟩ : ∃ x, x = w6.heap.size := ⟨_, rfl⟩
        have DS := Lib.hid (show DecS 100 w rb (.slice p B.length c) B w.heap.size tb gp (bgS B) [] (.slice none 0 0) (fun _ => .slice none 0 0) (fun _ => .slice none 0 0) w7 from ⟨(HS5.out.at_.later B6).later B7, OwnT.nil _ _ _ _, by rw [htb]; exact (B7.block _ (by omega)).trans b6, (B7.block _ (by omega)).trans ((B6.block _ zwc).trans D5.out), by rw [hgp]; exact b7, by omega, by omega⟩)
        have hn0 : (cntS B).1 = (n : Int) := by rw [← HR.out]
        have HRES := Lib.hid (show (([] : List Nd) ++ (manyR ndR n B (bgS B)).1, (manyR ndR n B (bgS B)).2) = ndsS B by rw [List.nil_append]; unfold ndsS; rw [hn0, Int.toNat_natCast])
        have H40 := Lib.hid (show (bgS B).code = 0 → n ≤ 4096 from fun h => by
          rw [HBG.out] at h
          by_cases hb : (n : Int) = 0 ∨ (4096 : Int) < (n : Int)
          · rw [if_pos hb] at h; exact absurd h (failS_code (by decide))
          · omega)
        rw [← hw7, ← htb, ← hgp]
        clear hw6 hw7 B6 B7 b6 b7 z6 zwc hn0 HS5 D5 htb hgp HBG HR HBB
        rintro e w8 ⟨rfl, rfl⟩
        go_wp2
        go_loopw [13] (fun iv wr => ∃ (l : List Nd) (r : Nat) (s : Rs) (tv : Value) (kvs cvs : Nat → Value), iv = .int .i64 l.length ∧ l.length + r = n ∧ l.length ≤ 4096 ∧ RowKit.Hid (DecS 100 w rb (.slice p B.length c) B w.heap.size tb gp s l tv kvs cvs wr) ∧ RowKit.Hid ((l ++ (manyR ndR r B s).1, (manyR ndR r B s).2) = ndsS B) ∧ RowKit.Hid (∀ x ∈ l, NdOk x) ∧ RowKit.Hid (s.code = 0 → n ≤ 4096)) (fun iv _ => n - (intOf iv).toNat)
        case atStart => exact ⟨[], n, bgS B, _, _, _, rfl, by simp, by simp, DS, HRES, Lib.hid (fun x hx => by cases hx), H40⟩
        case round =>
          clear DS HRES H40
          obtain ⟨l, r, s, tv, kvs, cvs, rfl, hlr, hl4, HS, HE, HOK, H40⟩ := hrel
          have k2 := HS.out.rd.cells.2.2.1
          have k3 := HS.out.rd.lt
          obtain ⟨wo, hwo⟩ : ∃ x, x = wr := ⟨_, rfl⟩
          rw [← hwo] at HS k2 k3 ⊢
          obtain ⟨bb, hbb⟩ : ∃ b, b = decide (((l.length : Nat) : Int) < (n : Int) ∧ s.code = 0) := ⟨_, rfl⟩
          have HBB := Lib.hid hbb
          clear hwo
          go_upto_region 18 with (fail)
          go_cut [68] from 59 to 87 (fun sl wx => sl = .bool bb ∧ wx = wo)
          case first =>
            by_cases hz : ((l.length : Nat) : Int) < (n : Int)
            · have e : bb = (s.code == 0) := by
                rw [hbb]
                by_cases h : s.code = 0
                · rw [decide_eq_true ⟨hz, h⟩, h]; rfl
                · rw [decide_eq_false (fun h' => h h'.2), beq_eq_false_iff_ne.2 h]
              clear hbb HBB
              go_wp2_with fail
              go_meet
              exact ⟨by rw [e], rfl⟩
            · have e : bb = false := by rw [hbb]; exact decide_eq_false (fun h => hz h.1)
              clear hbb HBB
              go_wp2_with fail
              go_meet
              exact ⟨by rw [e], rfl⟩
          case rest =>
          obtain ⟨rfl, rfl⟩ := hcut
          clear hbb k2
          cases bb
          · have hq := of_decide_eq_false HBB.out.symm
            have ER := Lib.hid (show ndsS B = (l, s) by
              rcases Nat.eq_zero_or_pos r with rfl | h
              · exact manyR_zero HE.out
              · exact manyR_stop HE.out (fun h' => hq ⟨by omega, h'⟩))
            clear hq HBB HE H40 hlr hl4
            have HB2 := Lib.hid HS.out.rd.be
            have tt := cell_of_one HS.out.box
            have tz := lt_of_block HS.out.box
            have r0c := cell_of_one HS.out.res
            have r0f := free_of_one HS.out.res
            have r0z := lt_of_block HS.out.res
            have hne := HS.out.ne
            have q1 := HS.out.rd.cells.2.1
            have q2 := HS.out.rd.cells.2.2.1
            have q3 := HS.out.rd.cells.2.2.2
            by_cases hat : (s.at_ : Int) < (B.length : Int)
            · have hatn : s.at_ < B.length := by omega
              have HF := Lib.hid (rd_fail w _ rb _ B s 100 s.at_ HS.out.rd)
              have HEN := Lib.hid (show endS B (ndsS B).2 = failS 100 s.at_ s by rw [ER.out]; unfold endS; rw [if_pos hatn])
              have hcf : (failS 100 s.at_ s).code ≠ 0 := failS_code (by decide)
              have EC := Lib.hid (decT_code hl (by rw [HEN.out]; exact hcf))
              rw [HEN.out] at EC
              clear hatn q2 q3 tt tz HEN
              go_wp2_with fail
              refine HF.out.mono ?_
              rintro e w9 ⟨rfl, hs⟩
              obtain ⟨fs, hfs⟩ : ∃ q, q = failS 100 s.at_ s := ⟨_, rfl⟩
              rw [← hfs] at hs hcf EC
              have q2 := hs.at_.cells.2.2.1
              have q3 := hs.at_.cells.2.2.2
              have q4 := hs.at_.lt
              have b9 := (hs.fr _ (lt_of_block HS.out.res) (fun e => by have := HS.out.res; rw [e, HS.out.rd.blk] at this; injection this with this; injection this with _ h _; exact absurd h (by decide))).trans HS.out.res
              have r9c := cell_of_one b9
              have r9f := free_of_one b9
              have r9z := lt_of_block b9
              have HB9 := Lib.hid hs.at_.be
              have hcb : (fs.code == 0) = false := beq_eq_false_iff_ne.2 hcf
              have B9 := Lib.hid b9
              clear hs hfs hcf b9 HF r0c r0f r0z q1 k3 HS ER
              go_upto_region 30 with (fail)
              go_region
              go_wp2
              obtain ⟨x9, hx9⟩ : ∃ x, x = (w9.setCell ⟨w.heap.size, 0, none⟩ (.slice none 0 0)).drew := ⟨_, rfl⟩
              have bx : x9.heap[w.heap.size]? = some (.cells #[.slice none 0 0] 24 (0, 0)) := by rw [hx9]; exact one_set B9.out
              have u0 := cell_of_one bx
              have HBX := Lib.hid (show Below w.heap.size w x9 by rw [hx9]; exact Below.drew (HB9.out.setCell (p := ⟨w.heap.size, 0, none⟩) (Nat.le_refl _) _))
              rw [← hx9]
              refine bodyPost_ret (v := .tuple #[.agg #[.slice none 0 0], .int .i64 fs.code, .int .i64 fs.bad]) (by simp [results, Try.results22, go_sem, u0]) rfl ?_
              exact ret_dcd_nil EC.out HBX.out
            · have hatn : ¬ s.at_ < B.length := by omega
              have HEN := Lib.hid (show endS B (ndsS B).2 = s by rw [ER.out]; unfold endS; rw [if_neg hatn])
              clear hatn
              by_cases hcode : s.code = 0
              · obtain ⟨pt, ct, htv, hT⟩ := HS.out.own.tree HOK.out
                subst htv
                have HCK := Lib.hid (tree_Check_any pt ct l _ hT)
                have HE0 := Lib.hid (show (endS B (ndsS B).2).code = 0 by rw [HEN.out]; exact hcode)
                have hcb : (s.code == 0) = true := by rw [beq_iff_eq]; exact hcode
                obtain ⟨ce, hce⟩ : ∃ q, q = checkT l := ⟨_, rfl⟩
                have HCE := Lib.hid (show checkT (ndsS B).1 = ce by rw [ER.out, hce])
                rw [← hce] at HCK
                obtain ⟨e1, e2⟩ := ce
                clear hce hT hcode HEN q3
                go_wp2_with fail
                refine HCK.out.mono ?_
                rintro e w9 ⟨rfl, hb⟩
                have b9 := Lib.hid ((hb.block _ (lt_of_block HS.out.res)).trans HS.out.res)
                have t9 := Lib.hid ((hb.block _ (lt_of_block HS.out.box)).trans HS.out.box)
                have r9c := cell_of_one b9.out
                have r9f := free_of_one b9.out
                have r9z := lt_of_block b9.out
                have t9c := cell_of_one t9.out
                have t9z := lt_of_block t9.out
                have HB9 := Lib.hid (below_via hb HB2.out)
                have OW9 := Lib.hid (HS.out.own.later hb)
                clear hb tt tz r0c r0f r0z q1 q2 k3 HCK HS
                by_cases he1 : e1 = 0
                · subst he1
                  have ED := Lib.hid (decT_ok hl HE0.out (by rw [HCE.out]))
                  rw [ER.out] at ED
                  go_wp2
                  obtain ⟨x9, hx9⟩ : ∃ x, x = w9.setCell ⟨w.heap.size, 0, none⟩ (.slice pt l.length ct) := ⟨_, rfl⟩
                  have bx : x9.heap[w.heap.size]? = some (.cells #[.slice pt l.length ct] 24 (0, 0)) := by rw [hx9]; exact one_set b9.out
                  have u0 := cell_of_one bx
                  have HBX := Lib.hid (show Below w.heap.size w x9 by rw [hx9]; exact (HB9.out.setCell (p := ⟨w.heap.size, 0, none⟩) (Nat.le_refl _) _))
                  rw [← hx9]
                  refine bodyPost_ret (v := .tuple #[.agg #[.slice pt l.length ct], .int .i64 0, .int .i64 0]) (by simp [results, Try.results22, go_sem, u0]) rfl ?_
                  exact ret_dcd ED.out (OW9.out.kept fun b e => by rw [hx9]; exact blk_setCell_other _ _ _ _ (fun e' => OW9.out.not_has b9.out (by decide) (by decide) (by decide) (by have h : b = w.heap.size := e'; rw [← h]; exact e))) HBX.out
                · have he1b : (e1 == 0) = false := beq_eq_false_iff_ne.2 he1
                  have ED := Lib.hid (decT_check hl HE0.out (by rw [HCE.out]; exact he1))
                  rw [HCE.out] at ED
                  clear he1
                  go_wp2
                  obtain ⟨x9, hx9⟩ : ∃ x, x = w9.setCell ⟨w.heap.size, 0, none⟩ (.slice none 0 0) := ⟨_, rfl⟩
                  have bx : x9.heap[w.heap.size]? = some (.cells #[.slice none 0 0] 24 (0, 0)) := by rw [hx9]; exact one_set b9.out
                  have u0 := cell_of_one bx
                  have HBX := Lib.hid (show Below w.heap.size w x9 by rw [hx9]; exact (HB9.out.setCell (p := ⟨w.heap.size, 0, none⟩) (Nat.le_refl _) _))
                  rw [← hx9]
                  refine bodyPost_ret (v := .tuple #[.agg #[.slice none 0 0], .int .i64 e1, .int .i64 e2]) (by simp [results, Try.results22, go_sem, u0]) rfl ?_
                  exact ret_dcd_nil ED.out HBX.out
              · have EC := Lib.hid (decT_code hl (by rw [HEN.out]; exact hcode))
                rw [HEN.out] at EC
                have hcb : (s.code == 0) = false := beq_eq_false_iff_ne.2 hcode
                have B9 := Lib.hid HS.out.res
                have HB9 := Lib.hid HB2.out
                have q4 := k3
                clear HEN hcode HS ER tt tz
                go_upto_region 30 with (fail)
                go_region
                go_wp2
                obtain ⟨x9, hx9⟩ : ∃ x, x = (wc.setCell ⟨w.heap.size, 0, none⟩ (.slice none 0 0)).drew := ⟨_, rfl⟩
                have bx : x9.heap[w.heap.size]? = some (.cells #[.slice none 0 0] 24 (0, 0)) := by rw [hx9]; exact one_set B9.out
                have u0 := cell_of_one bx
                have HBX := Lib.hid (show Below w.heap.size w x9 by rw [hx9]; exact Below.drew (HB9.out.setCell (p := ⟨w.heap.size, 0, none⟩) (Nat.le_refl _) _))
                rw [← hx9]
                refine bodyPost_ret (v := .tuple #[.agg #[.slice none 0 0], .int .i64 s.code, .int .i64 s.bad]) (by simp [results, Try.results22, go_sem, u0]) rfl ?_
                exact ret_dcd_nil EC.out HBX.out
          · have hq := of_decide_eq_true HBB.out.symm
            obtain ⟨hlt, hcode⟩ := hq
            obtain ⟨r, rfl⟩ : ∃ q, r = q + 1 := ⟨r - 1, by omega⟩
            have HE2 := Lib.hid (manyR_step HE.out hcode)
            have h40 := H40.out hcode
            have HX0 := Lib.hid HS.out.start
            have zxb := HS.out.rd.lt
            clear HBB HE H40 hcode
            obtain ⟨wx, hwx⟩ : ∃ x, x = wc.alloc (.cells nodeZ 64) := ⟨_, rfl⟩
            have HWX := Lib.hid hwx
            rw [← hwx] at HX0
            clear hwx
            go_wp2
            go_loopw [73] (fun kv wr => ∃ (k : Nat) (kv1 cv1 : Value), kv = .int .i64 k ∧ k ≤ 13 ∧ RowKit.Hid (GetS 100 w wx rb (.slice p B.length c) B wc.heap.size (.slice none 0 0) (.slice none 0 0) (partsR k B s).2 (ndV (partsR k B s).1 kv1 cv1).toArray (partsR k B s).1.kids (partsR k B s).1.cols kv1 cv1 wr)) (fun iv _ => 13 - (intOf iv).toNat)
            case atStart =>
              have H00 : GetS 100 w wx rb (.slice p B.length c) B wc.heap.size (.slice none 0 0) (.slice none 0 0) s nodeZ [] [] (.slice none 0 0) (.slice none 0 0) (wc.alloc (.cells nodeZ 64)) := by rw [← HWX.out]; exact HX0.out
              exact ⟨0, .slice none 0 0, .slice none 0 0, rfl, by omega, Lib.hid H00⟩
            case round =>
              obtain ⟨k, kv1, cv1, rfl, hk, G⟩ := hrel
              have HGOT := Lib.hid (HS.out.got tyRd2 tyRd (s1 := (partsR k B s).2) (cs := (ndV (partsR k B s).1 kv1 cv1).toArray) (ks := (partsR k B s).1.kids) (its := (partsR k B s).1.cols) (kv := kv1) (cv := cv1) (W1 := wr) (by rw [← HWX.out]; exact G.out))
              have zP := lt_of_block HGOT.out.prt
              by_cases hk13 : k < 13
              · have hki : (k : Int) < 13 := by omega
                have p0 : wr.cell? ⟨gp, k * 2, none⟩ = some (.func (.func (putF k)) #[] #[]) := by rw [cell_of_row _ _ _ _ _ _ HGOT.out.prt]; exact (partsA_at k hk13).1
                have p1 : wr.cell? ⟨gp, k * 2 + 1, none⟩ = some (.func (.func (getF k)) #[] #[]) := by rw [cell_of_row _ _ _ _ _ _ HGOT.out.prt]; exact (partsA_at k hk13).2
                have hent := get_enter k hk13
                have GA := Lib.hid (G.out.quiet (below_al (Below.refl _ _) (.cells #[.func (.func (putF k)) #[] #[], .func (.func (getF k)) #[] #[]] 90)))
                have HC := Lib.hid (get_any k hk13 w _ rb _ B _ wc.heap.size _ kv1 cv1 GA.out.rd GA.out.nd (fun e => by subst e; rfl) (fun e => by subst e; rfl))
                clear HGOT
                go_wp2_with fail
                refine HC.out.mono ?_
                clear HC
                rintro e wB ⟨rfl, kv2, cv2, hg⟩
                have G2 := Lib.hid (GA.out.trans hg)
                clear hg GA G
                go_wp2
                go_roundw
                case rel => exact ⟨k + 1, kv2, cv2, by go_num, by omega, G2⟩
                case measure => simp [intOf]; omega
              · obtain rfl : k = 13 := by omega
                have HY := Lib.hid (partsR_ok HBY.out hl s 13)
                obtain ⟨ys, hys⟩ : ∃ q, q = partsR 13 B s := ⟨_, rfl⟩
                have HYS := Lib.hid hys
                rw [← hys] at G HGOT HY
                obtain ⟨y, s'⟩ := ys
                simp only at G HGOT HY
                clear hys
                have xt := cell_of_one HGOT.out.box
                have xf := free_of_one HGOT.out.box
                have xz := lt_of_block HGOT.out.box
                obtain ⟨ns, hns⟩ : ∃ q, q = ndV y kv1 cv1 := ⟨_, rfl⟩
                have LEN := Lib.hid (show ns.length = 34 by rw [hns]; rfl)
                have RNG := Lib.hid (show wr.rangeAt wc.heap.size 0 ns from fun j v hv => by rw [Nat.zero_add, cell_of_row _ _ _ _ _ _ G.out.nd.blk, ← hns]; simpa using hv)
                have ONE := Lib.hid (show ∀ v ∈ ns, v.oneCell' = true by rw [hns]; exact ndV_one (row_ints G.out.nd.kown) (row_items G.out.nd.cown))
                have L1 := Lib.hid (show ∀ a ∈ [ns], a.length = 34 from fun a ha => by rw [List.mem_singleton] at ha; rw [ha]; exact LEN.out)
                have HNS := Lib.hid hns
                clear hns
                obtain ⟨i0, hi, hz0, hz1, hz2⟩ := info_parts infoN34
                have HI := Lib.hid (And.intro hi (And.intro hz0 (And.intro hz1 hz2)))
                have OWN := Lib.hid (HGOT.out.own.row.alloc (.cells ([ns].flatten.toArray) 64))
                have NEW := Lib.hid (World.news_of_block (cs := [ns].flatten.toArray) (t := 64) (fr := (0, 0)) (heap_alloc_new wr _))
                have hzz : w.heap.size ≤ wr.heap.size := by have := G.out.rd.zb; have := G.out.rd.lt; omega
                have HPUSH := Lib.hid (fun v' W2 own gr => HS.out.push tyRd2 tyRd (s1 := s') (y := y) (kv := kv1) (cv := cv1) (W1 := wr) (by rw [← HWX.out]; exact G.out) (below_al (Below.refl _ _) (.cells ns.toArray 64)) (W2 := W2) (v' := v') (m := l.length + 1) (xs := ndsV l kvs cvs ++ ns) own rfl (by rw [HNS.out]) gr)
                have h63 : l.length + 1 ≤ maxLen := by unfold maxLen; omega
                clear hi hz0 hz1 hz2 HGOT zP
                go_wp2_with (first
                  | ((with_reducible refine wpList_load_node ?l1 (.tmp 14) ?l2 wc.heap.size 0 ?l3 ns LEN.out RNG.out ?_); (case l1 => rfl); (case l2 => rfl); (case l3 => rfl))
                  | ((with_reducible refine wpList_buildSlice_all _ ?b1 22 64 1 #[(0, .tmp 84)] ?b2 i0 _ 34 Try.underlying22 HI.out.1 HI.out.2.1 HI.out.2.2.1 ?b6 [ns] ?b7 ?b3 ?b4 ?b5 ?_); (case b1 => rfl); (case b2 => rfl); (case b6 => decide); (case b7 => rfl); (case b3 => rfl); (case b4 => exact L1.out); (case b5 => (show 1 * 34 ≤ 16777216; decide)))
                  | (at_builtin; go_must (refine append_keep rfl (.tmp 83) (.tmp 85) 22 rfl w.heap.size 64 i0 _ 34 288 Try.underlying22 HI.out.1 HI.out.2.1 HI.out.2.2.1 HI.out.2.2.2 rfl (by decide) _ l.length _ rfl OWN.out ⟨wr.heap.size, 0, none⟩ 1 1 ns rfl ?n0 ?n1 ONE.out h63 ?n2 ?n3 ?_)))
                case n0 => rw [LEN.out]
                try case n1 => simpa using NEW.out
                case n2 => omega
                case n3 => first | omega | (simp; omega)
                intro v' W2 own gr pl
                obtain ⟨hbox, hD⟩ := HPUSH.out v' W2 own gr
                have HD := Lib.hid hD
                have c2 := cell_of_one hbox
                have f2 := free_of_one hbox
                have z2 := lt_of_block hbox
                obtain ⟨p2, k2, rfl⟩ := row_sl2 own
                clear own gr pl hbox hD HPUSH OWN NEW xt xf xz G HS ONE L1 RNG LEN
                go_wp2
                go_roundw
                case rel =>
                  refine ⟨l ++ [y], r, s', _, _, _, by rw [List.length_append]; first | rfl | go_num, by rw [List.length_append]; simp; omega, by rw [List.length_append]; simp; omega, HD, Lib.hid ?_, Lib.hid ?_, Lib.hid (fun _ => h40)⟩
                  · have := HE2.out
                    rw [show ndR B s = (y, s') from HYS.out.symm] at this
                    exact this
                  · intro x hx
                    rcases List.mem_append.1 hx with hx | hx
                    · exact HOK.out x hx
                    · rw [List.mem_singleton] at hx
                      rw [hx]
                      exact HY.out
                case measure => simp [intOf]; omega
end Go.Proofs.Ytcihihncgpddfaa
