/- Trees' bytes: the contract of the reference's Encode. -/
import Derived.Test.YtcihihncgpddfaaRwB
import Derived.Test.YtcihihncgpddfaaWrE
import Derived.Test.YtcihihncgpddfaaTrrF
namespace Go.Proofs.Ytcihihncgpddfaa
open Go.RowKit Go.Deep
set_option linter.unusedVariables false
set_option linter.unusedSimpArgs false

theorem ndB_len {x : Nd} (h : NdWr x) : (ndB x).length ≤ 3900000 := partsTo_len h 13
set_option maxRecDepth 100000 in
set_option maxHeartbeats 16000000 in
theorem ref_Encode_any (p : Option Addr) (c : Nat) (T : List Nd) (w : World) (hT : TreeAt w (.slice p T.length c) T) : Calls Try.prog 19 #[.agg #[.slice p T.length c]] w (RetEnc T w) := by
  have B0 : Below w.heap.size w (w.alloc (.cells #[.slice p T.length c] 24)) := below_al (Below.refl _ _) _
  have hT0 : TreeAt (w.alloc (.cells #[.slice p T.length c] 24)) (.slice p T.length c) T := hT.later B0
  have HK := Lib.hid (ref_Check_any p c T _ hT0)
  have HT := Lib.hid hT
  have HB0 := Lib.hid B0
  have hlen := hT.len
  obtain ⟨ce, hce⟩ : ∃ ce, ce = checkT T := ⟨_, rfl⟩
  obtain ⟨c1, c2⟩ := ce
  have HCE := Lib.hid hce
  rw [← hce] at HK
  clear hT hT0 B0 hce
  go_enter Try.func19, Try.ntmps19
  go_wp2_with fail
  refine HK.out.mono ?_
  clear HK
  rintro e w1 ⟨rfl, hb1⟩
  have x1 : w1.heap[w.heap.size]? = some (.cells #[.slice p T.length c] 24 (0, 0)) := (hb1.block _ (by simp)).trans (heap_alloc_new _ _)
  have B1 := Lib.hid (below_via hb1 HB0.out)
  have z1 := lt_of_block x1
  have c0 := cell_of_one x1
  have X1 := Lib.hid x1
  clear hb1 HB0 x1
  by_cases hc : c1 = 0
  · subst hc
    have hk0 : (checkT T).1 = 0 := by rw [← HCE.out]
    have HK0 := Lib.hid hk0
    have HWR := Lib.hid (check_wr hk0 HT.out.ok)
    have hl4 : T.length ≤ 4096 := by have := check_len hk0; omega
    have hl1 : 0 < T.length := (check_len hk0).1
    clear hk0
    go_wp2_with fail
    obtain ⟨w2, hw2⟩ : ∃ x, x = w1.alloc (.cells #[.int .u8 70, .int .u8 84, .int .u8 1] 5) := ⟨_, rfl⟩
    have OW2 : w2.ownsRow w.heap.size 5 1 (.slice (some ⟨w1.heap.size, 0, none⟩) 3 3) 3 (u8L [70, 84, 1]) := by rw [hw2]; exact ownsRow_fresh (Nat.le_of_lt z1) [.int .u8 70, .int .u8 84, .int .u8 1] 5 (fun u hu => by simp at hu; rcases hu with rfl | rfl | rfl <;> rfl) (by decide)
    have B2 : Below w1.heap.size w1 w2 := by rw [hw2]; exact below_al (Below.refl _ _) _
    have x2 := (B2.block _ z1).trans X1.out
    have BB2 := Lib.hid (below_via B2 B1.out)
    rw [← hw2]
    clear hw2 B2 c0 X1
    have HN := Lib.hid (ref_number_any w.heap.size _ [70, 84, 1] T.length w2 OW2 BB2.out.size (by omega) (by omega) (by decide))
    have HOW2 := Lib.hid OW2
    clear OW2
    refine HN.out.mono ?_
    clear HN
    rintro e w4 ⟨v4, rfl, hs⟩
    have hs' : PutS w.heap.size w2 _ (headB T.length) v4 w4 := hs
    have HS4 := Lib.hid (PutS.refl hs'.own)
    have x4 : w4.heap[w.heap.size]? = some (.cells #[.slice p T.length c] 24 (0, 0)) := (hs.fr _ (lt_of_block x2) (row_blk_ne HOW2.out x2 (by decide))).trans x2
    have BB4 := Lib.hid (BB2.out.trans hs.be)
    have X4 := Lib.hid x4
    have n4 : v4.ownBlock ≠ some w.heap.size := row_blk_ne hs'.own x4 (by decide)
    have z4 := lt_of_block x4
    have HL0 : (headB T.length).length ≤ 5 := headB_len hl4
    have HND := HT.out.at_
    obtain ⟨p', c', e', _, _, hnd⟩ := HND
    injection e' with e1 _ e3
    subst e1 e3
    obtain ⟨b, off, rfl, hb, hnd⟩ := hnd hl1
    have HND := Lib.hid hnd
    clear hs hs' x2 x4 BB2 HOW2 hnd
    go_wp2
    go_loopw [6, 7] (fun bv iv wr => ∃ (j : Nat) (v2 : Value) (L : List Int), bv = v2 ∧ iv = .int .i64 j ∧ j ≤ T.length ∧ RowKit.Hid (PutS w.heap.size w4 v4 L v2 wr) ∧ L.length ≤ 1048576 ∧ RowKit.Hid (encGo (T.drop j) L = encGo T (headB T.length))) (fun _ iv _ => T.length - (intOf iv).toNat)
    case atStart => exact ⟨0, v4, headB T.length, rfl, rfl, Nat.zero_le _, HS4, by omega, Lib.hid (by rw [List.drop_zero])⟩
    case round =>
      clear HS4
      obtain ⟨j, vq, L, hbv, rfl, hj, HS, hL, HE⟩ := hrel
      have hbv2 := hbv.symm
      clear hbv
      subst hbv2
      have xr := (HS.out.fr _ z4 n4).trans X4.out
      have cT := cell_of_one xr
      have zT := lt_of_block xr
      have BR := Lib.hid (BB4.out.trans HS.out.be)
      clear xr
      by_cases hlt : j < T.length
      · have hji : (j : Int) < (T.length : Int) := by omega
        obtain ⟨x, hx⟩ : ∃ x, x = T.getD j zNd := ⟨_, rfl⟩
        have HX := Lib.hid (HWR.out x (by rw [hx]; exact mem_getD zNd hlt))
        have HG := Lib.hid (show encGo T (headB T.length) = if 1048576 < (L ++ ndB x).length then none else encGo (T.drop (j + 1)) (L ++ ndB x) by rw [← HE.out, drop_getD hlt, encGo_cons, hx])
        have hna := HND.out j hlt
        rw [← hx] at hna
        obtain ⟨kv, cv, hkv, hcv, hcc⟩ := hna
        have HC := Lib.hid (ref_node_any w _ L x kv cv wr HS.out.own BR.out hkv hcv HX.out (by omega))
        have hbl : (L ++ ndB x).length ≤ 4948576 := by have := ndB_len HX.out; rw [List.length_append]; omega
        obtain ⟨ns, hns⟩ : ∃ q, q = ndV x kv cv := ⟨_, rfl⟩
        have LEN := Lib.hid (show ns.length = 34 by rw [hns]; rfl)
        have RNG := Lib.hid (show wr.rangeAt b (off + j * 34) ns by
          rw [hns]
          exact nd_range fun q hq => by rw [(bcell BR.out).1 _ _ hb]; exact hcc q hq)
        have hbw : b < wr.heap.size := Nat.lt_of_lt_of_le hb BR.out.size
        rw [← hns] at HC
        clear hx HE hkv hcv hcc hns
        go_wp2_with (first | ((with_reducible refine wpList_load_node ?l1 (.tmp 33) ?l2 b (off + j * 34) ?l3 ns LEN.out RNG.out ?_); (case l1 => rfl); (case l2 => rfl); (case l3 => rfl)))
        refine HC.out.mono ?_
        clear HC RNG LEN cT zT
        rintro e w5 ⟨v5, rfl, hs⟩
        have HS2 := Lib.hid (HS.out.trans hs)
        obtain ⟨L2, hL2⟩ : ∃ l, l = L ++ ndB x := ⟨_, rfl⟩
        rw [← hL2] at HS2 HG hbl
        obtain ⟨pv, cv5, rfl⟩ := row_sl HS2.out.own
        clear hs hL2 HS
        by_cases hbig : 1048576 < L2.length
        · have E := Lib.hid (encT_none HK0.out (HG.out.trans (if_pos hbig)))
          have BE := Lib.hid (BB4.out.trans HS2.out.be)
          have hbi : (1048576 : Int) < (L2.length : Int) := by omega
          clear HG
          go_wp2
          exact bodyPost_ret (v := .tuple #[.slice none 0 0, .int .i64 3]) (by simp [results, Try.results19, go_sem]) rfl (ret_enc_nil E.out BE.out)
        · have HE2 := Lib.hid (HG.out.trans (if_neg hbig)).symm
          have hbi : ¬ (1048576 : Int) < (L2.length : Int) := by omega
          have hsm : L2.length ≤ 1048576 := by omega
          clear HG hbig
          go_wp2
          go_roundw
          case rel => exact ⟨j + 1, _, L2, rfl, by go_num, by omega, HS2, hsm, HE2⟩
          case measure => simp [intOf]; omega
      · obtain rfl : j = T.length := by omega
        have hE := HE.out
        rw [List.drop_length] at hE
        have E := Lib.hid (encT_some HK0.out hE.symm)
        obtain ⟨vz, hvz⟩ : ∃ q, q = vq := ⟨_, rfl⟩
        rw [← hvz] at HS ⊢
        clear hE hvz
        go_wp2
        exact bodyPost_ret (v := .tuple #[vz, .int .i64 0]) (by simp [results, Try.results19, go_sem]) rfl (ret_enc E.out HS.out.own BR.out)
  · have hcb : (c1 == 0) = false := beq_eq_false_iff_ne.2 hc
    have E := Lib.hid (show encT T = ([], c1) by rw [encT_bad (by rw [← HCE.out]; exact hc), ← HCE.out])
    clear hc
    go_wp2
    exact bodyPost_ret (v := .tuple #[.slice none 0 0, .int .i64 c1]) (by simp [results, Try.results19, go_sem]) rfl (ret_enc_nil E.out B1.out)
end Go.Proofs.Ytcihihncgpddfaa
