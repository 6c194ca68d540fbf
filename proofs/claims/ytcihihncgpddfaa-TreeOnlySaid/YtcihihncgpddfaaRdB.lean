/- Reading trees' bytes: fresco/tree.reader: contracts of signed, text, item. -/
import Derived.Test.YtcihihncgpddfaaRdN
import Derived.BigQuiet
import Derived.StillTailTactics
namespace Go.Proofs.Ytcihihncgpddfaa
open Go.RowKit Go.Deep
set_option linter.unusedVariables false
set_option linter.unusedSimpArgs false

set_option maxRecDepth 100000 in
set_option maxHeartbeats 8000000 in
theorem rd_signed (w0 W : World) (rb : Nat) (sv : Value) (B : List Int) (s : Rs) (h : RdAt 100 w0 W rb sv B s) : Calls Try.prog 105 #[.pointer (some ⟨rb, 0, none⟩)] W (RdPost 100 w0 W rb sv B (sgnR B s)) := by
  have HC := Lib.hid (rd_number w0 W rb sv B s h)
  have hr := numR_range h.byte s
  have E := Lib.hid (sgnR_eq B s)
  clear h
  obtain ⟨r, hrr⟩ : ∃ r, r = numR B s := ⟨_, rfl⟩
  rw [← hrr] at HC hr E
  clear hrr
  obtain ⟨n, s1⟩ := r
  simp only at hr E
  obtain ⟨hr0, hr1⟩ := hr
  have hsh : (n : Int) / 2 = n / 2 := rfl
  have han : bits BinOp.and IntKind.i64 n 1 = n % 2 := and_one_ hr0 hr1
  have hxo : bits BinOp.xor IntKind.i64 (-1) (n / 2) = -(n / 2) - 1 := xor_pos (by omega) (by omega)
  by_cases hm : n % 2 = 1
  · have hmb : (n % 2 == 1) = true := by rw [beq_iff_eq]; exact hm
    have E2 := Lib.hid (show sgnR B s = (-(n / 2) - 1, s1) by rw [E.out]; unfold unS; rw [if_pos hm])
    clear E
    go_enter Try.func105, Try.ntmps105
    go_wp2_with fail
    refine HC.out.mono ?_
    rintro e w1 ⟨rfl, hs⟩
    have HS := Lib.hid hs
    clear hs HC
    go_wp2
    refine bodyPost_ret (v := .int .i64 (-(n / 2) - 1)) (by first | (simp [results, Try.results105, go_sem]; done) | (simp [results, Try.results105, go_sem]; rfl)) rfl ?_
    exact rd_mk E2.out HS.out
  · have hmb : (n % 2 == 1) = false := beq_eq_false_iff_ne.2 hm
    have E2 := Lib.hid (show sgnR B s = (n / 2, s1) by rw [E.out]; unfold unS; rw [if_neg hm])
    clear E
    go_enter Try.func105, Try.ntmps105
    go_wp2_with fail
    refine HC.out.mono ?_
    rintro e w1 ⟨rfl, hs⟩
    have HS := Lib.hid hs
    clear hs HC
    go_wp2
    refine bodyPost_ret (v := .int .i64 (n / 2)) (by first | (simp [results, Try.results105, go_sem]; done) | (simp [results, Try.results105, go_sem]; rfl)) rfl ?_
    exact rd_mk E2.out HS.out
set_option maxRecDepth 100000 in
set_option maxHeartbeats 8000000 in
theorem rd_text (w0 W : World) (rb : Nat) (sv : Value) (B : List Int) (s : Rs) (h : RdAt 100 w0 W rb sv B s) : Calls Try.prog 79 #[.pointer (some ⟨rb, 0, none⟩)] W (RdVal 100 w0 W rb sv B (.string (txtR B s).1) (txtR B s).2) := by
  have HC := Lib.hid (rd_number w0 W rb sv B s h)
  have hf := numR_facts h.byte s
  have hlen := h.len
  have hbe := h.be
  have T1 := Lib.hid (txtR_no (B := B) (s := s))
  have T2 := Lib.hid (txtR_big (B := B) (s := s))
  have T3 := Lib.hid (txtR_ok (B := B) (s := s))
  obtain ⟨pv, cv, rfl, hcv1, hcv2, -⟩ := h.src
  have HB := Lib.hid h.src
  clear h
  obtain ⟨r, hrr⟩ : ∃ r, r = numR B s := ⟨_, rfl⟩
  rw [← hrr] at HC hf T1 T2 T3
  clear hrr
  obtain ⟨n, s1⟩ := r
  obtain ⟨a, cd, bd⟩ := s1
  simp only at hf T1 T2 T3
  rcases hf with ⟨hcode, rfl⟩ | ⟨rfl, hr0, hr1, hpos⟩
  · have E := Lib.hid (T1.out hcode)
    have hcb : (cd == 0) = false := beq_eq_false_iff_ne.2 hcode
    clear T1 T2 T3
    go_enter Try.func79, Try.ntmps79
    go_wp2_with fail
    refine HC.out.mono ?_
    rintro e w1 ⟨rfl, hs⟩
    have HS := Lib.hid hs
    have ha : a ≤ B.length := hs.at_.at_
    have hneg : ¬ (B.length : Int) - (a : Int) < 0 := by omega
    have k0 := HS.out.at_.cells.1
    have k1 : w1.cell? ⟨rb, 1, none⟩ = some (.int .i64 a) := HS.out.at_.cells.2.1
    have k2 : w1.cell? ⟨rb, 2, none⟩ = some (.int .i64 cd) := HS.out.at_.cells.2.2.1
    have k3 := HS.out.at_.lt
    have g1 := HS.out.at_.free 1
    clear hs HC hcode
    go_upto_region 2 with (fail)
    go_quiet (fail)
    go_wp2
    refine bodyPost_ret (v := .string ByteArray.empty) (by first | (simp [results, Try.results79, go_sem]; done) | (simp [results, Try.results79, go_sem]; rfl)) rfl ?_
    rw [E.out]
    exact ⟨rfl, HS.out.trans (RdS.quiet HS.out.at_ (by first | exact Below.refl _ _ | exact below_drewN (Below.refl _ _) _ | exact below_drewN (below_drewN (Below.refl _ _) _) _))⟩
  · obtain ⟨n, rfl⟩ := Int.eq_ofNat_of_zero_le hr0
    by_cases hbig : (B.length : Int) - (a : Int) < (n : Int)
    · have E := Lib.hid (T2.out rfl hbig)
      clear T1 T2 T3
      go_enter Try.func79, Try.ntmps79
      go_wp2_with fail
      refine HC.out.mono ?_
      rintro e w1 ⟨rfl, hs⟩
      have HS := Lib.hid hs
      have ha : a ≤ B.length := hs.at_.at_
      have HF := Lib.hid (fun W1 (hb : Below w1.heap.size w1 W1) => rd_fail w0 W1 rb _ B _ 6 B.length (hs.at_.later hb))
      have k0 := HS.out.at_.cells.1
      have k1 : w1.cell? ⟨rb, 1, none⟩ = some (.int .i64 a) := HS.out.at_.cells.2.1
      have k2 : w1.cell? ⟨rb, 2, none⟩ = some (.int .i64 0) := HS.out.at_.cells.2.2.1
      have k3 := HS.out.at_.lt
      have g1 := HS.out.at_.free 1
      clear hs HC
      go_upto_region 2 with (fail)
      go_quiet (fail)
      go_wp2_with fail
      refine (HF.out _ (by first | exact Below.refl _ _ | exact below_drewN (Below.refl _ _) _ | exact below_drewN (below_drewN (Below.refl _ _) _) _)).mono ?_
      rintro e w2 ⟨rfl, hs⟩
      rw [failS_yes rfl] at hs
      have HS2 := Lib.hid (HS.out.trans (hs.from (W := w1) (by first | exact Below.refl _ _ | exact below_drewN (Below.refl _ _) _ | exact below_drewN (below_drewN (Below.refl _ _) _) _)))
      have j2 : w2.cell? ⟨rb, 2, none⟩ = some (.int .i64 6) := HS2.out.at_.cells.2.2.1
      have j3 := HS2.out.at_.lt
      clear hs HF k0 k1 k2 k3 g1 HS
      go_wp2
      refine bodyPost_ret (v := .string ByteArray.empty) (by first | (simp [results, Try.results79, go_sem]; done) | (simp [results, Try.results79, go_sem]; rfl)) rfl ?_
      rw [E.out]
      exact ⟨rfl, HS2.out⟩
    · have E := Lib.hid (T3.out rfl hbig)
      clear T1 T2 T3
      rw [Int.toNat_natCast] at E
      go_enter Try.func79, Try.ntmps79
      go_wp2_with fail
      refine HC.out.mono ?_
      rintro e w1 ⟨rfl, hs⟩
      have HS := Lib.hid hs
      have ha : a ≤ B.length := hs.at_.at_
      obtain ⟨b, off, rfl, hb, hpl, hpc⟩ := HB.out.piece hpos a n (by omega)
      have HSET := Lib.hid (fun W1 (hb : Below w1.heap.size w1 W1) => hs.at_.set1 (s1 := ⟨a + n, 0, bd⟩) hb 1 (.int .i64 ((a + n : Nat) : Int)) rfl (by simp only; omega))
      have hpp : ((a + n : Nat) : Int) = (a : Int) + (n : Int) := by omega
      rw [hpp] at HSET
      have k0 := HS.out.at_.cells.1
      have k1 : w1.cell? ⟨rb, 1, none⟩ = some (.int .i64 a) := HS.out.at_.cells.2.1
      have k2 : w1.cell? ⟨rb, 2, none⟩ = some (.int .i64 0) := HS.out.at_.cells.2.2.1
      have k3 := HS.out.at_.lt
      have g1 := HS.out.at_.free 1
      have hnb : b ≠ rb := fun e => by have := hs.at_.zb; omega
      have HCV := Lib.hid (fun (w' : World) (hc : ∀ i, i < n → w'.cell? ⟨b, off + a + i, none⟩ = some (.int .u8 (((B.drop a).take n).getD i 0))) => run_convert_bytes_arg (P := Try.prog) w' 36 5 Try.underlying36 Try.underlying5 b (off + a) n (cv - a) ((B.drop a).take n) hpl hc 9 Try.underlying9)
      have HPC := Lib.hid (fun (w' : World) (hb' : Below w0.heap.size w0 w') i (hi : i < n) => ((bcell hb').1 _ _ hb).trans (hpc i hi))
      have hsb : (a : Int) + (n : Int) - (n : Int) = (a : Int) := by omega
      have hnle : n ≤ 1048576 := by omega
      clear hs HC hpc hr0 hr1
      go_upto_region 2 with (fail)
      go_quiet (fail)
      go_upto_region 7 with (fail)
      obtain ⟨w5, hw5⟩ : ∃ x, x = (w1.drewN nq).setCell ⟨rb, 1, none⟩ (.int .i64 ((a : Int) + (n : Int))) := ⟨_, rfl⟩
      have HS5 := Lib.hid (show RdS 100 w0 w1 rb _ B ⟨a + n, 0, bd⟩ w5 by rw [hw5]; exact HSET.out _ (by first | exact Below.refl _ _ | exact below_drewN (Below.refl _ _) _ | exact below_drewN (below_drewN (Below.refl _ _) _) _))
      rw [← hw5]
      clear hw5 HSET k0 k1 k2 k3 g1
      have k0 := HS5.out.at_.cells.1
      have k1 : w5.cell? ⟨rb, 1, none⟩ = some (.int .i64 ((a : Int) + (n : Int))) := by rw [← hpp]; exact HS5.out.at_.cells.2.1
      have k3 := HS5.out.at_.lt
      go_still_tail 14, (by decide +kernel)
      change wpList _ _ _ _ _ w5.drew
      have BD6 := Lib.hid (Below.drew (Below.refl w5.heap.size w5))
      generalize w5.drew = w6 at *
      have HS6 := Lib.hid (HS5.out.trans (RdS.quiet HS5.out.at_ BD6.out))
      have hconv := HCV.out w6 (HPC.out w6 HS6.out.at_.be)
      by_cases hca : cv = a
      · obtain rfl : n = 0 := by omega
        have hconv0 := run_convert_bytes_arg (P := Try.prog) w6 36 5 Try.underlying36 Try.underlying5 b off 0 0 [] rfl (fun i hi => absurd hi (by omega)) 9 Try.underlying9
        clear hconv
        go_wp2
        refine bodyPost_ret (v := .string ByteArray.empty) (by first | (simp [results, Try.results79, go_sem]; done) | (simp [results, Try.results79, go_sem]; rfl)) rfl ?_
        rw [E.out]
        exact ⟨rfl, HS.out.trans HS6.out⟩
      · go_wp2
        refine bodyPost_ret (v := .string (strOfNums (List.take n (List.drop a B)))) (by first | (simp [results, Try.results79, go_sem]; done) | (simp [results, Try.results79, go_sem]; rfl)) rfl ?_
        rw [E.out]
        exact ⟨rfl, HS.out.trans HS6.out⟩
set_option maxRecDepth 100000 in
set_option maxHeartbeats 8000000 in
theorem rd_item (w0 W : World) (rb : Nat) (sv : Value) (B : List Int) (s : Rs) (h : RdAt 100 w0 W rb sv B s) : Calls Try.prog 89 #[.pointer (some ⟨rb, 0, none⟩)] W (RdVal 100 w0 W rb sv B (.agg (itV (itR B s).1).toArray) (itR B s).2) := by
  have hlt := h.lt
  have hz0 : w0.heap.size ≤ W.heap.size := by have := h.zb; omega
  have hby := h.byte
  have HN := Lib.hid (fun (W1 : World) (s1 : Rs) (h1 : RdAt 100 w0 W1 rb sv B s1) => rd_number w0 W1 rb sv B s1 h1)
  obtain ⟨k, hk⟩ : ∃ k, k = octR 127 B s := ⟨_, rfl⟩
  obtain ⟨n1, hn1⟩ : ∃ y, y = numR B k.2 := ⟨_, rfl⟩
  obtain ⟨n2, hn2⟩ : ∃ y, y = numR B n1.2 := ⟨_, rfl⟩
  obtain ⟨n3, hn3⟩ : ∃ y, y = numR B n2.2 := ⟨_, rfl⟩
  obtain ⟨n4, hn4⟩ : ∃ y, y = numR B n3.2 := ⟨_, rfl⟩
  have E := Lib.hid (show itR B s = (⟨k.1, n1.1, n2.1, n3.1, n4.1⟩, n4.2) by rw [hn4, hn3, hn2, hn1, hk]; rfl)
  have hkr : 0 ≤ k.1 ∧ k.1 ≤ 127 := by
    rw [hk]
    rcases octR_sum 127 hby s with ⟨_, h⟩ | ⟨_, h1, _, h2, _⟩
    · rw [h]; exact ⟨by omega, by omega⟩
    · exact ⟨h1, h2⟩
  have H1 := Lib.hid hn1
  have H2 := Lib.hid hn2
  have H3 := Lib.hid hn3
  have H4 := Lib.hid hn4
  have HK := Lib.hid hk
  obtain ⟨kv, s1⟩ := k
  obtain ⟨v1, s2⟩ := n1
  obtain ⟨v2, s3⟩ := n2
  obtain ⟨v3, s4⟩ := n3
  obtain ⟨v4, s5⟩ := n4
  simp only at hkr E H1 H2 H3 H4
  obtain ⟨hk0, hk1⟩ := hkr
  clear hk hn1 hn2 hn3 hn4
  rw [E.out]
  have B1 : Below W.heap.size W (W.alloc (.cells #[.int .i8 0, .int .i64 0, .int .i64 0, .int .i64 0, .int .i64 0] 57)) := below_al (Below.refl _ _) _
  have HA := Lib.hid (h.later B1)
  have HC := Lib.hid (rd_octet w0 _ rb sv B s 127 HA.out)
  rw [← HK.out] at HC
  have HH := Lib.hid h
  clear h HA
  go_enter Try.func89, Try.ntmps89
  go_wp2_with fail
  refine HC.out.mono ?_
  clear HC
  have b1 : (W.alloc (.cells #[.int .i8 0, .int .i64 0, .int .i64 0, .int .i64 0, .int .i64 0] 57)).heap[W.heap.size]? = some (.cells #[.int .i8 0, .int .i64 0, .int .i64 0, .int .i64 0, .int .i64 0] 57 (0, 0)) := heap_alloc_new _ _
  rintro e w1 ⟨rfl, hs⟩
  have HS1 := Lib.hid (hs.from (W := W) B1)
  have b1 : w1.heap[W.heap.size]? = some (.cells #[.int .i8 0, .int .i64 0, .int .i64 0, .int .i64 0, .int .i64 0] 57 (0, 0)) := (hs.fr _ (lt_of_block b1) (by omega)).trans b1
  have B1 := Lib.hid b1
  clear hs
  simp only at HS1 ⊢
  have z1 : W.heap.size < w1.heap.size := lt_of_block b1
  clear b1
  obtain ⟨x1, hx1⟩ : ∃ x, x = w1.alloc (.cells #[.int .i8 kv, .int .i64 0, .int .i64 0, .int .i64 0, .int .i64 0] 57) := ⟨_, rfl⟩
  have BX : Below w1.heap.size w1 x1 := by rw [hx1]; exact below_al (Below.refl _ _) _
  have c1 : x1.heap[w1.heap.size]? = some (.cells #[.int .i8 kv, .int .i64 0, .int .i64 0, .int .i64 0, .int .i64 0] 57 (0, 0)) := by rw [hx1]; exact heap_alloc_new _ _
  have X1 := Lib.hid (HS1.out.trans (RdS.quiet HS1.out.at_ BX))
  have D1 := Lib.hid ((BX.block _ z1).trans B1.out)
  have C1 := Lib.hid c1
  obtain ⟨it, hit⟩ : ∃ x, x = w1.heap.size := ⟨_, rfl⟩
  have zit : W.heap.size < it := by omega
  rw [← hit] at C1
  have HX1 := Lib.hid hx1.symm
  have HIT := Lib.hid hit.symm
  clear BX c1 z1 hx1 hit B1 HS1
  have HC := Lib.hid (HN.out x1 s1 X1.out.at_)
  rw [← H1.out] at HC
  go_wp2_with fail
  simp only [HX1.out, HIT.out]
  refine HC.out.mono ?_
  clear HC
  rintro e w2 ⟨rfl, hs⟩
  have Y2 := Lib.hid (X1.out.trans hs)
  have d2 := (hs.fr _ (lt_of_block D1.out) (by omega)).trans D1.out
  have c2 := (hs.fr _ (lt_of_block C1.out) (by omega)).trans C1.out
  clear hs
  simp only at Y2 ⊢
  obtain ⟨x2, hx2⟩ : ∃ x, x = w2.setCell ⟨it, 1, none⟩ (.int .i64 v1) := ⟨_, rfl⟩
  have X2 := Lib.hid (show RdS 100 w0 W rb sv B s2 x2 by rw [hx2]; exact Y2.out.more hlt hz0 ((Below.refl _ _).setCell (p := ⟨it, 1, none⟩) (Nat.le_of_lt zit) _))
  have C2 := Lib.hid (show x2.heap[it]? = some (.cells #[.int .i8 kv, .int .i64 v1, .int .i64 0, .int .i64 0, .int .i64 0] 57 (0, 0)) by rw [hx2]; exact cells_set c2 1 _)
  have D2 := Lib.hid (show x2.heap[W.heap.size]? = some (.cells #[.int .i8 0, .int .i64 0, .int .i64 0, .int .i64 0, .int .i64 0] 57 (0, 0)) by rw [hx2, blk_setCell_other _ _ _ _ (by simp; omega)]; exact d2)
  have q2 : w2.cell? ⟨it, 1, none⟩ = some (.int .i64 0) := by rw [cell_of_row _ _ _ _ _ _ c2]; rfl
  have f2 : w2.frozen? ⟨it, 1, none⟩ = false := frozen_of_row _ _ _ _ _ c2
  have zz2 := lt_of_block c2
  have HX2 := Lib.hid hx2.symm
  clear hx2 c2 d2 C1 D1 X1 Y2
  have HC := Lib.hid (HN.out x2 s2 X2.out.at_)
  rw [← H2.out] at HC
  go_wp2_with fail
  simp only [HX2.out, HIT.out]
  refine HC.out.mono ?_
  clear HC
  rintro e w3 ⟨rfl, hs⟩
  have Y3 := Lib.hid (X2.out.trans hs)
  have d3 := (hs.fr _ (lt_of_block D2.out) (by omega)).trans D2.out
  have c3 := (hs.fr _ (lt_of_block C2.out) (by omega)).trans C2.out
  clear hs
  simp only at Y3 ⊢
  obtain ⟨x3, hx3⟩ : ∃ x, x = w3.setCell ⟨it, 2, none⟩ (.int .i64 v2) := ⟨_, rfl⟩
  have X3 := Lib.hid (show RdS 100 w0 W rb sv B s3 x3 by rw [hx3]; exact Y3.out.more hlt hz0 ((Below.refl _ _).setCell (p := ⟨it, 2, none⟩) (Nat.le_of_lt zit) _))
  have C3 := Lib.hid (show x3.heap[it]? = some (.cells #[.int .i8 kv, .int .i64 v1, .int .i64 v2, .int .i64 0, .int .i64 0] 57 (0, 0)) by rw [hx3]; exact cells_set c3 2 _)
  have D3 := Lib.hid (show x3.heap[W.heap.size]? = some (.cells #[.int .i8 0, .int .i64 0, .int .i64 0, .int .i64 0, .int .i64 0] 57 (0, 0)) by rw [hx3, blk_setCell_other _ _ _ _ (by simp; omega)]; exact d3)
  have q3 : w3.cell? ⟨it, 2, none⟩ = some (.int .i64 0) := by rw [cell_of_row _ _ _ _ _ _ c3]; rfl
  have f3 : w3.frozen? ⟨it, 2, none⟩ = false := frozen_of_row _ _ _ _ _ c3
  have zz3 := lt_of_block c3
  have HX3 := Lib.hid hx3.symm
  clear hx3 c3 d3 C2 D2 X2 Y3
  have HC := Lib.hid (HN.out x3 s3 X3.out.at_)
  rw [← H3.out] at HC
  go_wp2_with fail
  simp only [HX3.out, HIT.out]
  refine HC.out.mono ?_
  clear HC
  rintro e w4 ⟨rfl, hs⟩
  have Y4 := Lib.hid (X3.out.trans hs)
  have d4 := (hs.fr _ (lt_of_block D3.out) (by omega)).trans D3.out
  have c4 := (hs.fr _ (lt_of_block C3.out) (by omega)).trans C3.out
  clear hs
  simp only at Y4 ⊢
  obtain ⟨x4, hx4⟩ : ∃ x, x = w4.setCell ⟨it, 3, none⟩ (.int .i64 v3) := ⟨_, rfl⟩
  have X4 := Lib.hid (show RdS 100 w0 W rb sv B s4 x4 by rw [hx4]; exact Y4.out.more hlt hz0 ((Below.refl _ _).setCell (p := ⟨it, 3, none⟩) (Nat.le_of_lt zit) _))
  have C4 := Lib.hid (show x4.heap[it]? = some (.cells #[.int .i8 kv, .int .i64 v1, .int .i64 v2, .int .i64 v3, .int .i64 0] 57 (0, 0)) by rw [hx4]; exact cells_set c4 3 _)
  have D4 := Lib.hid (show x4.heap[W.heap.size]? = some (.cells #[.int .i8 0, .int .i64 0, .int .i64 0, .int .i64 0, .int .i64 0] 57 (0, 0)) by rw [hx4, blk_setCell_other _ _ _ _ (by simp; omega)]; exact d4)
  have q4 : w4.cell? ⟨it, 3, none⟩ = some (.int .i64 0) := by rw [cell_of_row _ _ _ _ _ _ c4]; rfl
  have f4 : w4.frozen? ⟨it, 3, none⟩ = false := frozen_of_row _ _ _ _ _ c4
  have zz4 := lt_of_block c4
  have HX4 := Lib.hid hx4.symm
  clear hx4 c4 d4 C3 D3 X3 Y4
  have HC := Lib.hid (HN.out x4 s4 X4.out.at_)
  rw [← H4.out] at HC
  go_wp2_with fail
  simp only [HX4.out, HIT.out]
  refine HC.out.mono ?_
  clear HC
  rintro e w5 ⟨rfl, hs⟩
  have Y5 := Lib.hid (X4.out.trans hs)
  have d5 := (hs.fr _ (lt_of_block D4.out) (by omega)).trans D4.out
  have c5 := (hs.fr _ (lt_of_block C4.out) (by omega)).trans C4.out
  clear hs
  simp only at Y5 ⊢
  obtain ⟨x5, hx5⟩ : ∃ x, x = w5.setCell ⟨it, 4, none⟩ (.int .i64 v4) := ⟨_, rfl⟩
  have X5 := Lib.hid (show RdS 100 w0 W rb sv B s5 x5 by rw [hx5]; exact Y5.out.more hlt hz0 ((Below.refl _ _).setCell (p := ⟨it, 4, none⟩) (Nat.le_of_lt zit) _))
  have C5 := Lib.hid (show x5.heap[it]? = some (.cells #[.int .i8 kv, .int .i64 v1, .int .i64 v2, .int .i64 v3, .int .i64 v4] 57 (0, 0)) by rw [hx5]; exact cells_set c5 4 _)
  have D5 := Lib.hid (show x5.heap[W.heap.size]? = some (.cells #[.int .i8 0, .int .i64 0, .int .i64 0, .int .i64 0, .int .i64 0] 57 (0, 0)) by rw [hx5, blk_setCell_other _ _ _ _ (by simp; omega)]; exact d5)
  have q5 : w5.cell? ⟨it, 4, none⟩ = some (.int .i64 0) := by rw [cell_of_row _ _ _ _ _ _ c5]; rfl
  have f5 : w5.frozen? ⟨it, 4, none⟩ = false := frozen_of_row _ _ _ _ _ c5
  have zz5 := lt_of_block c5
  have HX5 := Lib.hid hx5.symm
  have e0 : w5.cell? ⟨it, 0, none⟩ = some (.int .i8 kv) := by rw [cell_of_row _ _ _ _ _ _ c5]; rfl
  have e1 : w5.cell? ⟨it, 1, none⟩ = some (.int .i64 v1) := by rw [cell_of_row _ _ _ _ _ _ c5]; rfl
  have e2 : w5.cell? ⟨it, 2, none⟩ = some (.int .i64 v2) := by rw [cell_of_row _ _ _ _ _ _ c5]; rfl
  have e3 : w5.cell? ⟨it, 3, none⟩ = some (.int .i64 v3) := by rw [cell_of_row _ _ _ _ _ _ c5]; rfl
  have r0 : w5.cell? ⟨W.heap.size, 0, none⟩ = some (.int .i8 0) := by rw [cell_of_row _ _ _ _ _ _ d5]; rfl
  have t0 : w5.frozen? ⟨W.heap.size, 0, none⟩ = false := frozen_of_row _ _ _ _ _ d5
  have r1 : w5.cell? ⟨W.heap.size, 1, none⟩ = some (.int .i64 0) := by rw [cell_of_row _ _ _ _ _ _ d5]; rfl
  have t1 : w5.frozen? ⟨W.heap.size, 1, none⟩ = false := frozen_of_row _ _ _ _ _ d5
  have r2 : w5.cell? ⟨W.heap.size, 2, none⟩ = some (.int .i64 0) := by rw [cell_of_row _ _ _ _ _ _ d5]; rfl
  have t2 : w5.frozen? ⟨W.heap.size, 2, none⟩ = false := frozen_of_row _ _ _ _ _ d5
  have r3 : w5.cell? ⟨W.heap.size, 3, none⟩ = some (.int .i64 0) := by rw [cell_of_row _ _ _ _ _ _ d5]; rfl
  have t3 : w5.frozen? ⟨W.heap.size, 3, none⟩ = false := frozen_of_row _ _ _ _ _ d5
  have r4 : w5.cell? ⟨W.heap.size, 4, none⟩ = some (.int .i64 0) := by rw [cell_of_row _ _ _ _ _ _ d5]; rfl
  have t4 : w5.frozen? ⟨W.heap.size, 4, none⟩ = false := frozen_of_row _ _ _ _ _ d5
  have zw := lt_of_block d5
  have hne : it ≠ W.heap.size := by omega
  have hne' : W.heap.size ≠ it := by omega
  have HY := Lib.hid Y5.out
  have HF := Lib.hid (fun W2 (hb : Below W.heap.size w5 W2) => Y5.out.more hlt hz0 hb)
  have HZ := Lib.hid zit
  have D5 := Lib.hid d5
  clear hx5 c5 d5 C4 D4 X4 Y5 X5 C5 HX5
  go_wp2
  obtain ⟨x6, hx6⟩ : ∃ x, x = ((((((w5.setCell ⟨it, 4, none⟩ (.int .i64 v4)).setCell ⟨W.heap.size, 0, none⟩ (.int .i8 kv)).setCell ⟨W.heap.size, 1, none⟩ (.int .i64 v1)).setCell ⟨W.heap.size, 2, none⟩ (.int .i64 v2)).setCell ⟨W.heap.size, 3, none⟩ (.int .i64 v3)).setCell ⟨W.heap.size, 4, none⟩ (.int .i64 v4)) := ⟨_, rfl⟩
  have d6 : x6.heap[W.heap.size]? = some (.cells #[.int .i8 kv, .int .i64 v1, .int .i64 v2, .int .i64 v3, .int .i64 v4] 57 (0, 0)) := by rw [hx6]; exact (cells_set (cells_set (cells_set (cells_set (cells_set (show (w5.setCell ⟨it, 4, none⟩ (.int .i64 v4)).heap[W.heap.size]? = some (.cells #[.int .i8 0, .int .i64 0, .int .i64 0, .int .i64 0, .int .i64 0] 57 (0, 0)) by rw [blk_setCell_other _ _ _ _ (by simp; omega)]; exact D5.out) 0 (.int .i8 kv)) 1 (.int .i64 v1)) 2 (.int .i64 v2)) 3 (.int .i64 v3)) 4 (.int .i64 v4))
  have HZ6 := Lib.hid (HF.out x6 (by rw [hx6]; exact ((((((Below.refl W.heap.size w5 |>.setCell (p := ⟨it, 4, none⟩) (Nat.le_of_lt HZ.out) (.int .i64 v4)) |>.setCell (p := ⟨W.heap.size, 0, none⟩) (Nat.le_refl _) (.int .i8 kv)) |>.setCell (p := ⟨W.heap.size, 1, none⟩) (Nat.le_refl _) (.int .i64 v1)) |>.setCell (p := ⟨W.heap.size, 2, none⟩) (Nat.le_refl _) (.int .i64 v2)) |>.setCell (p := ⟨W.heap.size, 3, none⟩) (Nat.le_refl _) (.int .i64 v3)) |>.setCell (p := ⟨W.heap.size, 4, none⟩) (Nat.le_refl _) (.int .i64 v4))))
  rw [← hx6]
  have u0 : x6.cell? ⟨W.heap.size, 0, none⟩ = some (.int .i8 kv) := by rw [cell_of_row _ _ _ _ _ _ d6]; rfl
  have u1 : x6.cell? ⟨W.heap.size, 1, none⟩ = some (.int .i64 v1) := by rw [cell_of_row _ _ _ _ _ _ d6]; rfl
  have u2 : x6.cell? ⟨W.heap.size, 2, none⟩ = some (.int .i64 v2) := by rw [cell_of_row _ _ _ _ _ _ d6]; rfl
  have u3 : x6.cell? ⟨W.heap.size, 3, none⟩ = some (.int .i64 v3) := by rw [cell_of_row _ _ _ _ _ _ d6]; rfl
  have u4 : x6.cell? ⟨W.heap.size, 4, none⟩ = some (.int .i64 v4) := by rw [cell_of_row _ _ _ _ _ _ d6]; rfl
  clear hx6 d6
  refine bodyPost_ret (v := .agg #[.int .i8 kv, .int .i64 v1, .int .i64 v2, .int .i64 v3, .int .i64 v4]) (by simp [results, Try.results89, go_sem, u0, u1, u2, u3, u4]) rfl ?_
  exact ⟨rfl, HZ6.out⟩
end Go.Proofs.Ytcihihncgpddfaa
