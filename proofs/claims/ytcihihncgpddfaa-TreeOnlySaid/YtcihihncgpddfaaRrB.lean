/- Reading trees' bytes: fresco/frescoref10.Reader: contracts of signed, text, item. -/
import Derived.Test.YtcihihncgpddfaaRdB
import Derived.BigQuiet
import Derived.StillTailTactics
namespace Go.Proofs.Ytcihihncgpddfaa
open Go.RowKit Go.Deep
set_option linter.unusedVariables false
set_option linter.unusedSimpArgs false

set_option maxRecDepth 100000 in
set_option maxHeartbeats 8000000 in
theorem rr_signed (w0 W : World) (rb : Nat) (sv : Value) (B : List Int) (s : Rs) (h : RdAt 93 w0 W rb sv B s) : Calls Try.prog 108 #[.pointer (some ⟨rb, 0, none⟩)] W (RdPost 93 w0 W rb sv B (sgnR B s)) := by
  have HC := Lib.hid (rr_number w0 W rb sv B s h)
  have hr := numR_range h.byte s
  have E := Lib.hid (sgnR_eq B s)
  clear h
  obtain ⟨r, hrr⟩ : ∃ r, r = numR B s := ⟨_, rfl⟩
  rw [← hrr] at HC hr E
  clear hrr
  obtain ⟨n, s1⟩ := r
  simp only at hr E
  obtain ⟨hr0, hr1⟩ := hr
  have htm : Int.tmod n 2 = n % 2 := Int.tmod_eq_emod_of_nonneg hr0
  have htd : Int.tdiv n 2 = n / 2 := Int.tdiv_eq_ediv_of_nonneg hr0
  by_cases hm : n % 2 = 1
  · have hmb : (n % 2 == 1) = true := by rw [beq_iff_eq]; exact hm
    have htn : Int.tdiv (-(n + 1)) 2 = -(n / 2) - 1 := by rw [Int.neg_tdiv, Int.tdiv_eq_ediv_of_nonneg (by omega)]; omega
    have hab : (-(n + 1)).tdiv 2 = -(n / 2) - 1 := htn
    have E2 := Lib.hid (show sgnR B s = (-(n / 2) - 1, s1) by rw [E.out]; unfold unS; rw [if_pos hm])
    clear E
    go_enter Try.func108, Try.ntmps108
    go_wp2_with fail
    refine HC.out.mono ?_
    rintro e w1 ⟨rfl, hs⟩
    have HS := Lib.hid hs
    clear hs HC
    go_wp2
    refine bodyPost_ret (v := .int .i64 (-(n / 2) - 1)) (by first | (simp [results, Try.results108, go_sem]; done) | (simp [results, Try.results108, go_sem]; rfl)) rfl ?_
    exact rd_mk E2.out HS.out
  · have hmb : (n % 2 == 1) = false := beq_eq_false_iff_ne.2 hm
    have E2 := Lib.hid (show sgnR B s = (n / 2, s1) by rw [E.out]; unfold unS; rw [if_neg hm])
    clear E
    go_enter Try.func108, Try.ntmps108
    go_wp2_with fail
    refine HC.out.mono ?_
    rintro e w1 ⟨rfl, hs⟩
    have HS := Lib.hid hs
    clear hs HC
    go_wp2
    refine bodyPost_ret (v := .int .i64 (n / 2)) (by first | (simp [results, Try.results108, go_sem]; done) | (simp [results, Try.results108, go_sem]; rfl)) rfl ?_
    exact rd_mk E2.out HS.out
set_option maxRecDepth 100000 in
set_option maxHeartbeats 8000000 in
theorem rr_text (w0 W : World) (rb : Nat) (sv : Value) (B : List Int) (s : Rs) (h : RdAt 93 w0 W rb sv B s) : Calls Try.prog 106 #[.pointer (some ⟨rb, 0, none⟩)] W (RdVal 93 w0 W rb sv B (.string (txtR B s).1) (txtR B s).2) := by
  have HC := Lib.hid (rr_number w0 W rb sv B s h)
  have hf := numR_facts h.byte s
  have hlen := h.len
  have hbe := h.be
  have T1 := Lib.hid (txtR_no (B := B) (s := s))
  have T2 := Lib.hid (txtR_big (B := B) (s := s))
  have T3 := Lib.hid (txtR_ok (B := B) (s := s))
  obtain ⟨pv, cv, rfl, hcv1, hcv2, -⟩ := h.src
  have HB := Lib.hid h.src
  clear h
  obtain ⟨r, hrr⟩ : ∃ r, r = numR B s := ⟨_, rfl⟩
  rw [← hrr] at HC hf T1 T2 T3
  clear hrr
  obtain ⟨n, s1⟩ := r
  obtain ⟨a, cd, bd⟩ := s1
  simp only at hf T1 T2 T3
  rcases hf with ⟨hcode, rfl⟩ | ⟨rfl, hr0, hr1, hpos⟩
  · have E := Lib.hid (T1.out hcode)
    have hcb : (cd == 0) = false := beq_eq_false_iff_ne.2 hcode
    clear T1 T2 T3
    go_enter Try.func106, Try.ntmps106
    go_wp2_with fail
    refine HC.out.mono ?_
    rintro e w1 ⟨rfl, hs⟩
    have HS := Lib.hid hs
    have ha : a ≤ B.length := hs.at_.at_
    have hneg : ¬ (B.length : Int) - (a : Int) < 0 := by omega
    have k0 := HS.out.at_.cells.1
    have k1 : w1.cell? ⟨rb, 1, none⟩ = some (.int .i64 a) := HS.out.at_.cells.2.1
    have k2 : w1.cell? ⟨rb, 2, none⟩ = some (.int .i64 cd) := HS.out.at_.cells.2.2.1
    have k3 := HS.out.at_.lt
    have g1 := HS.out.at_.free 1
    clear hs HC hcode
    go_wp2
    refine bodyPost_ret (v := .string ByteArray.empty) (by first | (simp [results, Try.results106, go_sem]; done) | (simp [results, Try.results106, go_sem]; rfl)) rfl ?_
    rw [E.out]
    exact ⟨rfl, HS.out.trans (RdS.quiet HS.out.at_ (by first | exact Below.refl _ _ | exact below_drewN (Below.refl _ _) _ | exact below_drewN (below_drewN (Below.refl _ _) _) _))⟩
  · obtain ⟨n, rfl⟩ := Int.eq_ofNat_of_zero_le hr0
    by_cases hbig : (B.length : Int) - (a : Int) < (n : Int)
    · have E := Lib.hid (T2.out rfl hbig)
      clear T1 T2 T3
      go_enter Try.func106, Try.ntmps106
      go_wp2_with fail
      refine HC.out.mono ?_
      rintro e w1 ⟨rfl, hs⟩
      have HS := Lib.hid hs
      have ha : a ≤ B.length := hs.at_.at_
      have HF := Lib.hid (fun W1 (hb : Below w1.heap.size w1 W1) => rr_fail w0 W1 rb _ B _ 6 B.length (hs.at_.later hb))
      have k0 := HS.out.at_.cells.1
      have k1 : w1.cell? ⟨rb, 1, none⟩ = some (.int .i64 a) := HS.out.at_.cells.2.1
      have k2 : w1.cell? ⟨rb, 2, none⟩ = some (.int .i64 0) := HS.out.at_.cells.2.2.1
      have k3 := HS.out.at_.lt
      have g1 := HS.out.at_.free 1
      clear hs HC
      go_upto_region 4 with (fail)
      go_quiet (fail)
      go_wp2_with fail
      refine (HF.out _ (by first | exact Below.refl _ _ | exact below_drewN (Below.refl _ _) _ | exact below_drewN (below_drewN (Below.refl _ _) _) _)).mono ?_
      rintro e w2 ⟨rfl, hs⟩
      rw [failS_yes rfl] at hs
      have HS2 := Lib.hid (HS.out.trans (hs.from (W := w1) (by first | exact Below.refl _ _ | exact below_drewN (Below.refl _ _) _ | exact below_drewN (below_drewN (Below.refl _ _) _) _)))
      have j2 : w2.cell? ⟨rb, 2, none⟩ = some (.int .i64 6) := HS2.out.at_.cells.2.2.1
      have j3 := HS2.out.at_.lt
      clear hs HF k0 k1 k2 k3 g1 HS
      go_wp2
      refine bodyPost_ret (v := .string ByteArray.empty) (by first | (simp [results, Try.results106, go_sem]; done) | (simp [results, Try.results106, go_sem]; rfl)) rfl ?_
      rw [E.out]
      exact ⟨rfl, HS2.out⟩
    · have E := Lib.hid (T3.out rfl hbig)
      clear T1 T2 T3
      rw [Int.toNat_natCast] at E
      go_enter Try.func106, Try.ntmps106
      go_wp2_with fail
      refine HC.out.mono ?_
      rintro e w1 ⟨rfl, hs⟩
      have HS := Lib.hid hs
      have ha : a ≤ B.length := hs.at_.at_
      obtain ⟨b, off, rfl, hb, hpl, hpc⟩ := HB.out.piece hpos a n (by omega)
      have HSET := Lib.hid (fun W1 (hb : Below w1.heap.size w1 W1) => hs.at_.set1 (s1 := ⟨a + n, 0, bd⟩) hb 1 (.int .i64 ((a + n : Nat) : Int)) rfl (by simp only; omega))
      have hpp : ((a + n : Nat) : Int) = (a : Int) + (n : Int) := by omega
      rw [hpp] at HSET
      have k0 := HS.out.at_.cells.1
      have k1 : w1.cell? ⟨rb, 1, none⟩ = some (.int .i64 a) := HS.out.at_.cells.2.1
      have k2 : w1.cell? ⟨rb, 2, none⟩ = some (.int .i64 0) := HS.out.at_.cells.2.2.1
      have k3 := HS.out.at_.lt
      have g1 := HS.out.at_.free 1
      have hnb : b ≠ rb := fun e => by have := hs.at_.zb; omega
      have HCV := Lib.hid (fun (w' : World) (hc : ∀ i, i < n → w'.cell? ⟨b, off + a + i, none⟩ = some (.int .u8 (((B.drop a).take n).getD i 0))) => run_convert_bytes_arg (P := Try.prog) w' 36 5 Try.underlying36 Try.underlying5 b (off + a) n (cv - a) ((B.drop a).take n) hpl hc 9 Try.underlying9)
      have HPC := Lib.hid (fun (w' : World) (hb' : Below w0.heap.size w0 w') i (hi : i < n) => ((bcell hb').1 _ _ hb).trans (hpc i hi))
      have hsb : (a : Int) + (n : Int) - (n : Int) = (a : Int) := by omega
      have hnle : n ≤ 1048576 := by omega
      clear hs HC hpc hr0 hr1
      go_upto_region 4 with (fail)
      go_quiet (fail)
      go_upto_region 8 with (fail)
      obtain ⟨w5, hw5⟩ : ∃ x, x = (w1.drewN nq).setCell ⟨rb, 1, none⟩ (.int .i64 ((a : Int) + (n : Int))) := ⟨_, rfl⟩
      have HS5 := Lib.hid (show RdS 93 w0 w1 rb _ B ⟨a + n, 0, bd⟩ w5 by rw [hw5]; exact HSET.out _ (by first | exact Below.refl _ _ | exact below_drewN (Below.refl _ _) _ | exact below_drewN (below_drewN (Below.refl _ _) _) _))
      rw [← hw5]
      clear hw5 HSET k0 k1 k2 k3 g1
      have k0 := HS5.out.at_.cells.1
      have k1 : w5.cell? ⟨rb, 1, none⟩ = some (.int .i64 ((a : Int) + (n : Int))) := by rw [← hpp]; exact HS5.out.at_.cells.2.1
      have k3 := HS5.out.at_.lt
      go_still_tail 14, (by decide +kernel)
      change wpList _ _ _ _ _ w5.drew
      have BD6 := Lib.hid (Below.drew (Below.refl w5.heap.size w5))
      generalize w5.drew = w6 at *
      have HS6 := Lib.hid (HS5.out.trans (RdS.quiet HS5.out.at_ BD6.out))
      have hconv := HCV.out w6 (HPC.out w6 HS6.out.at_.be)
      by_cases hca : cv = a
      · obtain rfl : n = 0 := by omega
        have hconv0 := run_convert_bytes_arg (P := Try.prog) w6 36 5 Try.underlying36 Try.underlying5 b off 0 0 [] rfl (fun i hi => absurd hi (by omega)) 9 Try.underlying9
        clear hconv
        go_wp2
        refine bodyPost_ret (v := .string ByteArray.empty) (by first | (simp [results, Try.results106, go_sem]; done) | (simp [results, Try.results106, go_sem]; rfl)) rfl ?_
        rw [E.out]
        exact ⟨rfl, HS.out.trans HS6.out⟩
      · go_wp2
        refine bodyPost_ret (v := .string (strOfNums (List.take n (List.drop a B)))) (by first | (simp [results, Try.results106, go_sem]; done) | (simp [results, Try.results106, go_sem]; rfl)) rfl ?_
        rw [E.out]
        exact ⟨rfl, HS.out.trans HS6.out⟩
set_option maxRecDepth 100000 in
set_option maxHeartbeats 8000000 in
theorem rr_item (w0 W : World) (rb : Nat) (sv : Value) (B : List Int) (s : Rs) (h : RdAt 93 w0 W rb sv B s) : Calls Try.prog 107 #[.pointer (some ⟨rb, 0, none⟩)] W (RdVal 93 w0 W rb sv B (.agg (itV (itR B s).1).toArray) (itR B s).2) := by
  have hlt := h.lt
  have hz0 : w0.heap.size ≤ W.heap.size := by have := h.zb; omega
  have hby := h.byte
  have HN := Lib.hid (fun (W1 : World) (s1 : Rs) (h1 : RdAt 93 w0 W1 rb sv B s1) => rr_number w0 W1 rb sv B s1 h1)
  obtain ⟨k, hk⟩ : ∃ k, k = octR 127 B s := ⟨_, rfl⟩
  obtain ⟨n1, hn1⟩ : ∃ y, y = numR B k.2 := ⟨_, rfl⟩
  obtain ⟨n2, hn2⟩ : ∃ y, y = numR B n1.2 := ⟨_, rfl⟩
  obtain ⟨n3, hn3⟩ : ∃ y, y = numR B n2.2 := ⟨_, rfl⟩
  obtain ⟨n4, hn4⟩ : ∃ y, y = numR B n3.2 := ⟨_, rfl⟩
  have E := Lib.hid (show itR B s = (⟨k.1, n1.1, n2.1, n3.1, n4.1⟩, n4.2) by rw [hn4, hn3, hn2, hn1, hk]; rfl)
  have hkr : 0 ≤ k.1 ∧ k.1 ≤ 127 := by
    rw [hk]
    rcases octR_sum 127 hby s with ⟨_, h⟩ | ⟨_, h1, _, h2, _⟩
    · rw [h]; exact ⟨by omega, by omega⟩
    · exact ⟨h1, h2⟩
  have H1 := Lib.hid hn1
  have H2 := Lib.hid hn2
  have H3 := Lib.hid hn3
  have H4 := Lib.hid hn4
  have HK := Lib.hid hk
  obtain ⟨kv, s1⟩ := k
  obtain ⟨v1, s2⟩ := n1
  obtain ⟨v2, s3⟩ := n2
  obtain ⟨v3, s4⟩ := n3
  obtain ⟨v4, s5⟩ := n4
  simp only at hkr E H1 H2 H3 H4
  obtain ⟨hk0, hk1⟩ := hkr
  clear hk hn1 hn2 hn3 hn4
  rw [E.out]
  have B1 : Below W.heap.size W (W.alloc (.cells #[.int .i8 0, .int .i64 0, .int .i64 0, .int .i64 0, .int .i64 0] 57)) := below_al (Below.refl _ _) _
  have HA := Lib.hid (h.later B1)
  have HC := Lib.hid (rr_octet w0 _ rb sv B s 127 HA.out)
  rw [← HK.out] at HC
  clear h HA
  go_enter Try.func107, Try.ntmps107
  go_wp2_with fail
  refine HC.out.mono ?_
  clear HC
  have b1 : (W.alloc (.cells #[.int .i8 0, .int .i64 0, .int .i64 0, .int .i64 0, .int .i64 0] 57)).heap[W.heap.size]? = some (.cells #[.int .i8 0, .int .i64 0, .int .i64 0, .int .i64 0, .int .i64 0] 57 (0, 0)) := heap_alloc_new _ _
  rintro e w1 ⟨rfl, hs⟩
  have Y1 := Lib.hid (hs.from (W := W) B1)
  have D1 := Lib.hid ((hs.fr _ (lt_of_block b1) (by omega)).trans b1)
  clear hs b1 B1
  simp only at Y1 ⊢
  have HC := Lib.hid (HN.out w1 s1 Y1.out.at_)
  rw [← H1.out] at HC
  go_wp2_with fail
  refine HC.out.mono ?_
  clear HC
  rintro e w2 ⟨rfl, hs⟩
  have Y2 := Lib.hid (Y1.out.trans hs)
  have D2 := Lib.hid ((hs.fr _ (lt_of_block D1.out) (by omega)).trans D1.out)
  clear hs Y1 D1
  simp only at Y2 ⊢
  have HC := Lib.hid (HN.out w2 s2 Y2.out.at_)
  rw [← H2.out] at HC
  go_wp2_with fail
  refine HC.out.mono ?_
  clear HC
  rintro e w3 ⟨rfl, hs⟩
  have Y3 := Lib.hid (Y2.out.trans hs)
  have D3 := Lib.hid ((hs.fr _ (lt_of_block D2.out) (by omega)).trans D2.out)
  clear hs Y2 D2
  simp only at Y3 ⊢
  have HC := Lib.hid (HN.out w3 s3 Y3.out.at_)
  rw [← H3.out] at HC
  go_wp2_with fail
  refine HC.out.mono ?_
  clear HC
  rintro e w4 ⟨rfl, hs⟩
  have Y4 := Lib.hid (Y3.out.trans hs)
  have D4 := Lib.hid ((hs.fr _ (lt_of_block D3.out) (by omega)).trans D3.out)
  clear hs Y3 D3
  simp only at Y4 ⊢
  have HC := Lib.hid (HN.out w4 s4 Y4.out.at_)
  rw [← H4.out] at HC
  go_wp2_with fail
  refine HC.out.mono ?_
  clear HC
  rintro e w5 ⟨rfl, hs⟩
  have Y5 := Lib.hid (Y4.out.trans hs)
  have D5 := Lib.hid ((hs.fr _ (lt_of_block D4.out) (by omega)).trans D4.out)
  clear hs Y4 D4
  simp only at Y5 ⊢
  have d5 := D5.out
  have r0 : w5.cell? ⟨W.heap.size, 0, none⟩ = some (.int .i8 0) := by rw [cell_of_row _ _ _ _ _ _ d5]; rfl
  have t0 : w5.frozen? ⟨W.heap.size, 0, none⟩ = false := frozen_of_row _ _ _ _ _ d5
  have r1 : w5.cell? ⟨W.heap.size, 1, none⟩ = some (.int .i64 0) := by rw [cell_of_row _ _ _ _ _ _ d5]; rfl
  have t1 : w5.frozen? ⟨W.heap.size, 1, none⟩ = false := frozen_of_row _ _ _ _ _ d5
  have r2 : w5.cell? ⟨W.heap.size, 2, none⟩ = some (.int .i64 0) := by rw [cell_of_row _ _ _ _ _ _ d5]; rfl
  have t2 : w5.frozen? ⟨W.heap.size, 2, none⟩ = false := frozen_of_row _ _ _ _ _ d5
  have r3 : w5.cell? ⟨W.heap.size, 3, none⟩ = some (.int .i64 0) := by rw [cell_of_row _ _ _ _ _ _ d5]; rfl
  have t3 : w5.frozen? ⟨W.heap.size, 3, none⟩ = false := frozen_of_row _ _ _ _ _ d5
  have r4 : w5.cell? ⟨W.heap.size, 4, none⟩ = some (.int .i64 0) := by rw [cell_of_row _ _ _ _ _ _ d5]; rfl
  have t4 : w5.frozen? ⟨W.heap.size, 4, none⟩ = false := frozen_of_row _ _ _ _ _ d5
  have zw := lt_of_block d5
  have HF := Lib.hid (fun W2 (hb : Below W.heap.size w5 W2) => Y5.out.more hlt hz0 hb)
  clear d5
  go_wp2
  obtain ⟨x6, hx6⟩ : ∃ x, x = (((((w5.setCell ⟨W.heap.size, 0, none⟩ (.int .i8 kv)).setCell ⟨W.heap.size, 1, none⟩ (.int .i64 v1)).setCell ⟨W.heap.size, 2, none⟩ (.int .i64 v2)).setCell ⟨W.heap.size, 3, none⟩ (.int .i64 v3)).setCell ⟨W.heap.size, 4, none⟩ (.int .i64 v4)) := ⟨_, rfl⟩
  have d6 : x6.heap[W.heap.size]? = some (.cells #[.int .i8 kv, .int .i64 v1, .int .i64 v2, .int .i64 v3, .int .i64 v4] 57 (0, 0)) := by rw [hx6]; exact (cells_set (cells_set (cells_set (cells_set (cells_set D5.out 0 (.int .i8 kv)) 1 (.int .i64 v1)) 2 (.int .i64 v2)) 3 (.int .i64 v3)) 4 (.int .i64 v4))
  have HZ6 := Lib.hid (HF.out x6 (by rw [hx6]; exact ((((((Below.refl W.heap.size w5) |>.setCell (p := ⟨W.heap.size, 0, none⟩) (Nat.le_refl _) (.int .i8 kv)) |>.setCell (p := ⟨W.heap.size, 1, none⟩) (Nat.le_refl _) (.int .i64 v1)) |>.setCell (p := ⟨W.heap.size, 2, none⟩) (Nat.le_refl _) (.int .i64 v2)) |>.setCell (p := ⟨W.heap.size, 3, none⟩) (Nat.le_refl _) (.int .i64 v3)) |>.setCell (p := ⟨W.heap.size, 4, none⟩) (Nat.le_refl _) (.int .i64 v4))))
  rw [← hx6]
  have u0 : x6.cell? ⟨W.heap.size, 0, none⟩ = some (.int .i8 kv) := by rw [cell_of_row _ _ _ _ _ _ d6]; rfl
  have u1 : x6.cell? ⟨W.heap.size, 1, none⟩ = some (.int .i64 v1) := by rw [cell_of_row _ _ _ _ _ _ d6]; rfl
  have u2 : x6.cell? ⟨W.heap.size, 2, none⟩ = some (.int .i64 v2) := by rw [cell_of_row _ _ _ _ _ _ d6]; rfl
  have u3 : x6.cell? ⟨W.heap.size, 3, none⟩ = some (.int .i64 v3) := by rw [cell_of_row _ _ _ _ _ _ d6]; rfl
  have u4 : x6.cell? ⟨W.heap.size, 4, none⟩ = some (.int .i64 v4) := by rw [cell_of_row _ _ _ _ _ _ d6]; rfl
  clear hx6 d6
  refine bodyPost_ret (v := .agg #[.int .i8 kv, .int .i64 v1, .int .i64 v2, .int .i64 v3, .int .i64 v4]) (by simp [results, Try.results107, go_sem, u0, u1, u2, u3, u4]) rfl ?_
  exact ⟨rfl, HZ6.out⟩
end Go.Proofs.Ytcihihncgpddfaa
