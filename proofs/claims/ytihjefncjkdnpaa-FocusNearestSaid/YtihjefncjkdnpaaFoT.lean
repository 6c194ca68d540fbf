/- Focus: contract of focus.Near. -/
import Derived.Test.YtihjefncjkdnpaaFoS
namespace Go.Proofs.Ytihjefncjkdnpaa
open Go.RowKit Go.Deep
set_option linter.unusedVariables false
set_option linter.unusedSimpArgs false

theorem below_drewNf {B : Nat} {a w : World} (h : Below B a w) (n : Nat) : Below B a (w.drewN n) := ⟨h.os, h.tape, h.output, h.size, h.block⟩
theorem gap_q (a n b m : Int) (w : World) (ha : -4194304 ≤ a ∧ a ≤ 4194304) (hn : -4194304 ≤ n ∧ n ≤ 4194304) (hb : -4194304 ≤ b ∧ b ≤ 4194304) (hm : -4194304 ≤ m ∧ m ≤ 4194304) : Calls Try.prog 58 #[.int .i64 a, .int .i64 n, .int .i64 b, .int .i64 m] w fun e w' => e = .returned (.int .i64 (gapI a n b m)) ∧ w' = w :=
  (gap_any a n b m w ha hn hb hm).mono fun _ _ ⟨h1, h2⟩ => ⟨h1, h2.symm⟩
def RetNr (x : Int) (w : World) (e : Ending) (w' : World) : Prop := e = .returned (.int .i64 x) ∧ Below w.heap.size w w'
theorem near_no {T : List Nd} {nb : Nat} {bx : Nat → Nat → Int} {at' key : Int} (h : (checkT T).1 ≠ 0 ∨ nb ≠ T.length ∨ at' < 0 ∨ (nb : Int) ≤ at') : nearR T nb bx at' key = -1 := by unfold nearR; rw [if_pos h]
theorem near_empty {T : List Nd} {nb : Nat} {bx : Nat → Nat → Int} {at' key : Int} (h : okR4 (seenR bx at'.toNat) = false) : nearR T nb bx at' key = -1 := by
  unfold nearR
  by_cases h' : (checkT T).1 ≠ 0 ∨ nb ≠ T.length ∨ at' < 0 ∨ (nb : Int) ≤ at'
  · rw [if_pos h']
  · rw [if_neg h', if_pos h]
theorem near_fold {T : List Nd} {nb : Nat} {bx : Nat → Nat → Int} {at' key : Int} (h : ¬ ((checkT T).1 ≠ 0 ∨ nb ≠ T.length ∨ at' < 0 ∨ (nb : Int) ≤ at')) (h2 : okR4 (seenR bx at'.toNat) = true) : nearR T nb bx at' key = ((fosL T).foldl (nearStep bx (seenR bx at'.toNat) key at') (-1, 0)).1 := by
  unfold nearR
  rw [if_neg h, if_neg (by rw [h2]; decide)]
theorem fos_get {T : List Nd} {j : Nat} (hj : j < (fosL T).length) : ∃ q : Nat, (fosL T).getD j 0 = (q : Int) ∧ q < T.length := by
  have hm : (fosL T).getD j 0 ∈ fosL T := by
    rw [List.getD_eq_getElem?_getD, List.getElem?_eq_getElem hj]; exact List.getElem_mem hj
  have hm2 : (fosL T).getD j 0 ∈ ordL T := by
    have := hm
    unfold fosL at this ⊢
    exact (List.mem_filter.1 this).1
  obtain ⟨i, hi, e⟩ := List.getElem_of_mem hm2
  obtain ⟨q, hq, hqN, _⟩ := ordL_get hi
  rw [List.getD_eq_getElem?_getD, List.getElem?_eq_getElem hi, Option.getD_some, e] at hq
  exact ⟨q, hq, hqN⟩
theorem fos_4096 (T : List Nd) : (fosL T).length ≤ 4096 := by
  have := List.length_filter_le (fun n => canT T n) (ordL T)
  have := stepO_len T
  unfold fosL
  omega
theorem step_skip {bx : Nat → Nat → Int} {f : R4} {key at' : Int} {st : Int × Int} {q : Nat} (h : (q : Int) = at' ∨ okR4 (seenR bx q) = false) : nearStep bx f key at' st q = st := by
  unfold nearStep
  rw [Int.toNat_natCast, if_pos h]
theorem step_not {bx : Nat → Nat → Int} {f : R4} {key at' : Int} {st : Int × Int} {q : Nat} (h : ¬ ((q : Int) = at' ∨ okR4 (seenR bx q) = false)) (h2 : ¬ (liesB f (seenR bx q) key = true ∧ (st.1 < 0 ∨ farI f (seenR bx q) key < st.2))) : nearStep bx f key at' st q = st := by
  unfold nearStep
  rw [Int.toNat_natCast, if_neg h, if_neg h2]
theorem step_take {bx : Nat → Nat → Int} {f : R4} {key at' : Int} {st : Int × Int} {q : Nat} (h : ¬ ((q : Int) = at' ∨ okR4 (seenR bx q) = false)) (h2 : liesB f (seenR bx q) key = true ∧ (st.1 < 0 ∨ farI f (seenR bx q) key < st.2)) : nearStep bx f key at' st q = ((q : Int), farI f (seenR bx q) key) := by
  unfold nearStep
  rw [Int.toNat_natCast, if_neg h, if_pos h2]
set_option maxRecDepth 100000 in
set_option maxHeartbeats 64000000 in
theorem focus_Near_any (p pb : Option Addr) (c cb nb : Nat) (T : List Nd) (bx : Nat → Nat → Int) (i key : Int) (w : World) (hT : TreeAt w (.slice p T.length c) T) (hB : BoxAt w pb nb bx) (hl : nb ≤ 9223372036854775807) (hC : ClipOk nb bx) : Calls Try.prog 27 #[.agg #[.slice p T.length c], .slice pb nb cb, .int .i64 i, .int .i32 key] w (RetNr (nearR T nb bx i key) w) := by
  have HT := Lib.hid hT
  have HB := Lib.hid hB
  have HCL := Lib.hid hC
  have hlT := hT.len
  have HP := Lib.hid (fun (x : Int) w' (e : nearR T nb bx i key = x) (hb : Below w.heap.size w w') => show RetNr (nearR T nb bx i key) w (.returned (.int .i64 x)) w' by rw [← e]; exact ⟨rfl, hb⟩)
  have HNO := Lib.hid (fun h => near_no (T := T) (nb := nb) (bx := bx) (at' := i) (key := key) h)
  have HEM := Lib.hid (fun h => near_empty (T := T) (nb := nb) (bx := bx) (at' := i) (key := key) h)
  have HFO := Lib.hid (fun h h2 => near_fold (T := T) (nb := nb) (bx := bx) (at' := i) (key := key) h h2)
  have hmf : ∀ (fn : Fn) (first cap : Array Value) (w : World), (Instr.makeFunc fn first cap).run Try.prog w = .ok (.func fn first cap) w := fun _ _ _ _ => rfl
  have hent : ∀ (args : Array Value) (w : World), (callFunc 57 args).run Try.prog w = .ok (.enter 57 args) w := fun _ _ => rfl
  clear hT hB hC
  generalize hNR : nearR T nb bx i key = NR at *
  generalize RetNr NR w = post at *
  clear hNR
  go_enter Try.func27, Try.ntmps27
  go_wp2_with fail
  obtain ⟨W1, hW1⟩ : ∃ W1, W1 = (w.alloc (.cells #[.slice p T.length c] 24)).alloc (.cells #[.slice pb nb cb] 70) := ⟨_, rfl⟩
  have C1 := Lib.hid (show Below w.heap.size w W1 by rw [hW1]; exact below_al (below_al (Below.refl _ _) _) _)
  have a1 := Lib.hid (show W1.heap[w.heap.size]? = some (.cells #[.slice p T.length c] 24 (0, 0)) by rw [hW1]; exact (heap_alloc_old _ _ (by simp)).trans (heap_alloc_new _ _))
  have b1 := Lib.hid (show W1.heap[w.heap.size + 1]? = some (.cells #[.slice pb nb cb] 70 (0, 0)) by
    rw [hW1]
    have := heap_alloc_new (w.alloc (.cells #[.slice p T.length c] 24)) (.cells #[.slice pb nb cb] 70)
    rwa [World.size_alloc] at this)
  rw [← hW1]
  clear hW1
  have HT1 := Lib.hid (HT.out.later C1.out)
  have HB1 := Lib.hid (HB.out.later C1.out (Nat.le_refl _))
  have HF := Lib.hid (fun w' (h : Below W1.heap.size W1 w') => show (w'.cell? ⟨w.heap.size, 0, none⟩ = some (.slice p T.length c) ∧ w'.cell? ⟨w.heap.size + 1, 0, none⟩ = some (.slice pb nb cb)) ∧ w.heap.size < w'.heap.size ∧ w.heap.size + 1 < w'.heap.size from by
    have := lt_of_block a1.out
    have := lt_of_block b1.out
    have := h.size
    exact ⟨⟨cell_of_one ((h.block _ (lt_of_block a1.out)).trans a1.out), cell_of_one ((h.block _ (lt_of_block b1.out)).trans b1.out)⟩, by omega, by omega⟩)
  have HSE := Lib.hid (fun w' (h : Below W1.heap.size W1 w') (n : Nat) (hn : n < nb) => seen_any (w.heap.size + 1) pb nb cb bx n w' ((h.block _ (lt_of_block b1.out)).trans b1.out) (HB1.out.later h (Nat.le_refl _)) hn hl HCL.out)
  clear HT HB HB1
  refine (tree_Check_any p c T W1 HT1.out).mono ?_
  obtain ⟨cc, hcc⟩ : ∃ cc, cc = (checkT T).1 := ⟨_, rfl⟩
  have HCC := Lib.hid hcc
  rw [← hcc]
  generalize (checkT T).2 = c2 at *
  rintro e w2 ⟨rfl, hb⟩
  have D2 := Lib.hid hb
  obtain ⟨⟨x0, x1⟩, s0, s1⟩ := HF.out w2 hb
  clear hb hcc
  rcases (show cc ≠ 0 ∨ (cc = 0 ∧ nb ≠ T.length) ∨ (cc = 0 ∧ nb = T.length ∧ i < 0) ∨ (cc = 0 ∧ nb = T.length ∧ 0 ≤ i ∧ (nb : Int) ≤ i) ∨ (cc = 0 ∧ nb = T.length ∧ 0 ≤ i ∧ i < (nb : Int)) by omega) with h | ⟨h, h2⟩ | ⟨h, h2, h3⟩ | ⟨h, h2, h3, h4⟩ | ⟨h, h2, h3, h4⟩
  · have HE := Lib.hid (HP.out (-1) w2 (HNO.out (.inl (by rw [← HCC.out]; exact h))) (below_via D2.out C1.out))
    have k1 : (cc != 0) = true := by rw [bne_iff_ne]; exact h
    clear h
    go_wp2
    exact HE.out
  · have HE := Lib.hid (HP.out (-1) w2 (HNO.out (.inr (.inl h2))) (below_via D2.out C1.out))
    have k1 : (cc != 0) = false := by rw [h]; rfl
    have k2 : ((nb : Int) != (T.length : Int)) = true := by rw [bne_iff_ne]; omega
    clear h h2
    go_wp2
    exact HE.out
  · have HE := Lib.hid (HP.out (-1) w2 (HNO.out (.inr (.inr (.inl h3)))) (below_via D2.out C1.out))
    have k1 : (cc != 0) = false := by rw [h]; rfl
    have k2 : ((nb : Int) != (T.length : Int)) = false := by rw [h2]; simp
    clear h h2
    go_wp2
    exact HE.out
  · have HE := Lib.hid (HP.out (-1) w2 (HNO.out (.inr (.inr (.inr h4)))) (below_via D2.out C1.out))
    have k1 : (cc != 0) = false := by rw [h]; rfl
    have k2 : ((nb : Int) != (T.length : Int)) = false := by rw [h2]; simp
    clear h h2
    go_wp2
    exact HE.out
  · obtain ⟨n0, rfl⟩ := Int.eq_ofNat_of_zero_le h3
    have hn0 : n0 < nb := by omega
    have k1 : (cc != 0) = false := by rw [h]; rfl
    have k2 : ((nb : Int) != (T.length : Int)) = false := by rw [h2]; simp
    have HNN := Lib.hid (show ¬ ((checkT T).1 ≠ 0 ∨ nb ≠ T.length ∨ ((n0 : Nat) : Int) < 0 ∨ (nb : Int) ≤ ((n0 : Nat) : Int)) by rw [← HCC.out]; omega)
    have HNB := Lib.hid h2
    clear h h2 HNO
    go_wp2_with fail
    refine (HSE.out w2 D2.out n0 hn0).mono ?_
    have HIF := Lib.hid (selfR_in (clipR bx n0))
    obtain ⟨f, hf⟩ : ∃ f, f = seenR bx n0 := ⟨_, rfl⟩
    have HFR := Lib.hid hf
    rw [show selfR (clipR bx n0) = f from hf.symm] at HIF
    rw [← hf]
    rintro e w3 ⟨rfl, hb⟩
    have D3 := Lib.hid (below_via hb D2.out)
    clear hb x0 x1 s0 s1 hf
    go_wp2_with fail
    obtain ⟨w4, hw4⟩ : ∃ w4, w4 = w3.alloc (.cells #[.int .i64 f.x, .int .i64 f.y, .int .i64 f.w, .int .i64 f.h] 77) := ⟨_, rfl⟩
    have C4 : Below w3.heap.size w3 w4 := by rw [hw4]; exact below_al (Below.refl _ _) _
    have k4 : w4.heap[w3.heap.size]? = some (.cells #[.int .i64 f.x, .int .i64 f.y, .int .i64 f.w, .int .i64 f.h] 77 (0, 0)) := by rw [hw4]; exact heap_alloc_new _ _
    rw [← hw4]
    obtain ⟨gf, hgf⟩ : ∃ gf, gf = w3.heap.size := ⟨_, rfl⟩
    rw [← hgf] at k4 ⊢
    have HK4 := Lib.hid k4
    have D4 := Lib.hid (below_via C4 D3.out)
    have hfx := HIF.out.x
    have hfy := HIF.out.y
    have hfw := HIF.out.w
    have hfh := HIF.out.h
    clear hw4 C4 k4 hgf
    refine (rect_Empty_any f.x f.y f.w f.h w4 (by omega) (by omega) (by omega) (by omega)).mono ?_
    rintro e w5 ⟨rfl, hb⟩
    have D5 := Lib.hid (below_via hb D4.out)
    have HK5 := Lib.hid ((hb.block _ (lt_of_block HK4.out)).trans HK4.out)
    clear hb HK4
    cases hok : okB f.x f.y f.w f.h with
    | false =>
      have HE := Lib.hid (HP.out (-1) w5 (HEM.out (by rw [Int.toNat_natCast, ← HFR.out]; exact hok)) (below_via D5.out C1.out))
      clear hok
      go_wp2
      exact HE.out
    | true =>
      have HFD := Lib.hid (HFO.out HNN.out (by rw [Int.toNat_natCast, ← HFR.out]; exact hok))
      rw [Int.toNat_natCast, ← HFR.out] at HFD
      obtain ⟨⟨x0, x1⟩, s0, s1⟩ := HF.out w5 D5.out
      clear hok HEM HFO HNN
      go_wp2_with fail
      refine (focus_Order_any p c T w5 (HT1.out.later D5.out)).mono ?_
      have hlL := fos_4096 T
      have HFG := Lib.hid (fun j (hj : j < (fosL T).length) => fos_get hj)
      obtain ⟨L, hL⟩ : ∃ L, L = fosL T := ⟨_, rfl⟩
      rw [← hL] at hlL HFD HFG ⊢
      clear hL
      rintro e w6 ⟨v, rfl, own, hb⟩
      have D6 := Lib.hid (below_via hb D5.out)
      have HK6 := Lib.hid ((hb.block _ (lt_of_block HK5.out)).trans HK5.out)
      have HV := Lib.hid (row_ints own)
      obtain ⟨pv, cv, rfl, hv1, hv2, _, hvc⟩ := HV.out
      have HVC := Lib.hid hvc
      clear hb own hvc HK5 x0 x1 s0 s1 HV
      go_wp2
      go_loopw [56, 13, 14] (fun iv bv lv wr => ∃ (j : Nat) (b l : Int), iv = .int .i64 j ∧ bv = .int .i64 b ∧ lv = .int .i64 l ∧ j ≤ L.length ∧ RowKit.Hid (NR = ((L.drop j).foldl (nearStep bx f key n0) (b, l)).1) ∧ -1 ≤ b ∧ b ≤ 9223372036854775807 ∧ 0 ≤ l ∧ l ≤ 33554432 ∧ RowKit.Hid (Below w6.heap.size w6 wr)) (fun iv _ _ _ => L.length - (intOf iv).toNat)
      case atStart => exact ⟨0, -1, 0, rfl, rfl, rfl, by omega, HFD, by omega, by omega, by omega, by omega, Lib.hid (Below.refl _ _)⟩
      case round =>
        obtain ⟨j, b, l, rfl, rfl, rfl, hj, HRS, hb0, hb1, hl0, hl1, BR⟩ := hrel
        by_cases hlt : j < L.length
        · have hji : (j : Int) < (L.length : Int) := by omega
          obtain ⟨bv, ov, rfl, hbv, hvc⟩ := HVC.out (by omega)
          have cj := hvc j hlt
          rw [← (bcell BR.out).1 _ _ hbv] at cj
          have hbvw : bv < wr.heap.size := by have := BR.out.size; omega
          obtain ⟨q, hq, hqN⟩ := HFG.out j hlt
          rw [hq] at cj
          have hqn : q < nb := by have := HNB.out; omega
          have hdr : L.drop j = (q : Int) :: L.drop (j + 1) := by
            rw [List.drop_eq_getElem_cons hlt]
            congr 1
            rw [← hq, List.getD_eq_getElem?_getD, List.getElem?_eq_getElem hlt]; rfl
          have HRS2 := Lib.hid (show NR = ((L.drop (j + 1)).foldl (nearStep bx f key n0) (nearStep bx f key n0 (b, l) q)).1 by rw [HRS.out, hdr, List.foldl_cons])
          have DR := Lib.hid (below_via BR.out D6.out)
          clear hvc hq hdr HRS
          go_wp2_with fail
          refine (HSE.out wr DR.out q hqn).mono ?_
          have HIT := Lib.hid (selfR_in (clipR bx q))
          obtain ⟨t, ht⟩ : ∃ t, t = seenR bx q := ⟨_, rfl⟩
          have HTR := Lib.hid ht
          rw [show selfR (clipR bx q) = t from ht.symm] at HIT
          rw [← ht]
          rintro e w7 ⟨rfl, hb⟩
          have R7 := Lib.hid (below_via hb BR.out)
          clear hb ht cj hbvw
          obtain ⟨gt, hgt⟩ : ∃ gt, gt = w7.heap.size := ⟨_, rfl⟩
          obtain ⟨w8, hw8⟩ : ∃ w8, w8 = w7.alloc (.cells #[.int .i64 t.x, .int .i64 t.y, .int .i64 t.w, .int .i64 t.h] 77) := ⟨_, rfl⟩
          have C8 : Below w7.heap.size w7 w8 := by rw [hw8]; exact below_al (Below.refl _ _) _
          have R8 := Lib.hid (below_via C8 R7.out)
          have HG8 := Lib.hid (show w8.heap[gt]? = some (.cells #[.int .i64 t.x, .int .i64 t.y, .int .i64 t.w, .int .i64 t.h] 77 (0, 0)) by rw [hw8, hgt]; exact heap_alloc_new _ _)
          have htx := HIT.out.x
          have hty := HIT.out.y
          have htw := HIT.out.w
          have hth := HIT.out.h
          have HW8 := Lib.hid hw8
          have HGT := Lib.hid hgt
          clear C8 hw8 hgt
          by_cases hqa : (q : Int) = (n0 : Int)
          · have HST := Lib.hid (show nearStep bx f key n0 (b, l) q = (b, l) from step_skip (.inl hqa))
            rw [HST.out] at HRS2
            have k3 : ((q : Int) == (n0 : Int)) = true := by rw [beq_iff_eq]; exact hqa
            clear hqa HST
            go_wp2
            rw [← HW8.out]
            go_roundw
            case rel => exact ⟨j + 1, b, l, by go_num, rfl, rfl, by omega, HRS2, hb0, hb1, hl0, hl1, R8⟩
            case measure => simp [intOf]; omega
          · have k3 : ((q : Int) == (n0 : Int)) = false := beq_eq_false_iff_ne.2 hqa
            have HQA := Lib.hid hqa
            clear hqa
            go_wp2_with fail
            rw [← HW8.out, ← HGT.out]
            refine (rect_Empty_any t.x t.y t.w t.h w8 (by omega) (by omega) (by omega) (by omega)).mono ?_
            rintro e w9 ⟨rfl, hb⟩
            have R9 := Lib.hid (below_via hb R8.out)
            have HG9 := Lib.hid ((hb.block _ (lt_of_block HG8.out)).trans HG8.out)
            clear hb R8 HG8
            cases hok : okB t.x t.y t.w t.h with
            | false =>
              have HST := Lib.hid (show nearStep bx f key n0 (b, l) q = (b, l) from step_skip (.inr (by rw [← HTR.out]; exact hok)))
              rw [HST.out] at HRS2
              clear hok HST
              go_wp2
              go_roundw
              case rel => exact ⟨j + 1, b, l, by go_num, rfl, rfl, by omega, HRS2, hb0, hb1, hl0, hl1, R9⟩
              case measure => simp [intOf]; omega
            | true =>
              have HNQ := Lib.hid (show ¬ ((q : Int) = (n0 : Int) ∨ okR4 (seenR bx q) = false) from fun h => h.elim HQA.out (fun h => by rw [← HTR.out] at h; have h' : okB t.x t.y t.w t.h = false := h; rw [hok] at h'; cases h'))
              have HG := HG9
              have HF9 := Lib.hid ((R9.out.block _ (lt_of_block HK6.out)).trans HK6.out)
              clear hok HQA HG9
              have f0 : w9.cell? ⟨gf, 0, none⟩ = some (.int .i64 f.x) := by rw [cell_of_row _ _ _ _ _ _ HF9.out]; rfl
              have f1 : w9.cell? ⟨gf, 1, none⟩ = some (.int .i64 f.y) := by rw [cell_of_row _ _ _ _ _ _ HF9.out]; rfl
              have f2 : w9.cell? ⟨gf, 2, none⟩ = some (.int .i64 f.w) := by rw [cell_of_row _ _ _ _ _ _ HF9.out]; rfl
              have f3 : w9.cell? ⟨gf, 3, none⟩ = some (.int .i64 f.h) := by rw [cell_of_row _ _ _ _ _ _ HF9.out]; rfl
              have t0 : w9.cell? ⟨gt, 0, none⟩ = some (.int .i64 t.x) := by rw [cell_of_row _ _ _ _ _ _ HG.out]; rfl
              have t1 : w9.cell? ⟨gt, 1, none⟩ = some (.int .i64 t.y) := by rw [cell_of_row _ _ _ _ _ _ HG.out]; rfl
              have t2 : w9.cell? ⟨gt, 2, none⟩ = some (.int .i64 t.w) := by rw [cell_of_row _ _ _ _ _ _ HG.out]; rfl
              have t3 : w9.cell? ⟨gt, 3, none⟩ = some (.int .i64 t.h) := by rw [cell_of_row _ _ _ _ _ _ HG.out]; rfl
              have zf := lt_of_block HF9.out
              have zg := lt_of_block HG.out
              go_upto_region 14 with (fail)
              go_quiet ((go_at_call 58; exact Calls.quiet_of_same (gap_q _ _ _ _ _ (by omega) (by omega) (by omega) (by omega))))
              rename_i nq
              generalize hq10 : w9.drewN nq = w10
              have R10 := Lib.hid (show Below w6.heap.size w6 w10 by rw [← hq10]; exact below_drewNf R9.out nq)
              have HG10 := Lib.hid (show w10.heap[gt]? = some (.cells #[.int .i64 t.x, .int .i64 t.y, .int .i64 t.w, .int .i64 t.h] 77 (0, 0)) by rw [← hq10]; exact HG.out)
              have HF10 := Lib.hid (show w10.heap[gf]? = some (.cells #[.int .i64 f.x, .int .i64 f.y, .int .i64 f.w, .int .i64 f.h] 77 (0, 0)) by rw [← hq10]; exact HF9.out)
              have hbd := gapI_bd HIF.out HIT.out
              have HF6 := Lib.hid (fun K (h : K = 6 ∨ K = 5) => show farI f t K = gapI f.y f.h t.y t.h + 2 * gapI f.x f.w t.x t.w by unfold farI; rw [if_pos h])
              have HF7 := Lib.hid (fun K (h : ¬ (K = 6 ∨ K = 5)) => show farI f t K = gapI f.x f.w t.x t.w + 2 * gapI f.y f.h t.y t.h by unfold farI; rw [if_neg h])
              generalize gapI f.x f.w t.x t.w = gx at *
              generalize gapI f.y f.h t.y t.h = gy at *
              obtain ⟨⟨hgx0, hgx1⟩, hgy0, hgy1⟩ := hbd
              clear hq10 f0 f1 f2 f3 t0 t1 t2 t3 zf zg R9 HG HF9
              have f0 : w10.cell? ⟨gf, 0, none⟩ = some (.int .i64 f.x) := by rw [cell_of_row _ _ _ _ _ _ HF10.out]; rfl
              have f1 : w10.cell? ⟨gf, 1, none⟩ = some (.int .i64 f.y) := by rw [cell_of_row _ _ _ _ _ _ HF10.out]; rfl
              have f2 : w10.cell? ⟨gf, 2, none⟩ = some (.int .i64 f.w) := by rw [cell_of_row _ _ _ _ _ _ HF10.out]; rfl
              have f3 : w10.cell? ⟨gf, 3, none⟩ = some (.int .i64 f.h) := by rw [cell_of_row _ _ _ _ _ _ HF10.out]; rfl
              have t0 : w10.cell? ⟨gt, 0, none⟩ = some (.int .i64 t.x) := by rw [cell_of_row _ _ _ _ _ _ HG10.out]; rfl
              have t1 : w10.cell? ⟨gt, 1, none⟩ = some (.int .i64 t.y) := by rw [cell_of_row _ _ _ _ _ _ HG10.out]; rfl
              have t2 : w10.cell? ⟨gt, 2, none⟩ = some (.int .i64 t.w) := by rw [cell_of_row _ _ _ _ _ _ HG10.out]; rfl
              have t3 : w10.cell? ⟨gt, 3, none⟩ = some (.int .i64 t.h) := by rw [cell_of_row _ _ _ _ _ _ HG10.out]; rfl
              have zf := lt_of_block HF10.out
              have zg := lt_of_block HG10.out
              have HTK := Lib.hid (fun K (F : Int) (hF : farI f t K = F) (h1 : liesB f t K = true) (h2 : b < 0 ∨ F < l) => show nearStep bx f K n0 (b, l) q = ((q : Int), F) by
                have h3 : liesB f (seenR bx q) K = true ∧ ((b, l).1 < 0 ∨ farI f (seenR bx q) K < (b, l).2) := by rw [← HTR.out, hF]; exact ⟨h1, h2⟩
                rw [step_take HNQ.out h3, ← HTR.out, hF])
              have HSK := Lib.hid (fun K (F : Int) (hF : farI f t K = F) (h2 : liesB f t K = false ∨ (¬ b < 0 ∧ ¬ F < l)) => show nearStep bx f K n0 (b, l) q = (b, l) by
                refine step_not HNQ.out (fun h => ?_)
                rw [← HTR.out, hF] at h
                rcases h2 with h2 | h2
                · rw [h2] at h; cases h.1
                · exact h.2.elim h2.1 h2.2)
              rcases (show key = 7 ∨ key = 8 ∨ key = 6 ∨ key = 5 ∨ (key ≠ 7 ∧ key ≠ 8 ∧ key ≠ 6 ∧ key ≠ 5) by omega) with rfl | rfl | rfl | rfl | ⟨e7, e8, e6, e5⟩
              · have HFA := Lib.hid (HF7.out 7 (by decide))
                by_cases hl : f.x + f.w ≤ t.x
                · have HLI := Lib.hid (show liesB f t 7 = true by unfold liesB; simp; omega)
                  rcases (show b < 0 ∨ (0 ≤ b ∧ gx + 2 * gy < l) ∨ (0 ≤ b ∧ l ≤ gx + 2 * gy) by omega) with hb | ⟨hb, hf⟩ | ⟨hb, hf⟩
                  · have HST := Lib.hid (HTK.out (7) (gx + 2 * gy) HFA.out HLI.out (.inl hb))
                    rw [HST.out] at HRS2
                    clear HST HTK HSK HFA HLI HF6 HF7
                    go_wp2
                    go_roundw
                    case rel => exact ⟨j + 1, q, gx + 2 * gy, by go_num, rfl, rfl, by omega, HRS2, by omega, by omega, by omega, by omega, R10⟩
                    case measure => simp [intOf]; omega
                  · have HST := Lib.hid (HTK.out (7) (gx + 2 * gy) HFA.out HLI.out (.inr hf))
                    rw [HST.out] at HRS2
                    clear HST HTK HSK HFA HLI HF6 HF7
                    go_wp2
                    go_roundw
                    case rel => exact ⟨j + 1, q, gx + 2 * gy, by go_num, rfl, rfl, by omega, HRS2, by omega, by omega, by omega, by omega, R10⟩
                    case measure => simp [intOf]; omega
                  · have HST := Lib.hid (HSK.out (7) (gx + 2 * gy) HFA.out (.inr ⟨by omega, by omega⟩))
                    rw [HST.out] at HRS2
                    clear HST HTK HSK HFA HLI HF6 HF7
                    go_wp2
                    go_roundw
                    case rel => exact ⟨j + 1, b, l, by go_num, rfl, rfl, by omega, HRS2, hb0, hb1, hl0, hl1, R10⟩
                    case measure => simp [intOf]; omega
                · have HLI := Lib.hid (show liesB f t 7 = false by unfold liesB; simp; omega)
                  have HST := Lib.hid (HSK.out (7) (gx + 2 * gy) HFA.out (.inl HLI.out))
                  rw [HST.out] at HRS2
                  clear HST HTK HSK HFA HLI HF6 HF7
                  go_wp2
                  go_roundw
                  case rel => exact ⟨j + 1, b, l, by go_num, rfl, rfl, by omega, HRS2, hb0, hb1, hl0, hl1, R10⟩
                  case measure => simp [intOf]; omega
              · have HFA := Lib.hid (HF7.out 8 (by decide))
                by_cases hl : t.x + t.w ≤ f.x
                · have HLI := Lib.hid (show liesB f t 8 = true by unfold liesB; simp; omega)
                  rcases (show b < 0 ∨ (0 ≤ b ∧ gx + 2 * gy < l) ∨ (0 ≤ b ∧ l ≤ gx + 2 * gy) by omega) with hb | ⟨hb, hf⟩ | ⟨hb, hf⟩
                  · have HST := Lib.hid (HTK.out (8) (gx + 2 * gy) HFA.out HLI.out (.inl hb))
                    rw [HST.out] at HRS2
                    clear HST HTK HSK HFA HLI HF6 HF7
                    go_wp2
                    go_roundw
                    case rel => exact ⟨j + 1, q, gx + 2 * gy, by go_num, rfl, rfl, by omega, HRS2, by omega, by omega, by omega, by omega, R10⟩
                    case measure => simp [intOf]; omega
                  · have HST := Lib.hid (HTK.out (8) (gx + 2 * gy) HFA.out HLI.out (.inr hf))
                    rw [HST.out] at HRS2
                    clear HST HTK HSK HFA HLI HF6 HF7
                    go_wp2
                    go_roundw
                    case rel => exact ⟨j + 1, q, gx + 2 * gy, by go_num, rfl, rfl, by omega, HRS2, by omega, by omega, by omega, by omega, R10⟩
                    case measure => simp [intOf]; omega
                  · have HST := Lib.hid (HSK.out (8) (gx + 2 * gy) HFA.out (.inr ⟨by omega, by omega⟩))
                    rw [HST.out] at HRS2
                    clear HST HTK HSK HFA HLI HF6 HF7
                    go_wp2
                    go_roundw
                    case rel => exact ⟨j + 1, b, l, by go_num, rfl, rfl, by omega, HRS2, hb0, hb1, hl0, hl1, R10⟩
                    case measure => simp [intOf]; omega
                · have HLI := Lib.hid (show liesB f t 8 = false by unfold liesB; simp; omega)
                  have HST := Lib.hid (HSK.out (8) (gx + 2 * gy) HFA.out (.inl HLI.out))
                  rw [HST.out] at HRS2
                  clear HST HTK HSK HFA HLI HF6 HF7
                  go_wp2
                  go_roundw
                  case rel => exact ⟨j + 1, b, l, by go_num, rfl, rfl, by omega, HRS2, hb0, hb1, hl0, hl1, R10⟩
                  case measure => simp [intOf]; omega
              · have HFA := Lib.hid (HF6.out 6 (by decide))
                by_cases hl : f.y + f.h ≤ t.y
                · have HLI := Lib.hid (show liesB f t 6 = true by unfold liesB; simp; omega)
                  rcases (show b < 0 ∨ (0 ≤ b ∧ gy + 2 * gx < l) ∨ (0 ≤ b ∧ l ≤ gy + 2 * gx) by omega) with hb | ⟨hb, hf⟩ | ⟨hb, hf⟩
                  · have HST := Lib.hid (HTK.out (6) (gy + 2 * gx) HFA.out HLI.out (.inl hb))
                    rw [HST.out] at HRS2
                    clear HST HTK HSK HFA HLI HF6 HF7
                    go_wp2
                    go_roundw
                    case rel => exact ⟨j + 1, q, gy + 2 * gx, by go_num, rfl, rfl, by omega, HRS2, by omega, by omega, by omega, by omega, R10⟩
                    case measure => simp [intOf]; omega
                  · have HST := Lib.hid (HTK.out (6) (gy + 2 * gx) HFA.out HLI.out (.inr hf))
                    rw [HST.out] at HRS2
                    clear HST HTK HSK HFA HLI HF6 HF7
                    go_wp2
                    go_roundw
                    case rel => exact ⟨j + 1, q, gy + 2 * gx, by go_num, rfl, rfl, by omega, HRS2, by omega, by omega, by omega, by omega, R10⟩
                    case measure => simp [intOf]; omega
                  · have HST := Lib.hid (HSK.out (6) (gy + 2 * gx) HFA.out (.inr ⟨by omega, by omega⟩))
                    rw [HST.out] at HRS2
                    clear HST HTK HSK HFA HLI HF6 HF7
                    go_wp2
                    go_roundw
                    case rel => exact ⟨j + 1, b, l, by go_num, rfl, rfl, by omega, HRS2, hb0, hb1, hl0, hl1, R10⟩
                    case measure => simp [intOf]; omega
                · have HLI := Lib.hid (show liesB f t 6 = false by unfold liesB; simp; omega)
                  have HST := Lib.hid (HSK.out (6) (gy + 2 * gx) HFA.out (.inl HLI.out))
                  rw [HST.out] at HRS2
                  clear HST HTK HSK HFA HLI HF6 HF7
                  go_wp2
                  go_roundw
                  case rel => exact ⟨j + 1, b, l, by go_num, rfl, rfl, by omega, HRS2, hb0, hb1, hl0, hl1, R10⟩
                  case measure => simp [intOf]; omega
              · have HFA := Lib.hid (HF6.out 5 (by decide))
                by_cases hl : t.y + t.h ≤ f.y
                · have HLI := Lib.hid (show liesB f t 5 = true by unfold liesB; simp; omega)
                  rcases (show b < 0 ∨ (0 ≤ b ∧ gy + 2 * gx < l) ∨ (0 ≤ b ∧ l ≤ gy + 2 * gx) by omega) with hb | ⟨hb, hf⟩ | ⟨hb, hf⟩
                  · have HST := Lib.hid (HTK.out (5) (gy + 2 * gx) HFA.out HLI.out (.inl hb))
                    rw [HST.out] at HRS2
                    clear HST HTK HSK HFA HLI HF6 HF7
                    go_wp2
                    go_roundw
                    case rel => exact ⟨j + 1, q, gy + 2 * gx, by go_num, rfl, rfl, by omega, HRS2, by omega, by omega, by omega, by omega, R10⟩
                    case measure => simp [intOf]; omega
                  · have HST := Lib.hid (HTK.out (5) (gy + 2 * gx) HFA.out HLI.out (.inr hf))
                    rw [HST.out] at HRS2
                    clear HST HTK HSK HFA HLI HF6 HF7
                    go_wp2
                    go_roundw
                    case rel => exact ⟨j + 1, q, gy + 2 * gx, by go_num, rfl, rfl, by omega, HRS2, by omega, by omega, by omega, by omega, R10⟩
                    case measure => simp [intOf]; omega
                  · have HST := Lib.hid (HSK.out (5) (gy + 2 * gx) HFA.out (.inr ⟨by omega, by omega⟩))
                    rw [HST.out] at HRS2
                    clear HST HTK HSK HFA HLI HF6 HF7
                    go_wp2
                    go_roundw
                    case rel => exact ⟨j + 1, b, l, by go_num, rfl, rfl, by omega, HRS2, hb0, hb1, hl0, hl1, R10⟩
                    case measure => simp [intOf]; omega
                · have HLI := Lib.hid (show liesB f t 5 = false by unfold liesB; simp; omega)
                  have HST := Lib.hid (HSK.out (5) (gy + 2 * gx) HFA.out (.inl HLI.out))
                  rw [HST.out] at HRS2
                  clear HST HTK HSK HFA HLI HF6 HF7
                  go_wp2
                  go_roundw
                  case rel => exact ⟨j + 1, b, l, by go_num, rfl, rfl, by omega, HRS2, hb0, hb1, hl0, hl1, R10⟩
                  case measure => simp [intOf]; omega
              · have HFA := Lib.hid (HF7.out key (by omega))
                have HLI := Lib.hid (show liesB f t key = false by unfold liesB; rw [if_neg e7, if_neg e8, if_neg e6, if_neg e5])
                have d7 : (key == 7) = false := beq_eq_false_iff_ne.2 e7
                have d8 : (key == 8) = false := beq_eq_false_iff_ne.2 e8
                have d6 : (key == 6) = false := beq_eq_false_iff_ne.2 e6
                have d5 : (key == 5) = false := beq_eq_false_iff_ne.2 e5
                clear e7 e8 e6 e5
                have HST := Lib.hid (HSK.out (key) (gx + 2 * gy) HFA.out (.inl HLI.out))
                rw [HST.out] at HRS2
                clear HST HTK HSK HFA HLI HF6 HF7
                go_wp2
                go_roundw
                case rel => exact ⟨j + 1, b, l, by go_num, rfl, rfl, by omega, HRS2, hb0, hb1, hl0, hl1, R10⟩
                case measure => simp [intOf]; omega
        · obtain rfl : j = L.length := by omega
          have HE := Lib.hid (HP.out b wr (by rw [HRS.out, List.drop_length]; rfl) (below_via (below_via BR.out D6.out) C1.out))
          clear HRS HFD
          go_wp2
          exact HE.out
end Go.Proofs.Ytihjefncjkdnpaa
