/- Layer 07: two pairs of regions at once, and the walk of RectScripts. -/
import Derived.Test.YtekcheccelllcaaRxZ
import Derived.Test.YtekcheccelllcaaRctW
import Derived.Test.YtekcheccelllcaaOpenT
import Derived.BigQuiet
import Derived.Deep.CutRange
namespace Go.Proofs.Ytekcheccelllcaa
open Go.RowKit
set_option linter.unusedVariables false
set_option linter.unusedSimpArgs false

/-- what begun gave: no pair, or one; S: its blocks; at most i calls since -/
def MP (base : Nat) (w : World) (pv : Value) (S : Nat → Prop) (i : Nat) : Prop :=
  (pv = .pointer none ∧ S = fun _ => False) ∨ ∃ pb s, pv = .pointer (some ⟨pb, 0, none⟩) ∧ S = SQ pb s ∧ PqAt base w pb s ∧ s.told.length ≤ i
section
variable {base i j : Nat} {w w' : World} {pv : Value} {S T : Nat → Prop}
theorem MP.form (h : MP base w pv S i) : pv = .pointer none ∨ ∃ q, pv = .pointer (some ⟨q, 0, none⟩) := by
  rcases h with ⟨rfl, _⟩ | ⟨pb, s, rfl, _⟩
  · exact .inl rfl
  · exact .inr ⟨pb, rfl⟩
theorem MP.lt (h : MP base w pv S i) : ∀ k, S k → k < w.heap.size ∧ base ≤ k := by
  rcases h with ⟨_, rfl⟩ | ⟨pb, s, _, rfl, hp, _⟩
  · exact fun k hk => hk.elim
  · exact hp.lt
theorem MP.other (h : MP base w pv S i) (c : Chg w w' T) (hd : ∀ k, S k → ¬ T k) : MP base w' pv S i := by
  rcases h with h | ⟨pb, s, e, rfl, hp, h⟩
  · exact .inl h
  · exact .inr ⟨pb, s, e, rfl, hp.other c hd, h⟩
theorem MP.more (h : MP base w pv S i) (hij : i ≤ j) : MP base w pv S j := by
  rcases h with h | ⟨pb, s, e, rfl, hp, h4⟩
  · exact .inl h
  · exact .inr ⟨pb, s, e, rfl, hp, by omega⟩
theorem MP.begun {e : Ending} (h : BegunQ w e w') : ∃ pv S, e = .returned (.tuple #[pv, .bool true]) ∧ MP w.heap.size w' pv S 0 ∧ Below w.heap.size w w' := by
  rcases h with ⟨rfl, hb⟩ | ⟨pb, s, rfl, hp, h2, hb⟩
  · exact ⟨_, _, rfl, .inl ⟨rfl, rfl⟩, hb⟩
  · exact ⟨_, _, rfl, .inr ⟨pb, s, rfl, rfl, hp, by rw [h2]; simp⟩, hb⟩
end
/-- two pairs, apart -/
structure Two (b1 b2 : Nat) (w0 : World) (pa pv : Value) (S1 S2 : Nat → Prop) (i j : Nat) (wr : World) : Prop where
  be : Below b1 w0 wr
  a : MP b1 wr pa S1 i
  b : MP b2 wr pv S2 j
  d : ∀ k, S1 k → ¬ S2 k
  z : b1 ≤ b2
  z2 : b2 ≤ wr.heap.size
section
variable {b1 b2 i j : Nat} {w0 wr w' : World} {pa pv : Value} {S1 S2 : Nat → Prop}
theorem Two.later (h : Two b1 b2 w0 pa pv S1 S2 i j wr) (hb : Below wr.heap.size wr w') : Two b1 b2 w0 pa pv S1 S2 i j w' :=
  ⟨h.be.trans (hb.mono (Nat.le_trans h.z h.z2)), h.a.other (Chg.of_below hb (fun _ => False)) (fun k _ hk => hk), h.b.other (Chg.of_below hb (fun _ => False)) (fun k _ hk => hk), h.d, h.z, Nat.le_trans h.z2 hb.size⟩
theorem Two.more {i' j' : Nat} (h : Two b1 b2 w0 pa pv S1 S2 i j wr) (hi : i ≤ i') (hj : j ≤ j') : Two b1 b2 w0 pa pv S1 S2 i' j' wr := ⟨h.be, h.a.more hi, h.b.more hj, h.d, h.z, h.z2⟩
/-- a call on the first one -/
theorem Two.step1 (h : Two b1 b2 w0 pa pv S1 S2 i j wr) (hn : pa ≠ .pointer none) (hi : i ≤ 3518437208881) (o : Int) (r : R4) (hs : isR r) : Calls Try.prog 43 #[pa, .agg #[.int .i64 o, .int .i64 r.x, .int .i64 r.y, .int .i64 r.w, .int .i64 r.h]] wr fun e w' => e = .returned (.bool true) ∧ ∃ S1', Two b1 b2 w0 pa pv S1' S2 (i + 1) j w' := by
  rcases h.a with ⟨e, _⟩ | ⟨pb, q, rfl, rfl, hp, h4⟩
  · exact absurd e hn
  · refine (qpair_step b1 wr pb q hp (by omega) (Nat.le_trans h.z h.z2) o r hs).mono ?_
    rintro e w1 ⟨rfl, q', hp', hc, hnew, e4⟩
    have hlt := h.b.lt
    refine ⟨rfl, SQ pb q', ⟨h.be.trans (hc.under (fun k hk => (hp.lt k hk).2) (Nat.le_trans h.z h.z2)), .inr ⟨pb, q', rfl, rfl, hp', by omega⟩, h.b.other hc (fun k hk h2 => h.d k h2 hk), fun k g1 g2 => ?_, h.z, Nat.le_trans h.z2 hc.size⟩⟩
    rcases hnew k g1 with h5 | h5
    · exact h.d k h5 g2
    · have := (hlt k g2).1; omega
/-- a call on the second one -/
theorem Two.step2 (h : Two b1 b2 w0 pa pv S1 S2 i j wr) (hn : pv ≠ .pointer none) (hj : j ≤ 3518437208881) (o : Int) (r : R4) (hs : isR r) : Calls Try.prog 43 #[pv, .agg #[.int .i64 o, .int .i64 r.x, .int .i64 r.y, .int .i64 r.w, .int .i64 r.h]] wr fun e w' => e = .returned (.bool true) ∧ ∃ S2', Two b1 b2 w0 pa pv S1 S2' i (j + 1) w' := by
  rcases h.b with ⟨e, _⟩ | ⟨pb, q, rfl, rfl, hp, h4⟩
  · exact absurd e hn
  · refine (qpair_step b2 wr pb q hp (by omega) h.z2 o r hs).mono ?_
    rintro e w1 ⟨rfl, q', hp', hc, hnew, e4⟩
    have hlt := h.a.lt
    refine ⟨rfl, SQ pb q', ⟨h.be.trans (hc.under (fun k hk => Nat.le_trans h.z (hp.lt k hk).2) (Nat.le_trans h.z h.z2)), h.a.other hc (fun k hk h2 => h.d k hk h2), .inr ⟨pb, q', rfl, rfl, hp', by omega⟩, fun k g1 g2 => ?_, h.z, Nat.le_trans h.z2 hc.size⟩⟩
    rcases hnew k g2 with h5 | h5
    · exact h.d k g1 h5
    · have := (hlt k g1).1; omega
theorem Two.whole1 (h : Two b1 b2 w0 pa pv S1 S2 i j wr) (hn : pa ≠ .pointer none) (hi : i ≤ 3518437208881) : Calls Try.prog 44 #[pa] wr fun e w' => e = .returned (.bool true) ∧ Below b1 w0 w' ∧ MP b2 w' pv S2 j ∧ b1 ≤ b2 ∧ b2 ≤ w'.heap.size := by
  rcases h.a with ⟨e, _⟩ | ⟨pb, q, rfl, rfl, hp, h4⟩
  · exact absurd e hn
  · refine (whole_any b1 wr pb q hp (by omega) (Nat.le_trans h.z h.z2)).mono ?_
    rintro e w1 ⟨rfl, hc⟩
    exact ⟨rfl, h.be.trans (hc.under (fun k hk => (hp.lt k hk).2) (Nat.le_trans h.z h.z2)), h.b.other hc (fun k hk h2 => h.d k h2 hk), h.z, Nat.le_trans h.z2 hc.size⟩
theorem MP.whole2 (hb : Below b1 w0 wr) (h : MP b2 wr pv S2 j) (z : b1 ≤ b2) (z2 : b2 ≤ wr.heap.size) (hn : pv ≠ .pointer none) (hj : j ≤ 3518437208881) : Calls Try.prog 44 #[pv] wr fun e w' => e = .returned (.bool true) ∧ Below b1 w0 w' := by
  rcases h with ⟨e, _⟩ | ⟨pb, q, rfl, rfl, hp, h4⟩
  · exact absurd e hn
  · refine (whole_any b2 wr pb q hp (by omega) z2).mono ?_
    rintro e w1 ⟨rfl, hc⟩
    exact ⟨rfl, hb.trans (hc.under (fun k hk => Nat.le_trans z (hp.lt k hk).2) (Nat.le_trans z z2))⟩
end
set_option maxRecDepth 100000 in
set_option maxHeartbeats 16000000 in
theorem RectScripts_walk (q1 q2 p1 p2 : Option Addr) (m1 m2 d1 d2 c1 c2 : Nat) (M1 M2 : List R4) (L1 L2 : List (Int × R4)) (w : World) (hM1 : M1.length = m1) (hM2 : M2.length = m2) (hm1 : m1 ≤ 4398046511103) (hm2 : m2 ≤ 4398046511103) (hq1 : SlAt w q1 M1) (hq2 : SlAt w q2 M2) (hr1 : ∀ r ∈ M1, isR r) (hr2 : ∀ r ∈ M2, isR r)
    (hs1 : StpAt w p1 L1) (hs2 : StpAt w p2 L2) (hok1 : ∀ s ∈ L1, isR s.2) (hok2 : ∀ s ∈ L2, isR s.2) (hl1 : L1.length ≤ 3518437208881) (hl2 : L2.length ≤ 3518437208881) : Calls Try.prog 12 #[.agg #[.slice q1 m1 d1, .slice p1 L1.length c1], .agg #[.slice q2 m2 d2, .slice p2 L2.length c2]] w fun e w' => e = .returned (.bool true) ∧ Below w.heap.size w w' := by
  have HOK1 := Lib.hid hok1
  have HOK2 := Lib.hid hok2
  have HR1 := Lib.hid hr1
  have HR2 := Lib.hid hr2
  have HM1 := Lib.hid hM1
  have HM2 := Lib.hid hM2
  obtain ⟨w1, hw1⟩ : ∃ x, x = (w.alloc (.cells #[.slice q1 m1 d1, .slice p1 L1.length c1] 60)).alloc (.cells #[.slice q2 m2 d2, .slice p2 L2.length c2] 60) := ⟨_, rfl⟩
  have B1 : Below w.heap.size w w1 := by rw [hw1]; exact below_al (below_al (Below.refl _ _) _) _
  have x1 : w1.heap[w.heap.size]? = some (.cells #[.slice q1 m1 d1, .slice p1 L1.length c1] 60 (0, 0)) := by rw [hw1]; exact (heap_alloc_old _ _ (by simp)).trans (heap_alloc_new _ _)
  have x2 : w1.heap[w.heap.size + 1]? = some (.cells #[.slice q2 m2 d2, .slice p2 L2.length c2] 60 (0, 0)) := by rw [hw1]; have := heap_alloc_new (w.alloc (.cells #[.slice q1 m1 d1, .slice p1 L1.length c1] 60)) (.cells #[.slice q2 m2 d2, .slice p2 L2.length c2] 60); rw [World.size_alloc] at this; exact this
  have HC := Lib.hid (show ∀ w', Below w1.heap.size w1 w' → (w.heap.size < w'.heap.size ∧ w.heap.size + 1 < w'.heap.size ∧ w'.cell? ⟨w.heap.size, 0, none⟩ = some (.slice q1 m1 d1) ∧ w'.cell? ⟨w.heap.size, 1, none⟩ = some (.slice p1 L1.length c1) ∧ w'.cell? ⟨w.heap.size + 1, 0, none⟩ = some (.slice q2 m2 d2) ∧ w'.cell? ⟨w.heap.size + 1, 1, none⟩ = some (.slice p2 L2.length c2)) from fun w' h => by
    have h1 := (h.block _ (lt_of_block x1)).trans x1
    have h2 := (h.block _ (lt_of_block x2)).trans x2
    refine ⟨lt_of_block h1, lt_of_block h2, ?_, ?_, ?_, ?_⟩ <;> first | (rw [cell_of_row _ _ _ _ _ _ h1]; rfl) | (rw [cell_of_row _ _ _ _ _ _ h2]; rfl))
  have HS1 := Lib.hid (hs1.later B1)
  have HS2 := Lib.hid (hs2.later B1)
  have HQ1 := Lib.hid (hq1.later B1)
  have HQ2 := Lib.hid (hq2.later B1)
  have HB1 := Lib.hid B1
  obtain ⟨z1, z2, k0, k1, l0, l1⟩ := HC.out w1 (Below.refl _ _)
  clear hok1 hok2 hs1 hs2 hq1 hq2 hr1 hr2 hM1 hM2 B1 x1 x2
  go_enter Try.func12, Try.ntmps12
  go_upto_region 1 with (fail)
  rw [← hw1]
  clear hw1
  go_wp2_with fail
  refine (begunq_any q1 m1 d1 M1 w1 HM1.out hm1 HQ1.out HR1.out).mono ?_
  intro e w2 hb
  obtain ⟨pa, S1, rfl, HA, hb2⟩ := MP.begun hb
  have HMA := Lib.hid HA
  have HB2 := Lib.hid hb2
  clear hb HA hb2 z1 z2 k0 k1 l0 l1
  obtain ⟨z1, z2, k0, k1, l0, l1⟩ := HC.out w2 HB2.out
  go_wp2_with fail
  refine (begunq_any q2 m2 d2 M2 w2 HM2.out hm2 (HQ2.out.later HB2.out) HR2.out).mono ?_
  intro e w3 hb
  obtain ⟨pv, S2, rfl, HA, hb2⟩ := MP.begun hb
  have HTW := Lib.hid (show Two w1.heap.size w2.heap.size w1 pa pv S1 S2 0 0 w3 from ⟨below_via hb2 HB2.out, HMA.out.other (Chg.of_below hb2 (fun _ => False)) (fun k _ hk => hk), HA, fun k h1 h2 => by have := (HMA.out.lt k h1).1; have := (HA.lt k h2).2; omega, HB2.out.size, hb2.size⟩)
  obtain ⟨b2, hb2'⟩ : ∃ b, b = w2.heap.size := ⟨_, rfl⟩
  rw [← hb2'] at HTW
  clear hb HA hb2 hb2' HMA HB2 z1 z2 k0 k1 l0 l1
  obtain ⟨z1, z2, k0, k1, l0, l1⟩ := HC.out w3 HTW.out.be
  go_upto_region 3 with (fail)
  go_quiet (fail)
  have HTX := Lib.hid (show Two w1.heap.size b2 w1 pa pv S1 S2 0 0 (w3.drewN nq) from HTW.out.later (below_drewN (Below.refl _ _) _))
  clear HTW z1 z2 k0 k1 l0 l1
  obtain ⟨w4, hw4⟩ : ∃ q : World, q = w3.drewN nq := ⟨_, rfl⟩
  rw [← hw4] at HTX ⊢
  clear hw4
  go_wp2
  go_loopw [11] (fun iv wr => ∃ (i : Nat) (S1 S2 : Nat → Prop), iv = .int .i64 i ∧ i ≤ 3518437208881 ∧ RowKit.Hid (Two w1.heap.size b2 w1 pa pv S1 S2 i i wr)) (fun iv _ => 3518437208881 - (intOf iv).toNat)
  case atStart => exact ⟨0, _, _, rfl, by omega, HTX⟩
  case round =>
    clear HTX
    obtain ⟨i, S1, S2, rfl, hi, HTW⟩ := hrel
    go_upto_region 7 with (fail)
    go_cut [43] (fun s wx => s = .bool (decide (i < L1.length) || decide (i < L2.length)) ∧ RowKit.Hid (Two w1.heap.size b2 w1 pa pv S1 S2 i i wx))
    case first =>
      by_cases h1 : i < L1.length
      · have h1' : (i : Int) < (L1.length : Int) := by omega
        go_wp2
        all_goals go_meet
        all_goals exact ⟨by simp [h1], by first | exact Lib.hid (HTW.out) | exact Lib.hid ((HTW.out.later (below_drewN (Below.refl _ _) _))) | exact Lib.hid ((HTW.out.later (Below.drew (Below.refl _ _))))⟩
      · have h1' : ¬ (i : Int) < (L1.length : Int) := by omega
        by_cases h2 : i < L2.length
        · have h2' : (i : Int) < (L2.length : Int) := by omega
          go_wp2
          all_goals go_meet
          all_goals exact ⟨by simp [h1, h2], by first | exact Lib.hid (HTW.out) | exact Lib.hid ((HTW.out.later (below_drewN (Below.refl _ _) _))) | exact Lib.hid ((HTW.out.later (Below.drew (Below.refl _ _))))⟩
        · have h2' : ¬ (i : Int) < (L2.length : Int) := by omega
          go_wp2
          all_goals go_meet
          all_goals exact ⟨by simp [h1, h2], by first | exact Lib.hid (HTW.out) | exact Lib.hid ((HTW.out.later (below_drewN (Below.refl _ _) _))) | exact Lib.hid ((HTW.out.later (Below.drew (Below.refl _ _))))⟩
    case rest =>
      obtain ⟨rfl, HT2⟩ := hcut
      clear HTW
      obtain ⟨wx, hwx⟩ : ∃ z : World, z = wc := ⟨_, rfl⟩
      rw [← hwx] at HT2 ⊢
      clear hwx
      obtain ⟨bb, hbb⟩ : ∃ b : Bool, b = (decide (i < L1.length) || decide (i < L2.length)) := ⟨_, rfl⟩
      rw [← hbb]
      cases bb
      case true =>
        have hi1 : i < 3518437208881 := by simp at hbb; omega
        clear hbb
        go_upto_region 9 with (fail)
        go_cut [62] (fun s wx => s = .bool false ∧ ∃ S1' : Nat → Prop, RowKit.Hid (Two w1.heap.size b2 w1 pa pv S1' S2 (i + 1) i wx))
        case first =>
          by_cases hlt1 : i < L1.length
          · have hlt' : (i : Int) < (L1.length : Int) := by omega
            rcases HT2.out.a.form with rfl | ⟨q, rfl⟩
            · go_wp2
              all_goals go_meet
              all_goals exact ⟨rfl, _, by first | exact Lib.hid (HT2.out.more (by omega) (by omega)) | exact Lib.hid ((HT2.out.later (below_drewN (Below.refl _ _) _)).more (by omega) (by omega)) | exact Lib.hid ((HT2.out.later (Below.drew (Below.refl _ _))).more (by omega) (by omega))⟩
            · skip
              have HSO := Lib.hid (HOK1.out (L1.getD i zS) (by rw [List.getD_eq_getElem?_getD, List.getElem?_eq_getElem hlt1]; exact List.getElem_mem hlt1))
              obtain ⟨sb, so, hpe, hsb, hsc⟩ := HS1.out (by omega)
              have hsc := hsc i hlt1
              generalize L1.getD i zS = s at hsc HSO
              obtain ⟨o, r⟩ := s
              have hbx := HT2.out.be
              have zs : sb < wx.heap.size := by have := hbx.size; omega
              have s0 := hsc 0 (by omega); have s1 := hsc 1 (by omega); have s2 := hsc 2 (by omega); have s3 := hsc 3 (by omega); have s4 := hsc 4 (by omega)
              rw [← (bcell hbx).1 _ _ hsb] at s0 s1 s2 s3 s4
              simp only [stC, List.getElem?_cons_zero, List.getElem?_cons_succ, ← Nat.add_assoc, Nat.add_zero] at s0 s1 s2 s3 s4
              clear hsc hbx
              subst hpe
              go_wp2_with fail
              refine (Two.step1 (by first | exact HT2.out | exact HT2.out.later (below_drewN (Below.refl _ _) _) | exact HT2.out.later (Below.drew (Below.refl _ _))) (by simp) (by omega) o r HSO.out).mono ?_
              rintro e w5 ⟨rfl, S1', HT5⟩
              have HT6 := Lib.hid HT5
              clear HT5
              go_wp2
              all_goals go_meet
              all_goals exact ⟨rfl, _, HT6⟩
          · have hlt' : ¬ (i : Int) < (L1.length : Int) := by omega
            go_wp2
            all_goals go_meet
            all_goals exact ⟨rfl, _, by first | exact Lib.hid (HT2.out.more (by omega) (by omega)) | exact Lib.hid ((HT2.out.later (below_drewN (Below.refl _ _) _)).more (by omega) (by omega)) | exact Lib.hid ((HT2.out.later (Below.drew (Below.refl _ _))).more (by omega) (by omega))⟩
        case rest =>
          obtain ⟨rfl, S3, HT3⟩ := hcut
          clear HT2
          obtain ⟨wx, hwx⟩ : ∃ z : World, z = wc := ⟨_, rfl⟩
          rw [← hwx] at HT3 ⊢
          clear hwx
          go_upto_region 11 with (fail)
          go_cut [79] (fun s wx => s = .bool false ∧ ∃ S2' : Nat → Prop, RowKit.Hid (Two w1.heap.size b2 w1 pa pv S3 S2' (i + 1) (i + 1) wx))
          case first =>
            by_cases hlt2 : i < L2.length
            · have hlt' : (i : Int) < (L2.length : Int) := by omega
              rcases HT3.out.b.form with rfl | ⟨q, rfl⟩
              · go_wp2
                all_goals go_meet
                all_goals exact ⟨rfl, _, by first | exact Lib.hid (HT3.out.more (by omega) (by omega)) | exact Lib.hid ((HT3.out.later (below_drewN (Below.refl _ _) _)).more (by omega) (by omega)) | exact Lib.hid ((HT3.out.later (Below.drew (Below.refl _ _))).more (by omega) (by omega))⟩
              · skip
                have HSO := Lib.hid (HOK2.out (L2.getD i zS) (by rw [List.getD_eq_getElem?_getD, List.getElem?_eq_getElem hlt2]; exact List.getElem_mem hlt2))
                obtain ⟨sb, so, hpe, hsb, hsc⟩ := HS2.out (by omega)
                have hsc := hsc i hlt2
                generalize L2.getD i zS = s at hsc HSO
                obtain ⟨o, r⟩ := s
                have hbx := HT3.out.be
                have zs : sb < wx.heap.size := by have := hbx.size; omega
                have s0 := hsc 0 (by omega); have s1 := hsc 1 (by omega); have s2 := hsc 2 (by omega); have s3 := hsc 3 (by omega); have s4 := hsc 4 (by omega)
                rw [← (bcell hbx).1 _ _ hsb] at s0 s1 s2 s3 s4
                simp only [stC, List.getElem?_cons_zero, List.getElem?_cons_succ, ← Nat.add_assoc, Nat.add_zero] at s0 s1 s2 s3 s4
                clear hsc hbx
                subst hpe
                go_wp2_with fail
                refine (Two.step2 (by first | exact HT3.out | exact HT3.out.later (below_drewN (Below.refl _ _) _) | exact HT3.out.later (Below.drew (Below.refl _ _))) (by simp) (by omega) o r HSO.out).mono ?_
                rintro e w5 ⟨rfl, S2', HT5⟩
                have HT6 := Lib.hid HT5
                clear HT5
                go_wp2
                all_goals go_meet
                all_goals exact ⟨rfl, _, HT6⟩
            · have hlt' : ¬ (i : Int) < (L2.length : Int) := by omega
              go_wp2
              all_goals go_meet
              all_goals exact ⟨rfl, _, by first | exact Lib.hid (HT3.out.more (by omega) (by omega)) | exact Lib.hid ((HT3.out.later (below_drewN (Below.refl _ _) _)).more (by omega) (by omega)) | exact Lib.hid ((HT3.out.later (Below.drew (Below.refl _ _))).more (by omega) (by omega))⟩
          case rest =>
            obtain ⟨rfl, S4, HT4⟩ := hcut
            clear HT3
            go_wp2
            go_roundw
            case rel => exact ⟨i + 1, _, _, by go_num, by omega, HT4⟩
            case measure => simp [intOf] <;> omega
      case false =>
        clear hbb
        rcases HT2.out.a.form with rfl | ⟨q, rfl⟩
        · have HMB := Lib.hid HT2.out.b
          have HBE := Lib.hid HT2.out.be
          have hz := HT2.out.z
          have hz2 := HT2.out.z2
          clear HT2
          rcases HMB.out.form with rfl | ⟨q2, rfl⟩
          · go_wp2_with fail
            refine (wakes_any _).mono ?_
            rintro e w7 ⟨rfl, hb7⟩
            have HB7 := Lib.hid (HBE.out.trans (hb7.mono (Nat.le_trans hz hz2)))
            clear hb7
            go_wp2
            go_ret
            exact ⟨rfl, below_via HB7.out HB1.out⟩
          · go_wp2_with fail
            refine (MP.whole2 HBE.out HMB.out hz hz2 (by simp) hi).mono ?_
            rintro e w6 ⟨rfl, hb6⟩
            have HB6 := Lib.hid hb6
            have hz6 := hb6.size
            clear hb6
            go_wp2_with fail
            refine (wakes_any _).mono ?_
            rintro e w7 ⟨rfl, hb7⟩
            have HB7 := Lib.hid (HB6.out.trans (hb7.mono hz6))
            clear hb7
            go_wp2
            go_ret
            exact ⟨rfl, below_via HB7.out HB1.out⟩
        · go_wp2_with fail
          refine (HT2.out.whole1 (by simp) hi).mono ?_
          rintro e w5 ⟨rfl, hbe, hmb, hz, hz2⟩
          have HMB := Lib.hid hmb
          have HBE := Lib.hid hbe
          clear hbe hmb HT2
          rcases HMB.out.form with rfl | ⟨q2, rfl⟩
          · go_wp2_with fail
            refine (wakes_any _).mono ?_
            rintro e w7 ⟨rfl, hb7⟩
            have HB7 := Lib.hid (HBE.out.trans (hb7.mono (Nat.le_trans hz hz2)))
            clear hb7
            go_wp2
            go_ret
            exact ⟨rfl, below_via HB7.out HB1.out⟩
          · go_wp2_with fail
            refine (MP.whole2 HBE.out HMB.out hz hz2 (by simp) hi).mono ?_
            rintro e w6 ⟨rfl, hb6⟩
            have HB6 := Lib.hid hb6
            have hz6 := hb6.size
            clear hb6
            go_wp2_with fail
            refine (wakes_any _).mono ?_
            rintro e w7 ⟨rfl, hb7⟩
            have HB7 := Lib.hid (HB6.out.trans (hb7.mono hz6))
            clear hb7
            go_wp2
            go_ret
            exact ⟨rfl, below_via HB7.out HB1.out⟩
end Go.Proofs.Ytekcheccelllcaa
