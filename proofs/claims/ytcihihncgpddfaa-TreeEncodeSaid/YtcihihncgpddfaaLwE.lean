/- TreeEncode: the walk. -/
import Derived.Test.YtcihihncgpddfaaLwA
import Derived.Test.YtcihihncgpddfaaRwC
import Derived.Test.YtcihihncgpddfaaTrOn
namespace Go.Proofs.Ytcihihncgpddfaa
open Go.RowKit Go.Deep
set_option linter.unusedVariables false
set_option linter.unusedSimpArgs false

set_option maxRecDepth 100000 in
set_option maxHeartbeats 8000000 in
theorem TreeEncode_walk (pt : Option Addr) (ct : Nat) (T : List Nd) (w : World) (hT : TreeAt w (.slice pt T.length ct) T) (hD : ∀ x ∈ T, NdDeep x) : Calls Try.prog 4 #[.agg #[.slice pt T.length ct]] w fun e w' => e = .returned (.bool true) ∧ Below w.heap.size w w' := by
  obtain ⟨i0, hi, hz0, hz1, hz2⟩ := info_parts infoU8_
  have HIU := Lib.hid (And.intro hi (And.intro hz0 (And.intro hz1 hz2)))
  clear hi hz0 hz1 hz2
  have HOK := Lib.hid hT.ok
  obtain ⟨w1, hw1⟩ : ∃ x, x = w.alloc (.cells #[.slice pt T.length ct] 24) := ⟨_, rfl⟩
  have B1 : Below w.heap.size w w1 := by rw [hw1]; exact below_al (Below.refl _ _) _
  have c1 : w1.cell? ⟨w.heap.size, 0, none⟩ = some (.slice pt T.length ct) := by rw [hw1]; simp [go_sem]
  have z1 : w.heap.size < w1.heap.size := by rw [hw1]; simp <;> omega
  have HT1 := Lib.hid (hT.later B1)
  have HB1 := Lib.hid B1
  obtain ⟨tb, htb⟩ : ∃ x, x = w.heap.size := ⟨_, rfl⟩
  have HC1 := Lib.hid c1
  have HCC := Lib.hid (fun w' (h : Below w1.heap.size w1 w') => show w'.cell? ⟨tb, 0, none⟩ = some (.slice pt T.length ct) by rw [htb, (bcell h).1 _ _ z1]; exact HC1.out)
  have HZZ := Lib.hid (fun w' (h : Below w1.heap.size w1 w') => show tb < w'.heap.size by have := h.size; omega)
  have HNB := Lib.hid (beyond_any pt ct T w1 HT1.out hD)
  rw [← htb] at c1 z1
  clear B1 hT hD
  go_enter Try.func4, Try.ntmps4
  go_upto_region 1 with (fail)
  rw [← hw1, ← htb]
  clear hw1 htb
  go_wp2_with fail
  refine HNB.out.mono ?_
  clear HNB
  rintro e w2 ⟨rfl, hb2⟩
  have c2 := HCC.out w2 hb2
  have z2 := HZZ.out w2 hb2
  have HB2 := Lib.hid hb2
  clear c1 z1 hb2
  by_cases hbig : 134217728 < sumW T
  · rw [decide_eq_true hbig]
    go_wp2
    go_ret
    exact ⟨rfl, below_via HB2.out HB1.out⟩
  · rw [decide_eq_false hbig]
    have HNK := Lib.hid (not_beyond hbig)
    clear hbig
    obtain ⟨b, f1, he⟩ : ∃ x y, encT T = (x, y) := ⟨_, _, rfl⟩
    have hbl : b.length ≤ 1048576 := by
      by_cases h0 : f1 = 0
      · rw [h0] at he; exact (encT_ok he).2.2
      · have := encT_no (T := T) (by rw [he]; exact h0)
        rw [he] at this
        simp only at this
        rw [this]; simp
    have HE := Lib.hid he
    clear he
    go_wp2_with fail
    refine (ref_Encode_any pt ct T w2 (HT1.out.later HB2.out)).mono ?_
    rintro e w3 ⟨vw, rfl, ownw, hb3⟩
    rw [HE.out] at ownw ⊢
    simp only at ownw ⊢
    have HB3 := Lib.hid (below_via hb3 HB2.out)
    have c3 := HCC.out w3 HB3.out
    have z3 := HZZ.out w3 HB3.out
    have HW3 := Lib.hid (row_bytes ownw)
    obtain ⟨pw, kw, rfl⟩ := row_sl ownw
    clear c2 z2 hb3 ownw
    go_wp2_with fail
    refine (lent_any pt ct T w3 (HT1.out.later HB3.out) HNK.out.1 HNK.out.2).mono ?_
    rintro e wl ⟨tv, full, vk, vc, rfl, LA, hbl⟩
    obtain ⟨g, cg, qk, dk, qc, dc, rfl, rfl, rfl, rfl⟩ := LA.forms
    obtain ⟨w4, hw4⟩ : ∃ x, x = wl.alloc (.cells #[.slice (some ⟨g, 0, none⟩) T.length cg, .slice (some ⟨g, 0, none⟩) (T.length + 2) cg, .slice qk T.length dk, .slice qc T.length dc] 29) := ⟨_, rfl⟩
    have Bl4 : Below wl.heap.size wl w4 := by rw [hw4]; exact below_al (Below.refl _ _) _
    have HB4 := Lib.hid (below_via Bl4 (below_via hbl HB3.out))
    have HL4 := Lib.hid (LA.later Bl4)
    obtain ⟨xb, hxb⟩ : ∃ x, x = wl.heap.size := ⟨_, rfl⟩
    have HXK := Lib.hid (show w4.heap[xb]? = some (.cells #[.slice (some ⟨g, 0, none⟩) T.length cg, .slice (some ⟨g, 0, none⟩) (T.length + 2) cg, .slice qk T.length dk, .slice qc T.length dc] 29 (0, 0)) by rw [hw4, hxb]; exact heap_alloc_new _ _)
    have HXC := Lib.hid (fun w' (h : Below w4.heap.size w4 w') => show w'.cell? ⟨xb, 0, none⟩ = some (.slice (some ⟨g, 0, none⟩) T.length cg) ∧ w'.cell? ⟨xb, 1, none⟩ = some (.slice (some ⟨g, 0, none⟩) (T.length + 2) cg) ∧ w'.cell? ⟨xb, 2, none⟩ = some (.slice qk T.length dk) ∧ w'.cell? ⟨xb, 3, none⟩ = some (.slice qc T.length dc) ∧ xb < w'.heap.size from by
      have hx := (h.block _ (lt_of_block HXK.out)).trans HXK.out
      exact ⟨blk_cell (cs := [.slice (some ⟨g, 0, none⟩) T.length cg, .slice (some ⟨g, 0, none⟩) (T.length + 2) cg, .slice qk T.length dk, .slice qc T.length dc]) hx rfl, blk_cell (cs := [.slice (some ⟨g, 0, none⟩) T.length cg, .slice (some ⟨g, 0, none⟩) (T.length + 2) cg, .slice qk T.length dk, .slice qc T.length dc]) hx rfl, blk_cell (cs := [.slice (some ⟨g, 0, none⟩) T.length cg, .slice (some ⟨g, 0, none⟩) (T.length + 2) cg, .slice qk T.length dk, .slice qc T.length dc]) hx rfl, blk_cell (cs := [.slice (some ⟨g, 0, none⟩) T.length cg, .slice (some ⟨g, 0, none⟩) (T.length + 2) cg, .slice qk T.length dk, .slice qc T.length dc]) hx rfl, lt_of_block hx⟩)
    obtain ⟨x4, -, -, -, y4⟩ := HXC.out w4 (Below.refl _ _)
    have BlF := Bl4
    have hblF := hbl
    clear c3 z3 Bl4 hbl LA
    go_upto_region 5 with (fail)
    rw [← hw4, ← hxb]
    clear hw4 hxb
    have HW4 := Lib.hid (HW3.out.later (show Below w3.heap.size w3 w4 from below_via BlF hblF) (Nat.le_refl _))
    clear HW3 BlF hblF
    have HLT := Lib.hid (HL4.out.at_ HOK.out)
    go_wp2_with fail
    refine (tree_Encode_any _ cg T w4 HLT.out).mono ?_
    rintro e w5 ⟨va, rfl, owna, hb5⟩
    rw [HE.out] at owna ⊢
    simp only at owna ⊢
    have HM5 := Lib.hid hb5
    have OA5 := Lib.hid owna
    obtain ⟨pa, ka, rfl⟩ := row_sl owna
    obtain ⟨x5, -, -, -, y5⟩ := HXC.out w5 HM5.out
    clear x4 y4 hb5 owna
    go_wp2_with fail
    refine (tree_Encode_any _ cg T w5 (HLT.out.later HM5.out)).mono ?_
    rintro e w6 ⟨vb, rfl, ownb, hb6⟩
    rw [HE.out] at ownb ⊢
    simp only at ownb ⊢
    have HM6 := Lib.hid (below_via hb6 HM5.out)
    have OA6 := Lib.hid (row_later OA5.out hb6)
    have OB6 := Lib.hid ownb
    obtain ⟨pb, kb, rfl⟩ := row_sl ownb
    obtain ⟨x60, x61, x62, x63, y6⟩ := HXC.out w6 HM6.out
    have HB6 := Lib.hid (below_via HM6.out HB4.out)
    have c6 := HCC.out w6 HB6.out
    have z6 := HZZ.out w6 HB6.out
    have LTA := Lib.hid (fun q hq => (row_lt OA5.out q hq).1)
    have LTB := Lib.hid (fun q hq => (row_lt OB6.out q hq).2)
    have S56 := Lib.hid hb6.size
    have qa := conv_bytes (row_bytes OA6.out)
    have qb := conv_bytes (row_bytes OB6.out)
    have qw := conv_bytes (HW4.out.later HM6.out (Nat.le_refl _))
    have f1q : (f1 == f1) = true := by rw [beq_iff_eq]
    clear x5 y5 hb6 ownb OA5
    generalize strOfNums b = sb at qa qb qw
    have sq : (sb.toList == sb.toList) = true := by rw [beq_iff_eq]
    go_wp2_with fail
    refine (stays_any _ _ _ _ pt ct T _ w6 (HL4.out.later HM6.out) (HT1.out.later HB6.out)).mono ?_
    rintro e w7 ⟨rfl, hb7⟩
    have HM7 := Lib.hid (below_via hb7 HM6.out)
    have OA7 := Lib.hid (row_later OA6.out hb7)
    have OB7 := Lib.hid (row_later OB6.out hb7)
    clear hb7 qa qb qw f1q sq x60 x61 x62 x63 y6 c6 z6 OA6 OB6
    go_upto_region 10 with (fail)
    go_loopw [10] (fun iv wr => ∃ k : Nat, k ≤ b.length ∧ iv = .int .i64 k ∧ RowKit.Hid (Below w4.heap.size w4 wr) ∧ RowKit.Hid (∃ xs, wr.ownsRow w4.heap.size 5 1 (.slice pa b.length ka) b.length xs) ∧ RowKit.Hid (wr.ownsRow w5.heap.size 5 1 (.slice pb b.length kb) b.length (u8L b))) (fun iv _ => b.length - (intOf iv).toNat)
    case atStart => exact ⟨0, Nat.zero_le _, rfl, HM7, Lib.hid ⟨_, OA7.out⟩, OB7⟩
    case round =>
      clear OA7 OB7 HM7
      obtain ⟨k, hk, rfl, BW, OA, OB⟩ := hrel
      by_cases hlt : k < b.length
      · have hki : (k : Int) < (b.length : Int) := by omega
        obtain ⟨xs, oa⟩ := OA.out
        obtain ⟨g1, hg1⟩ : ∃ g, pa = some ⟨g, 0, none⟩ := by
          rcases row_form oa with ⟨_, h0, _⟩ | ⟨g, c, h1, _⟩
          · omega
          · injection h1 with h1; exact ⟨g, h1⟩
        subst hg1
        obtain ⟨own2, gr2⟩ := oa.stored k (.int .u8 238)
        have hxl : xs.length = b.length := by have := oa.1; omega
        have d1 : wr.cell? ⟨g1, k, none⟩ = some (xs[k]'(by omega)) := by
          have := row_cells oa k (xs[k]'(by omega)) (List.getElem?_eq_getElem (by omega))
          rwa [Nat.zero_add] at this
        have d1f : wr.frozen? ⟨g1, k, none⟩ = false := oa.frozenAt _
        have zg := (row_lt oa g1 rfl).1
        have lo := (row_lt oa g1 rfl).2
        have NE := LTA.out g1 rfl
        have HOB2 := Lib.hid (OB.out.kept gr2 (by
          cases hq : (Value.slice pb b.length kb).ownBlock with
          | none => exact .inl rfl
          | some q =>
            have := LTB.out q hq
            exact .inr (fun e => by injection e with e; omega)))
        have HOA2 := Lib.hid (show ∃ ys, (wr.setCell ⟨g1, k, none⟩ (.int .u8 238)).ownsRow w4.heap.size 5 1 (.slice (some ⟨g1, 0, none⟩) b.length ka) b.length ys from ⟨_, own2⟩)
        have HBW2 := Lib.hid (BW.out.setCell (p := ⟨g1, k, none⟩) lo (.int .u8 238))
        clear own2 gr2 OA OB BW oa lo NE
        go_wp2
        go_roundw
        case rel => exact ⟨k + 1, by omega, by go_num, HBW2, HOA2, HOB2⟩
        case measure => simp [intOf]; omega
      · obtain rfl : k = b.length := by omega
        clear hlt hk
        obtain ⟨xs0, oa0⟩ := OA.out
        have BWO := Lib.hid BW.out
        have OBO := Lib.hid OB.out
        have HAO := Lib.hid (show ∃ n c xs, ∃ q, (Value.slice pa b.length ka) = .slice q n c ∧ n = b.length + 0 ∧ wr.ownsRow w4.heap.size 5 1 (.slice pa b.length ka) n xs ∧ ∀ q, (Value.slice pa b.length ka).ownBlock = some q → (Value.slice pb b.length kb).ownBlock ≠ some q from ⟨_, _, _, _, rfl, rfl, oa0, fun q hq e => by have := LTA.out q hq; have := LTB.out q e; omega⟩)
        clear oa0 OA OB BW
        obtain ⟨wo, rfl⟩ : ∃ wo : World, wo = wr := ⟨_, rfl⟩
        go_upto_region 15 with (fail)
        go_loopw [11, 12] (fun mv iv wr => ∃ k : Nat, k ≤ 70 ∧ iv = .int .i64 k ∧ RowKit.Hid (Below w4.heap.size w4 wr) ∧ RowKit.Hid (∃ n c xs, ∃ q, mv = .slice q n c ∧ n = b.length + k ∧ wr.ownsRow w4.heap.size 5 1 mv n xs ∧ ∀ q, mv.ownBlock = some q → (Value.slice pb b.length kb).ownBlock ≠ some q) ∧ RowKit.Hid (wr.ownsRow w5.heap.size 5 1 (.slice pb b.length kb) b.length (u8L b))) (fun _ iv _ => 70 - (intOf iv).toNat)
        case atStart => exact ⟨0, by omega, rfl, BWO, HAO, OBO⟩
        case round =>
          clear BWO HAO OBO
          obtain ⟨k, hk, rfl, BW, OA, OB⟩ := hrel
          obtain ⟨n, cm, xs, q, rfl, rfl, oa, hne⟩ := OA.out
          have hz := BW.out.size
          have HNE := Lib.hid hne
          have HOA := Lib.hid oa
          clear hne OA
          by_cases hlt : k < 70
          · have hki : (k : Int) < 70 := by omega
            have BA := below_al (Below.refl wr.heap.size wr) (.cells #[.int .u8 221] 5)
            have OW := Lib.hid (row_later oa BA)
            have SR := Lib.hid (src_new wr #[.int .u8 221] 5 1 1 rfl)
            clear oa
            have hkm : b.length + k + 1 ≤ maxLen := by unfold maxLen; omega
            go_wp2_with (at_builtin; go_must (refine wpList_append_src _ rfl (.tmp 78) (.tmp 79) 36 rfl w4.heap.size 5 i0 _ 1 1 Try.underlying36 HIU.out.1 HIU.out.2.1 HIU.out.2.2.1 HIU.out.2.2.2 rfl (by decide) _ (b.length + k) _ rfl OW.out (some ⟨wr.heap.size, 0, none⟩) 1 1 _ rfl SR.out ?h1 hkm ?h2 ?h3 ?_))
            case h1 => first | rfl | (intro u hu; simp at hu; subst hu; rfl)
            case h2 => omega
            case h3 => first | omega | (simp; omega)
            intro v2 w8 own2 gr2 pl2
            have gr2' : (wr.alloc (.cells #[.int .u8 221] 5)).grownBy w8 (Value.slice q (b.length + k) cm).ownBlock := by simpa using gr2
            have HBW2 := Lib.hid (show Below w4.heap.size w4 w8 from Below.grown (below_via BA BW.out) gr2' (by simp; omega) (fun g hg => (row_lt HOA.out g hg).2))
            have HOB2 := Lib.hid ((row_later OB.out BA).kept gr2' (by
              cases hq : (Value.slice pb b.length kb).ownBlock with
              | none => exact .inl rfl
              | some q2 => exact .inr (fun e => HNE.out q2 e.symm hq)))
            have HOA2 := Lib.hid (show ∃ n c xs, ∃ q, v2 = .slice q n c ∧ n = b.length + (k + 1) ∧ w8.ownsRow w4.heap.size 5 1 v2 n xs ∧ ∀ q, v2.ownBlock = some q → (Value.slice pb b.length kb).ownBlock ≠ some q by
              obtain ⟨q2, c2, e⟩ := row_sl own2
              refine ⟨_, c2, _, q2, e, by omega, own2, fun q3 hq3 e3 => ?_⟩
              rcases pl2 with p | p
              · exact HNE.out q3 (p ▸ hq3) e3
              · rw [p] at hq3
                injection hq3 with hq3
                have := (row_lt OB.out q3 e3).1
                (try simp at hq3)
                omega)
            clear own2 gr2 gr2' pl2 OB BW OW SR HOA HNE BA
            go_wp2
            go_roundw
            case rel => exact ⟨k + 1, by omega, by go_num, HBW2, HOA2, HOB2⟩
            case measure => simp [intOf]; omega
          · obtain rfl : k = 70 := by omega
            clear hlt hk oa HOA HNE
            have BWr := Lib.hid BW.out
            obtain ⟨x80, -, -, -, y80⟩ := HXC.out wr BWr.out
            go_wp2_with fail
            refine (tree_Encode_any _ cg T wr (HLT.out.later BWr.out)).mono ?_
            rintro e w9 ⟨vc, rfl, ownc, hb9⟩
            rw [HE.out] at ownc ⊢
            simp only at ownc ⊢
            obtain ⟨pc, kc, rfl⟩ := row_sl ownc
            have qb := conv_bytes (row_bytes (row_later OB.out hb9))
            have qc := conv_bytes (row_bytes ownc)
            have qw := conv_bytes (HW4.out.later (below_via hb9 BWr.out) (Nat.le_refl _))
            have HB9 := Lib.hid (below_via (below_via hb9 BWr.out) HB4.out)
            clear hb9 ownc x80 y80 OB BW
            generalize strOfNums b = sb at qb qc qw
            have sq : (sb.toList == sb.toList) = true := by rw [beq_iff_eq]
            have bq : ((b.length : Int) + 70 == (b.length : Int) + 70) = true := by rw [beq_iff_eq]
            go_wp2_with fail
            refine (wakes_any _).mono ?_
            rintro e wf ⟨rfl, hbf⟩
            have BF := Lib.hid (below_via (below_via hbf HB9.out) HB1.out)
            clear hbf qb qc qw
            go_wp2
            go_ret
            exact ⟨rfl, BF.out⟩
end Go.Proofs.Ytcihihncgpddfaa
