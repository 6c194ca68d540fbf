/- Trees' bytes: the contract of tree.Encode. -/
import Derived.Test.YtcihihncgpddfaaWrD
import Derived.Test.YtcihihncgpddfaaTreD
import Derived.StillTailTactics
import Derived.Laws.EntriesVeiled
namespace Go.Proofs.Ytcihihncgpddfaa
open Go.RowKit Go.Deep
set_option linter.unusedVariables false
set_option linter.unusedSimpArgs false

theorem check_wr {T : List Nd} (h : (checkT T).1 = 0) (hok : ∀ x ∈ T, NdOk x) : ∀ x ∈ T, NdWr x := fun x hx => by
  have hfit := check_fit h hok x hx
  obtain ⟨i, hi, hxi⟩ := nd_of_mem hx
  have ho := hok x hx
  have hkr := check_kids h i hi
  have hkn := kids_nodup h hi
  have hlen := check_len h
  obtain ⟨t, d, hw⟩ := check_each h i hi
  unfold kidsOf at hkn
  rw [hxi] at hw hkr hkn
  have hkl := ints_nodup_len hkn (n := T.length) (fun k hk => by have := hkr k hk; omega)
  have hk : ¬ (x.kind < 1 ∨ 11 < x.kind) := fun hb => by rw [wrong_kind hb] at hw; cases hw
  have hn := wrong_names hw
  have hq : ¬ kidsBad T i x t d := fun hb => by rw [wrong_kids hk hn hb] at hw; cases hw
  have hit : itemsB x = true := by
    cases e : itemsB x with
    | true => rfl
    | false => rw [wrong_items hk hn hq e] at hw; cases hw
  have hf : fieldsB x = true := by
    cases e : fieldsB x with
    | true => rfl
    | false => rw [wrong_fields hk hn hq hit e] at hw; cases hw
  have ht : x.text.size ≤ 65536 := by
    rcases Nat.lt_or_ge 65536 x.text.size with e | e
    · rw [wrong_text hk hn hq hit hf e] at hw; cases hw
    · exact e
  unfold namesBad at hn
  have hid : x.id.size ≤ 32 := by
    rcases Nat.eq_zero_or_pos x.id.size with e | e
    · omega
    · cases en : nameB x.id with
      | false => exact absurd (.inl ⟨e, .inr en⟩) hn
      | true => exact ((nameB_eq _).1 en).2.1
  have hcl : x.cls.size ≤ 32 := by
    rcases Nat.eq_zero_or_pos x.cls.size with e | e
    · omega
    · cases en : nameB x.cls with
      | false => exact absurd (.inr ⟨e, en⟩) hn
      | true => exact ((nameB_eq _).1 en).2.1
  unfold itemsB at hit
  simp only [Bool.and_eq_true] at hit
  obtain ⟨⟨⟨i1, i2⟩, i3⟩, i4⟩ := hit
  have hcols : x.cols.length ≤ 64 := by
    split at i4
    · rw [decide_eq_true_eq] at i4; omega
    · split at i4 <;> rw [decide_eq_true_eq] at i4 <;> omega
  unfold fieldsB at hf
  simp only [Bool.and_eq_true] at hf
  obtain ⟨⟨⟨f1, f2⟩, f3⟩, f4⟩ := hf
  unfold restB at f2
  rw [decide_eq_true_eq] at f2
  have item0 : ∀ {y : It}, itemB y = true → 0 ≤ y.k := fun {y} h => by unfold itemB at h; rw [decide_eq_true_eq] at h; omega
  have hfl := ho.flags
  have had := ho.add
  have hdr := ho.drop
  exact ⟨hfit, by omega, item0 i1, item0 i2, fun y hy => item0 ((List.all_eq_true.1 i3) y hy), by omega, by omega, by omega, by omega, by omega, by omega, by omega, by omega, by omega, by omega, by omega, by omega⟩
theorem partsTo_len {x : Nd} (h : NdWr x) : ∀ k, (partsTo x k).length ≤ 300000 * k
  | 0 => by simp [partsTo]
  | k + 1 => by
    have h1 := partsTo_len h k
    have h2 := partB_len h k
    rw [partsTo, List.length_append]
    omega
theorem ownsRow_fresh {w : World} {base : Nat} (hb : base ≤ w.heap.size) (cs : List Value) (t : TypeId) (hc : ∀ u ∈ cs, u.oneCell' = true) (hm : cs.length ≤ maxLen) : (w.alloc (.cells cs.toArray t)).ownsRow base t 1 (.slice (some ⟨w.heap.size, 0, none⟩) cs.length cs.length) cs.length cs := by
  refine ⟨by simp, .inr ⟨w.heap.size, cs.length, cs.toArray, rfl, hb, heap_alloc_new _ _, Nat.le_refl _, hm, by simp, ?_⟩⟩
  simp
/-- what Encode returns -/
def RetEnc (T : List Nd) (w : World) (e : Ending) (w' : World) : Prop := ∃ v, e = .returned (.tuple #[v, .int .i64 (encT T).2]) ∧ w'.ownsRow w.heap.size 5 1 v (encT T).1.length (u8L (encT T).1) ∧ Below w.heap.size w w'
theorem ret_enc {T : List Nd} {w w' : World} {b : List Int} {c : Int} {v : Value} (h : encT T = (b, c)) (hv : w'.ownsRow w.heap.size 5 1 v b.length (u8L b)) (hb : Below w.heap.size w w') : RetEnc T w (.returned (.tuple #[v, .int .i64 c])) w' := ⟨v, by rw [h], by rw [h]; exact hv, hb⟩
theorem ret_enc_nil {T : List Nd} {w w' : World} {c : Int} (h : encT T = ([], c)) (hb : Below w.heap.size w w') : RetEnc T w (.returned (.tuple #[.slice none 0 0, .int .i64 c])) w' := ret_enc h ⟨rfl, .inl ⟨rfl, rfl⟩⟩ hb
theorem encT_bad {T : List Nd} (h : (checkT T).1 ≠ 0) : encT T = ([], (checkT T).1) := by unfold encT; rw [if_pos h]
theorem encT_some {T : List Nd} (h : (checkT T).1 = 0) {b : List Int} (hb : encGo T (headB T.length) = some b) : encT T = (b, 0) := by unfold encT; rw [if_neg (by rw [h]; simp), hb]
theorem encT_none {T : List Nd} (h : (checkT T).1 = 0) (hb : encGo T (headB T.length) = none) : encT T = ([], 3) := by unfold encT; rw [if_neg (by rw [h]; simp), hb]
theorem row_sl {w : World} {base : Nat} {t : TypeId} {k n : Nat} {v : Value} {xs : List Value} (h : w.ownsRow base t k v n xs) : ∃ p c, v = .slice p n c := by
  rcases row_form h with ⟨rfl, rfl, _⟩ | ⟨g, c, rfl, _⟩
  · exact ⟨_, _, rfl⟩
  · exact ⟨_, _, rfl⟩
theorem drop_getD {T : List Nd} {i : Nat} (h : i < T.length) : T.drop i = T.getD i zNd :: T.drop (i + 1) := by
  rw [List.drop_eq_getElem_cons h, List.getD_eq_getElem?_getD, List.getElem?_eq_getElem h]; rfl
theorem encGo_cons (x : Nd) (l : List Nd) (b : List Int) : encGo (x :: l) b = if 1048576 < (b ++ ndB x).length then none else encGo l (b ++ ndB x) := rfl
/-- what stands beside the writer -/
structure Beside (base : Nat) (w1 : World) (wb tb gp : Nat) (v1 : Value) (sv : Value) (wr : World) : Prop where
  box : wr.heap[tb]? = some (.cells #[sv] 24 (0, 0))
  prt : wr.heap[gp]? = some (.cells partsA 90 (0, 0))
theorem Beside.wrs {base : Nat} {w1 wr : World} {wb tb gp : Nat} {v1 v2 sv : Value} {L L2 : List Int} (h0 : WrAt base w1 wb v1 L) (h : WrS base w1 wb v1 L2 v2 wr) (b : Beside base w1 wb tb gp v1 sv w1) : Beside base w1 wb tb gp v1 sv wr := by
  have n1 : tb ≠ wb := fun e => by have := b.box; rw [e, h0.blk] at this; injection this with this; injection this with _ h _; exact absurd h (by decide)
  have n2 : gp ≠ wb := fun e => by have := b.prt; rw [e, h0.blk] at this; injection this with this; injection this with _ h _; exact absurd h (by decide)
  exact ⟨(h.fr tb (lt_of_block b.box) n1 (row_blk_ne h0.own b.box (by decide))).trans b.box, (h.fr gp (lt_of_block b.prt) n2 (row_blk_ne h0.own b.prt (by decide))).trans b.prt⟩
set_option maxRecDepth 100000 in
set_option maxHeartbeats 16000000 in
theorem tree_Encode_any (p : Option Addr) (c : Nat) (T : List Nd) (w : World) (hT : TreeAt w (.slice p T.length c) T) : Calls Try.prog 20 #[.agg #[.slice p T.length c]] w (RetEnc T w) := by
  have B0 : Below w.heap.size w (w.alloc (.cells #[.slice p T.length c] 24)) := below_al (Below.refl _ _) _
  have hT0 : TreeAt (w.alloc (.cells #[.slice p T.length c] 24)) (.slice p T.length c) T := hT.later B0
  have HK := Lib.hid (tree_Check_any p c T _ hT0)
  have HT := Lib.hid hT
  have HB0 := Lib.hid B0
  have hlen := hT.len
  obtain ⟨ce, hce⟩ : ∃ ce, ce = checkT T := ⟨_, rfl⟩
  obtain ⟨c1, c2⟩ := ce
  have HCE := Lib.hid hce
  rw [← hce] at HK
  clear hT hT0 B0 hce
  go_enter Try.func20, Try.ntmps20
  go_wp2_with fail
  refine HK.out.mono ?_
  clear HK
  rintro e w1 ⟨rfl, hb1⟩
  have x1 : w1.heap[w.heap.size]? = some (.cells #[.slice p T.length c] 24 (0, 0)) := (hb1.block _ (by simp)).trans (heap_alloc_new _ _)
  have B1 := Lib.hid (below_via hb1 HB0.out)
  have z1 := lt_of_block x1
  have c0 := cell_of_one x1
  have X1 := Lib.hid x1
  clear hb1 HB0 x1
  by_cases hc : c1 = 0
  · subst hc
    have hk0 : (checkT T).1 = 0 := by rw [← HCE.out]
    have HK0 := Lib.hid hk0
    have HWR := Lib.hid (check_wr hk0 HT.out.ok)
    have hl4 : T.length ≤ 4096 := by have := check_len hk0; omega
    have hl1 : 0 < T.length := (check_len hk0).1
    clear hk0
    go_wp2_with fail
    obtain ⟨w2, hw2⟩ : ∃ x, x = w1.alloc (.cells #[.int .u8 70, .int .u8 84, .int .u8 1] 5) := ⟨_, rfl⟩
    have OW2 : w2.ownsRow w.heap.size 5 1 (.slice (some ⟨w1.heap.size, 0, none⟩) 3 3) 3 (u8L [70, 84, 1]) := by rw [hw2]; exact ownsRow_fresh (Nat.le_of_lt z1) [.int .u8 70, .int .u8 84, .int .u8 1] 5 (fun u hu => by simp at hu; rcases hu with rfl | rfl | rfl <;> rfl) (by decide)
    have z2 : w2.heap.size = w1.heap.size + 1 := by rw [hw2]; simp
    have B2 : Below w1.heap.size w1 w2 := by rw [hw2]; exact below_al (Below.refl _ _) _
    have hw2' := hw2.symm
    simp only [hw2', ← z2]
    obtain ⟨w3, hw3⟩ : ∃ x, x = w2.alloc (.cells #[.slice (some ⟨w1.heap.size, 0, none⟩) 3 3] 83) := ⟨_, rfl⟩
    have B3 : Below w2.heap.size w2 w3 := by rw [hw3]; exact below_al (Below.refl _ _) _
    have AT3 : WrAt w.heap.size w3 w2.heap.size (.slice (some ⟨w1.heap.size, 0, none⟩) 3 3) [70, 84, 1] := ⟨by rw [hw3]; exact heap_alloc_new _ _, row_later OW2 B3, by omega⟩
    have x3 : w3.heap[w.heap.size]? = some (.cells #[.slice p T.length c] 24 (0, 0)) := (B3.block _ (by omega)).trans ((B2.block _ z1).trans X1.out)
    have BB3 := Lib.hid (below_via B3 (below_via B2 B1.out))
    rw [← hw3]
    obtain ⟨wb, hwb⟩ : ∃ x, x = w2.heap.size := ⟨_, rfl⟩
    rw [← hwb] at AT3 ⊢
    have HAT3 := Lib.hid AT3
    have hwz : w.heap.size < wb := by omega
    clear hw3 hw2 hw2' OW2 B3 B2 c0 X1 AT3 hwb z2
    have HN := Lib.hid (number_any w.heap.size wb _ [70, 84, 1] T.length w3 HAT3.out (by omega) (by omega) (by decide))
    refine HN.out.mono ?_
    clear HN
    rintro e w4 ⟨rfl, v4, hs⟩
    have n4 : w.heap.size ≠ wb := fun e => by rw [e, HAT3.out.blk] at x3; injection x3 with x3; injection x3 with _ h _; exact absurd h (by decide)
    have x4 : w4.heap[w.heap.size]? = some (.cells #[.slice p T.length c] 24 (0, 0)) := (hs.fr _ (lt_of_block x3) n4 (row_blk_ne HAT3.out.own x3 (by decide))).trans x3
    have AT4 := Lib.hid hs.at_
    have BB4 := Lib.hid (BB3.out.trans hs.be)
    have z4 := lt_of_block x4
    have c4 := cell_of_one x4
    have X4 := Lib.hid x4
    clear hs x3 x4 BB3 HAT3
    go_wp2_with fail
    refine (parts_any w4).mono ?_
    obtain ⟨w5, hw5⟩ : ∃ x, x = w4.alloc (.cells partsA 90) := ⟨_, rfl⟩
    rw [← hw5]
    have B5 : Below w4.heap.size w4 w5 := by rw [hw5]; exact below_al (Below.refl _ _) _
    have AT5 := Lib.hid (AT4.out.later B5)
    have x5 := (B5.block _ z4).trans X4.out
    have p5 : w5.heap[w4.heap.size]? = some (.cells partsA 90 (0, 0)) := by rw [hw5]; exact heap_alloc_new _ _
    have BB5 := Lib.hid (below_via B5 BB4.out)
    have BES := Lib.hid (show Beside w.heap.size w5 wb w.heap.size w4.heap.size v4 (.slice p T.length c) w5 from ⟨x5, p5⟩)
    obtain ⟨gp, hgp⟩ : ∃ x, x = w4.heap.size := ⟨_, rfl⟩
    rw [← hgp] at BES ⊢
    have z5 := lt_of_block x5
    have c5 := cell_of_one x5
    have HL0 : (headB T.length).length ≤ 5 := headB_len hl4
    clear hw5 B5 AT4 x5 p5 BB4 c4 X4 hgp z4
    rintro e w6 ⟨rfl, rfl⟩
    have HND := HT.out.at_
    obtain ⟨p', c', e', _, _, hnd⟩ := HND
    injection e' with e1 _ e3
    subst e1 e3
    obtain ⟨b, off, rfl, hb, hnd⟩ := hnd hl1
    have HND := Lib.hid hnd
    clear hnd
    go_wp2
    go_loopw [31] (fun i wr => ∃ (j : Nat) (v2 : Value) (L : List Int), i = .int .i64 j ∧ j ≤ T.length ∧ RowKit.Hid (WrS w.heap.size w6 wb v4 L v2 wr) ∧ L.length ≤ 1048576 ∧ RowKit.Hid (encGo (T.drop j) L = encGo T (headB T.length))) (fun i _ => T.length - (intOf i).toNat)
    case atStart => exact ⟨0, v4, headB T.length, rfl, Nat.zero_le _, Lib.hid (WrS.refl AT5.out), by omega, Lib.hid (by rw [List.drop_zero])⟩
    case round =>
      obtain ⟨j, v2, L, rfl, hj, HS, hL, HE⟩ := hrel
      have BS := (BES.out.wrs AT5.out HS.out)
      have cT := cell_of_one BS.box
      have zT := lt_of_block BS.box
      clear BS
      by_cases hlt : j < T.length
      · have hji : (j : Int) < (T.length : Int) := by omega
        obtain ⟨x, hx⟩ : ∃ x, x = T.getD j zNd := ⟨_, rfl⟩
        have HX := Lib.hid (HWR.out x (by rw [hx]; exact mem_getD zNd hlt))
        have HSR := Lib.hid (show Src1 w b (off + j * 34) x wr from ⟨by rw [hx]; exact HND.out j hlt, hb, BB5.out.trans HS.out.be⟩)
        have HG := Lib.hid (show encGo T (headB T.length) = if 1048576 < (L ++ ndB x).length then none else encGo (T.drop (j + 1)) (L ++ ndB x) by rw [← HE.out, drop_getD hlt, encGo_cons, hx])
        obtain ⟨wo, hwo⟩ : ∃ x, x = wr := ⟨_, rfl⟩
        rw [← hwo] at HS cT zT HSR ⊢
        have HPL := Lib.hid (partsTo_len HX.out)
        clear hwo hx HE
        go_wp2
        go_loopw [36] (fun kv wr => ∃ (k : Nat) (v3 : Value), kv = .int .i64 k ∧ k ≤ 13 ∧ RowKit.Hid (WrS w.heap.size w6 wb v4 (L ++ partsTo x k) v3 wr)) (fun i _ => 13 - (intOf i).toNat)
        case atStart => exact ⟨0, v2, rfl, by omega, Lib.hid (by rw [partsTo, List.append_nil]; exact HS.out)⟩
        case round =>
          clear HS cT zT
          obtain ⟨k, v3, rfl, hk, HS⟩ := hrel
          have BS := (BES.out.wrs AT5.out HS.out)
          have cT := cell_of_one BS.box
          have zT := lt_of_block BS.box
          have zP := lt_of_block BS.prt
          by_cases hk13 : k < 13
          · have hki : (k : Int) < 13 := by omega
            have p0 : wr.cell? ⟨gp, k * 2, none⟩ = some (.func (.func (putF k)) #[] #[]) := by rw [cell_of_row _ _ _ _ _ _ BS.prt]; exact (partsA_at k hk13).1
            have p1 : wr.cell? ⟨gp, k * 2 + 1, none⟩ = some (.func (.func (getF k)) #[] #[]) := by rw [cell_of_row _ _ _ _ _ _ BS.prt]; exact (partsA_at k hk13).2
            have hent := put_enter k hk13
            clear BS
            obtain ⟨wA, hwA⟩ : ∃ x, x = wr.alloc (.cells #[.func (.func (putF k)) #[] #[], .func (.func (getF k)) #[] #[]] 90) := ⟨_, rfl⟩
            have BA : Below wr.heap.size wr wA := by rw [hwA]; exact below_al (Below.refl _ _) _
            have a0 : wA.cell? ⟨wr.heap.size, 0, none⟩ = some (.func (.func (putF k)) #[] #[]) := by rw [hwA]; simp [go_sem]
            have aT : wA.cell? ⟨w.heap.size, 0, none⟩ = some (.slice (some ⟨b, off, none⟩) T.length c) := ((bcell BA).1 _ _ zT).trans cT
            have zA : wA.heap.size = wr.heap.size + 1 := by rw [hwA]; simp
            have HBA := Lib.hid BA
            go_upto_region 13 with (fail)
            rw [← hwA]
            have HWA := Lib.hid hwA
            clear hwA BA p0 p1 cT
            go_still_tail 7, (by kernel_rfl)
            change wpList _ _ _ _ _ wA.drew
            have BD := Lib.hid (Below.drew HBA.out)
            generalize wA.drew = w9 at *
            have hzz : w.heap.size ≤ wr.heap.size := Nat.le_of_lt zT
            have HC := Lib.hid (put_any k hk13 w wb v3 _ b (off + j * 34) x w9 (HS.out.at_.later BD.out) ⟨HSR.out.nd, HSR.out.lt, below_via BD.out (BB5.out.trans HS.out.be)⟩ HX.out (by rw [List.length_append]; have := HPL.out k; omega))
            have HT2 := Lib.hid (show L ++ partsTo x k ++ partB x k = L ++ partsTo x (k + 1) by rw [List.append_assoc]; rfl)
            go_wp2_with fail
            refine HC.out.mono ?_
            clear HC
            rintro e wB ⟨rfl, v4', hs⟩
            rw [HT2.out] at hs
            have HS2 := Lib.hid (HS.out.trans (hs.from BD.out hzz))
            clear hs HS HT2 BD HBA
            go_wp2
            go_roundw
            case rel => exact ⟨k + 1, v4', by go_num, by omega, HS2⟩
            case measure => simp [intOf]; omega
          · obtain rfl : k = 13 := by omega
            obtain ⟨pv, cv, hv⟩ := row_sl HS.out.at_.own
            rw [hv] at HS
            have bw := cell_of_one HS.out.at_.blk
            have zw := HS.out.at_.lt
            have HS' := Lib.hid (show WrS w.heap.size w6 wb v4 (L ++ ndB x) (.slice pv (L ++ ndB x).length cv) wr from HS.out)
            have bw' : wr.cell? ⟨wb, 0, none⟩ = some (.slice pv (L ++ ndB x).length cv) := bw
            have hbl : (L ++ ndB x).length ≤ 4948576 := by have := HPL.out 13; rw [List.length_append]; unfold ndB; omega
            clear HS bw BS hv cT zT zP
            obtain ⟨L2, hL2⟩ : ∃ l, l = L ++ ndB x := ⟨_, rfl⟩
            rw [← hL2] at HS' bw' HG hbl
            clear hL2 HPL
            by_cases hbig : 1048576 < L2.length
            · have E := Lib.hid (encT_none HK0.out (HG.out.trans (if_pos hbig)))
              have BE := Lib.hid (BB5.out.trans HS'.out.be)
              have hbi : (1048576 : Int) < (L2.length : Int) := by omega
              clear HG
              go_wp2
              exact bodyPost_ret (v := .tuple #[.slice none 0 0, .int .i64 3]) (by simp [results, Try.results20, go_sem]) rfl (ret_enc_nil E.out BE.out)
            · have HE2 := Lib.hid (HG.out.trans (if_neg hbig)).symm
              have hbi : ¬ (1048576 : Int) < (L2.length : Int) := by omega
              have hsm : L2.length ≤ 1048576 := by omega
              clear HG hbig
              go_wp2
              go_roundw
              case rel => exact ⟨j + 1, _, L2, by go_num, by omega, HS', hsm, HE2⟩
              case measure => simp [intOf]; omega
      · obtain rfl : j = T.length := by omega
        have hE := HE.out
        rw [List.drop_length] at hE
        have E := Lib.hid (encT_some HK0.out hE.symm)
        have BE := Lib.hid (BB5.out.trans HS.out.be)
        obtain ⟨pv, cv, hv⟩ := row_sl HS.out.at_.own
        rw [hv] at HS
        have bw := cell_of_one HS.out.at_.blk
        have zw := HS.out.at_.lt
        clear hE hv cT zT
        go_wp2
        exact bodyPost_ret (v := .tuple #[.slice pv L.length cv, .int .i64 0]) (by simp [results, Try.results20, go_sem]) rfl (ret_enc E.out HS.out.at_.own BE.out)
  · have hcb : (c1 == 0) = false := beq_eq_false_iff_ne.2 hc
    have E := Lib.hid (show encT T = ([], c1) by rw [encT_bad (by rw [← HCE.out]; exact hc), ← HCE.out])
    clear hc
    go_wp2
    exact bodyPost_ret (v := .tuple #[.slice none 0 0, .int .i64 c1]) (by simp [results, Try.results20, go_sem]) rfl (ret_enc_nil E.out B1.out)
end Go.Proofs.Ytcihihncgpddfaa
