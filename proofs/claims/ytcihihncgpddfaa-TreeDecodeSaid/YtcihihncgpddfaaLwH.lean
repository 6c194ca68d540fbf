/- Layer 10: the walk of TreeDecode. -/
import Derived.Test.YtcihihncgpddfaaWkA
import Derived.Test.YtcihihncgpddfaaSpZ
import Derived.Test.YtcihihncgpddfaaTrOn
import Derived.Test.YtcihihncgpddfaaRdcA
import Derived.Test.YtcihihncgpddfaaDecC
namespace Go.Proofs.Ytcihihncgpddfaa
open Go.RowKit Go.Deep
set_option linter.unusedVariables false
set_option linter.unusedSimpArgs false

theorem bytes_src {w : World} {p : Option Addr} {n c : Nat} {L : List Int} (h : BytesAt w (.slice p n c) L) : n = L.length ∧ Src w p n 1 (u8L L) := by
  obtain ⟨p', c', e, h1, h2, h4⟩ := h
  injection e with e1 e2 e3
  subst e1 e2 e3
  refine ⟨rfl, by simp [u8L], fun h0 => ?_⟩
  obtain ⟨b, off, e, hz, hc⟩ := h4 h0
  refine ⟨b, off, e, hz, fun j u hu => ?_⟩
  unfold u8L at hu
  rw [List.getElem?_map] at hu
  have hj : j < L.length := by
    by_cases hj : j < L.length
    · exact hj
    · rw [List.getElem?_eq_none (by omega)] at hu; cases hu
  rw [hc j hj, List.getD_eq_getElem?_getD]
  rw [List.getElem?_eq_getElem hj] at hu ⊢
  exact hu
theorem u8L_one2 (L : List Int) : ∀ u ∈ u8L L, u.oneCell' = true := fun u hu => by
  obtain ⟨a, _, rfl⟩ := List.mem_map.1 hu
  rfl
/-- the first bytes of a list -/
theorem bytes_cut2 {w : World} {g c n : Nat} {L : List Int} {k : Nat} (h : BytesAt w (.slice (some ⟨g, 0, none⟩) n c) L) (hk : k ≤ L.length) : BytesAt w (.slice (some ⟨g, 0, none⟩) k c) (L.take k) := by
  obtain ⟨p', c', e, h1, h2, h4⟩ := h
  injection e with e1 e2 e3
  subst e1 e2 e3
  have hl : (L.take k).length = k := by rw [List.length_take]; omega
  refine ⟨_, c, by rw [hl], by omega, h2, fun h0 => ?_⟩
  obtain ⟨b, off, e, hz, hc⟩ := h4 (by omega)
  refine ⟨b, off, e, hz, fun i hi => ?_⟩
  rw [hc i (by omega)]
  congr 2
  rw [List.getD_eq_getElem?_getD, List.getD_eq_getElem?_getD, List.getElem?_take_of_lt (by omega)]
def pick2 {α : Type} (a b : α) : Nat → α
  | 0 => a
  | _ => b
set_option maxRecDepth 100000 in
set_option maxHeartbeats 16000000 in
theorem TreeDecode_walk (sv : Value) (B : List Int) (w : World) (hB : BytesAt w sv B) (hby : Byte8 B) (hlen : B.length ≤ 140737488351232) : Calls Try.prog 5 #[sv] w fun e w' => e = .returned (.bool true) ∧ Below w.heap.size w w' := by
  obtain ⟨i0, hi, hz0, hz1, hz2⟩ := info_parts infoU8_
  have HI := Lib.hid (And.intro hi (And.intro hz0 (And.intro hz1 hz2)))
  have HB := Lib.hid hB
  have HBY := Lib.hid hby
  obtain ⟨pb, cb, rfl, hb1, hb2, -⟩ := id hB
  have HND := Lib.hid (decT_nds hby)
  have HNN := Lib.hid (nnT_le hby)
  obtain ⟨T, ec, ea, hT⟩ : ∃ T c a, decT B = (T, c, a) := ⟨_, _, _, rfl⟩
  have RD := Lib.hid (fun (v : Value) (w : World) (h : BytesAt w v B) => tree_Decode_any v B w h hby)
  have HRD := Lib.hid (ref_Decode_any _ B w hB hby)
  unfold RetDec at RD HRD
  rw [hT] at HND HNN RD HRD
  simp only at HND HNN RD HRD
  clear hi hz0 hz1 hz2 hB hby hT
  go_enter Try.func5, Try.ntmps5
  go_wp2_with fail
  refine HRD.out.mono ?_
  clear HRD
  rintro e w1 ⟨tr, kr, cr, rfl, ownR, hB1⟩
  obtain ⟨pr, cr', rfl, hTR⟩ := ownR.tree HND.out
  obtain ⟨w2, hw2⟩ : ∃ x, x = w1.alloc (.cells #[.slice pr T.length cr'] 24) := ⟨_, rfl⟩
  have B2 : Below w1.heap.size w1 w2 := by rw [hw2]; exact below_al (Below.refl _ _) _
  have c2 : w2.cell? ⟨w1.heap.size, 0, none⟩ = some (.slice pr T.length cr') := by rw [hw2]; simp [go_sem]
  have z2 : w1.heap.size < w2.heap.size := by rw [hw2]; simp
  have HW2 := Lib.hid (below_via B2 hB1)
  have HTR := Lib.hid (hTR.later B2)
  obtain ⟨rb, hrb⟩ : ∃ x, x = w1.heap.size := ⟨_, rfl⟩
  have HCR := Lib.hid (show ∀ w', Below w2.heap.size w2 w' → w'.cell? ⟨rb, 0, none⟩ = some (.slice pr T.length cr') from fun w' h => by rw [hrb, (bcell h).1 _ _ z2]; exact c2)
  have HZR := Lib.hid (show ∀ w', Below w2.heap.size w2 w' → rb < w'.heap.size from fun w' h => by have := h.size; omega)
  have SRB := Lib.hid (bytes_src (HB.out.later HW2.out (Nat.le_refl _))).2
  have OW0 := Lib.hid (show w2.ownsRow w2.heap.size 5 1 (.slice none 0 0) 0 [] from ⟨rfl, .inl ⟨rfl, rfl⟩⟩)
  clear ownR hB1 hTR B2 c2 z2
  go_upto_region 3 with (fail)
  rw [← hw2, ← hrb]
  clear hw2 hrb
  go_wp2_with (at_builtin; go_must (refine wpList_append_src _ rfl (.tmp 25) (.tmp 26) 36 rfl w2.heap.size 5 i0 _ 1 1 Try.underlying36 HI.out.1 HI.out.2.1 HI.out.2.2.1 HI.out.2.2.2 rfl (by decide) _ 0 [] rfl OW0.out _ B.length _ _ rfl SRB.out (u8L_one2 _) ?a1 ?a2 ?a3 ?_))
  case a1 => unfold maxLen; omega
  (try case a2 => omega)
  (try case a3 => exact Nat.le_refl _)
  intro v3 w3 own3 gr3 pl3
  (try simp only [List.nil_append, Nat.zero_add] at own3)
  have B3 : Below w2.heap.size w2 w3 := Below.grown (Below.refl _ _) gr3 (Nat.le_refl _) (fun g hg => by simp [Value.ownBlock] at hg)
  have HB3 := Lib.hid B3
  have hs3 := B3.size
  have hv3 := Lib.hid (fun g hg => (row_lt own3 g hg).2)
  have OW3 := Lib.hid (own3.alloc (.cells #[.int .u8 165, .int .u8 166] 5))
  clear own3 gr3 pl3 OW0 SRB B3
  go_wp2_with (at_builtin; go_must (refine append_keep rfl (.tmp 28) (.tmp 29) 36 rfl w2.heap.size 5 i0 _ 1 1 Try.underlying36 HI.out.1 HI.out.2.1 HI.out.2.2.1 HI.out.2.2.2 rfl (by decide) _ B.length _ rfl OW3.out ⟨w3.heap.size, 0, none⟩ 2 2 [.int .u8 165, .int .u8 166] rfl rfl ?b1 ?b2 ?b3 ?b4 ?b5 ?_))
  case b1 => exact World.news_of_block (cs := #[.int .u8 165, .int .u8 166]) (t := 5) (fr := (0, 0)) (heap_alloc_new _ _)
  case b2 => intro u hu; simp only [List.mem_cons, List.not_mem_nil, or_false] at hu; rcases hu with rfl | rfl <;> rfl
  case b3 => unfold maxLen; omega
  case b4 => omega
  case b5 => first | omega | (simp; omega)
  intro v4 w4 own4 gr4 pl4
  have B4 : Below w2.heap.size w2 w4 := Below.grown ((HB3.out).trans ((below_al (Below.refl w3.heap.size w3) (.cells #[.int .u8 165, .int .u8 166] 5)).mono hs3)) gr4 (by simp; omega) hv3.out
  have HB4 := Lib.hid B4
  obtain ⟨M2, hM2⟩ : ∃ x, x = B ++ [165, 166] := ⟨_, rfl⟩
  have hm2 : M2.length = B.length + 2 := by rw [hM2]; simp
  have own4 : w4.ownsRow w2.heap.size 5 1 v4 M2.length (u8L M2) := by rw [hm2, hM2, u8L_app]; exact own4
  obtain ⟨g4, c4, rfl, h41, h42, h43, h44⟩ : ∃ g c, v4 = .slice (some ⟨g, 0, none⟩) M2.length c ∧ M2.length ≤ c ∧ c ≤ maxLen ∧ g < w4.heap.size ∧ w2.heap.size ≤ g := by
    rcases row_form own4 with ⟨_, h, _⟩ | h
    · omega
    · exact h
  have HM4 := Lib.hid (row_bytes own4)
  have HK4 := Lib.hid (show BytesAt w4 (.slice (some ⟨g4, 0, none⟩) B.length c4) B from by
    have := bytes_cut2 (k := B.length) HM4.out (by omega)
    rw [hM2, List.take_left'] at this
    · exact this
    · rfl)
  have hck : (B.length : Int) ≤ (c4 : Int) := by omega
  have OW4 := Lib.hid own4
  clear own4 gr4 pl4 OW3 B4 hs3 hv3 HB3
  go_wp2_with fail
  refine (RD.out _ w4 HK4.out).mono ?_
  rintro e w5 ⟨tt, kt, ct, rfl, ownT, hb5⟩
  obtain ⟨pt, ct', rfl, hTT⟩ := ownT.tree HND.out
  obtain ⟨w6, hw6⟩ : ∃ x, x = w5.alloc (.cells #[.slice pt T.length ct'] 24) := ⟨_, rfl⟩
  have B6 : Below w5.heap.size w5 w6 := by rw [hw6]; exact below_al (Below.refl _ _) _
  have d6 : w6.cell? ⟨w5.heap.size, 0, none⟩ = some (.slice pt T.length ct') := by rw [hw6]; simp [go_sem]
  have y6 : w5.heap.size < w6.heap.size := by rw [hw6]; simp
  have HB46 := Lib.hid (below_via B6 hb5)
  have OT6 := Lib.hid (ownT.later B6)
  obtain ⟨t5, ht5⟩ : ∃ x, x = w5.heap.size := ⟨_, rfl⟩
  have HCT := Lib.hid (show ∀ w', Below w6.heap.size w6 w' → w'.cell? ⟨t5, 0, none⟩ = some (.slice pt T.length ct') from fun w' h => by rw [ht5, (bcell h).1 _ _ y6]; exact d6)
  have HZT := Lib.hid (show ∀ w', Below w6.heap.size w6 w' → t5 < w'.heap.size from fun w' h => by have := h.size; omega)
  have hgt : g4 < t5 := by rw [ht5]; have := hb5.size; omega
  clear ownT hb5 hTT B6 d6 y6
  go_upto_region 7 with (fail)
  rw [← hw6, ← ht5]
  clear hw6 ht5
  go_wp2_with fail
  refine (RD.out _ w6 (HK4.out.later HB46.out (Nat.le_refl _))).mono ?_
  rintro e w7 ⟨tu, ku, cu, rfl, ownU, hb7⟩
  obtain ⟨pu, cu', rfl, hTU⟩ := ownU.tree HND.out
  obtain ⟨w8, hw8⟩ : ∃ x, x = w7.alloc (.cells #[.slice pu T.length cu'] 24) := ⟨_, rfl⟩
  have B8 : Below w7.heap.size w7 w8 := by rw [hw8]; exact below_al (Below.refl _ _) _
  have d8 : w8.cell? ⟨w7.heap.size, 0, none⟩ = some (.slice pu T.length cu') := by rw [hw8]; simp [go_sem]
  have y8 : w7.heap.size < w8.heap.size := by rw [hw8]; simp
  have HB68 := Lib.hid (below_via B8 hb7)
  have OU8 := Lib.hid (ownU.later B8)
  have OT8 := Lib.hid (OT6.out.later HB68.out)
  have HB28 := Lib.hid (below_via HB68.out (below_via HB46.out HB4.out))
  have HB48 := Lib.hid (below_via HB68.out HB46.out)
  obtain ⟨u7, hu7⟩ : ∃ x, x = w7.heap.size := ⟨_, rfl⟩
  have HCU := Lib.hid (show ∀ w', Below w8.heap.size w8 w' → w'.cell? ⟨u7, 0, none⟩ = some (.slice pu T.length cu') from fun w' h => by rw [hu7, (bcell h).1 _ _ y8]; exact d8)
  have HZU := Lib.hid (show ∀ w', Below w8.heap.size w8 w' → u7 < w'.heap.size from fun w' h => by have := h.size; omega)
  have hgu : g4 < u7 := by rw [hu7]; have := hb7.size; have := HB46.out.size; omega
  clear ownU hb7 hTU B8 d8 y8
  go_upto_region 8 with (fail)
  rw [← hw8, ← hu7]
  clear hw8 hu7
  have hec : (ec == ec) = true := by rw [beq_iff_eq]
  have hea : (ea == ea) = true := by rw [beq_iff_eq]
  have r8 := HCR.out w8 HB28.out
  have s8 := HZR.out w8 HB28.out
  have t8 := HCT.out w8 HB68.out
  have v8 := HZT.out w8 HB68.out
  go_wp2_with fail
  obtain ⟨_, _, e8, hT8⟩ := OT8.out.tree HND.out
  injection e8 with e8a _ e8b
  subst e8a e8b
  refine (ref_Same_any _ _ _ _ T w8 hT8 (HTR.out.later HB28.out)).mono ?_
  rintro e w9 ⟨rfl, hb9⟩
  have HB89 := Lib.hid hb9
  have HB69 := Lib.hid (below_via hb9 HB68.out)
  have HB29 := Lib.hid (below_via hb9 HB28.out)
  have r9 := HCR.out w9 HB29.out
  have s9 := HZR.out w9 HB29.out
  have t9 := HCT.out w9 HB69.out
  have v9 := HZT.out w9 HB69.out
  have u9 := HCU.out w9 HB89.out
  have x9 := HZU.out w9 HB89.out
  clear hb9 r8 s8 t8 v8 hT8
  go_wp2_with fail
  obtain ⟨_, _, e9, hT9⟩ := OU8.out.tree HND.out
  injection e9 with e9a _ e9b
  subst e9a e9b
  refine (ref_Same_any _ _ _ _ T w9 (hT9.later HB89.out) (HTR.out.later HB29.out)).mono ?_
  rintro e w10 ⟨rfl, hb10⟩
  have HB4x := Lib.hid (below_via hb10 (below_via HB89.out HB48.out))
  have HB8x := Lib.hid (below_via hb10 HB89.out)
  have HB6x := Lib.hid (below_via hb10 HB69.out)
  have HB2x := Lib.hid (below_via hb10 HB29.out)
  have HMx := Lib.hid (HM4.out.later HB4x.out (Nat.le_refl _))
  have hq1 := conv_bytes (HK4.out.later HB4x.out (Nat.le_refl _))
  have hq2 := conv_bytes ((HB.out.later HW2.out (Nat.le_refl _)).later HB2x.out (Nat.le_refl _))
  obtain ⟨S, hS⟩ : ∃ S, S = strOfNums B := ⟨_, rfl⟩
  rw [← hS] at hq1 hq2
  have cc : ∀ q, q < 2 → w10.cell? ⟨g4, B.length + q, none⟩ = some (.int .u8 (([165, 166] : List Int).getD q 0)) := fun q hq => by
    obtain ⟨p', c', e, _, _, h4⟩ := HMx.out
    injection e with e1 _ _
    obtain ⟨b', o', e', _, hc⟩ := h4 (by omega)
    rw [← e1] at e'
    injection e' with e'
    injection e' with e2 e3 _
    subst e2 e3
    have := hc (B.length + q) (by omega)
    rw [Nat.zero_add] at this
    rw [this, hM2, List.getD_eq_getElem?_getD, List.getElem?_append_right (by omega), Nat.add_sub_cancel_left, ← List.getD_eq_getElem?_getD]
  have cc0 : w10.cell? ⟨g4, B.length, none⟩ = some (.int .u8 165) := cc 0 (by omega)
  have cc1 : w10.cell? ⟨g4, B.length + 1, none⟩ = some (.int .u8 166) := cc 1 (by omega)
  have zz : g4 < w10.heap.size := by have := HB4x.out.size; omega
  have hi1 : (B.length : Int) < (M2.length : Int) := by omega
  have hi2 : (B.length : Int) + 1 < (M2.length : Int) := by omega
  clear hb10 r9 s9 t9 v9 u9 x9 hT9 cc hS
  go_upto_region 10 with (fail)
  have OWx := Lib.hid (row_later OW4.out HB4x.out)
  clear cc0 cc1 hq1 hq2 hi1 hi2 HMx HK4 HM4
  go_wp2
  go_loopw [14] (fun iv wr => ∃ (q : Nat) (xs : List Value), iv = .int .i64 q ∧ q ≤ B.length ∧ RowKit.Hid (wr.ownsRow w2.heap.size 5 1 (.slice (some ⟨g4, 0, none⟩) M2.length c4) M2.length xs ∧ w10.grownBy wr (some g4))) (fun iv _ => B.length - (intOf iv).toNat)
  case atStart => exact ⟨0, _, rfl, Nat.zero_le _, Lib.hid ⟨OWx.out, ⟨rfl, rfl, rfl, Nat.le_refl _, fun _ _ _ => rfl⟩⟩⟩
  case round =>
    obtain ⟨q, xs, rfl, hq, HG⟩ := hrel
    have zg : g4 < wr.heap.size := by have := HG.out.2.size; omega
    by_cases hqn : q < B.length
    · have hqi : (q : Int) < (B.length : Int) := by omega
      have hfz := HG.out.1.frozenAt q
      have hlx : xs.length = M2.length * 1 := HG.out.1.1
      obtain ⟨u0, hu0⟩ : ∃ u, xs[q]? = some u := ⟨_, List.getElem?_eq_getElem (by omega)⟩
      have hcq := row_cells HG.out.1 q u0 hu0
      rw [Nat.zero_add] at hcq
      obtain ⟨ST1, ST2⟩ := HG.out.1.stored q (.int .u8 238)
      have HG2 := Lib.hid (And.intro ST1 (grown_trans HG.out.2 ST2))
      clear ST1 ST2 hlx hu0 HG
      go_wp2
      go_roundw
      case rel => exact ⟨q + 1, _, by go_num, by omega, HG2⟩
      case measure => simp [intOf]; omega
    · have hqi : ¬ (q : Int) < (B.length : Int) := by omega
      obtain ⟨cur, hcur⟩ : ∃ cur, w10.heap[g4]? = some (.cells cur 5 (0, 0)) := by
        rcases OWx.out.2 with ⟨h, _⟩ | ⟨g', cap', cur', h, _, hh, _⟩
        · cases h
        · injection h with h1 _ _
          injection h1 with h1
          injection h1 with h1 _ _
          exact ⟨cur', by rw [h1]; exact hh⟩
      have OT10 := OT8.out.later HB8x.out
      have OU10 := OU8.out.later HB8x.out
      have OTr := Lib.hid (OT10.kept (W' := wr) fun b e => HG.out.2.block b (OT10.has_lt e).1 (fun e' => by injection e' with e'; exact OT10.not_has hcur (by decide) (by decide) (by decide) (e' ▸ e)))
      have OUr := Lib.hid (OU10.kept (W' := wr) fun b e => HG.out.2.block b (OU10.has_lt e).1 (fun e' => by injection e' with e'; exact OU10.not_has hcur (by decide) (by decide) (by decide) (e' ▸ e)))
      have HB2r := Lib.hid (Below.grown HB2x.out HG.out.2 HB2x.out.size (fun k hk => by injection hk with hk; omega))
      have l5 : t5 < w10.heap.size := HZT.out w10 HB6x.out
      have l7 : u7 < w10.heap.size := HZU.out w10 HB8x.out
      have z5 : t5 < wr.heap.size := by have := HG.out.2.size; omega
      have z7 : u7 < wr.heap.size := by have := HG.out.2.size; omega
      have c5 : wr.cell? ⟨t5, 0, none⟩ = some (.slice pt T.length ct') := by
        rw [World.cell?_of_block (HG.out.2.block t5 l5 (fun e => by injection e with e; omega))]
        exact HCT.out w10 HB6x.out
      have c7 : wr.cell? ⟨u7, 0, none⟩ = some (.slice pu T.length cu') := by
        rw [World.cell?_of_block (HG.out.2.block u7 l7 (fun e => by injection e with e; omega))]
        exact HCU.out w10 HB8x.out
      have HC5 := Lib.hid (show ∀ w', Below wr.heap.size wr w' → w'.cell? ⟨t5, 0, none⟩ = some (.slice pt T.length ct') ∧ t5 < w'.heap.size from fun w' h => ⟨by rw [(bcell h).1 _ _ z5]; exact c5, by have := h.size; omega⟩)
      have HC7 := Lib.hid (show ∀ w', Below wr.heap.size wr w' → w'.cell? ⟨u7, 0, none⟩ = some (.slice pu T.length cu') ∧ u7 < w'.heap.size from fun w' h => ⟨by rw [(bcell h).1 _ _ z7]; exact c7, by have := h.size; omega⟩)
      have HCW := Lib.hid (show ∀ w', Below w2.heap.size w2 w' → w'.cell? ⟨rb, 0, none⟩ = some (.slice pr T.length cr') ∧ rb < w'.heap.size from fun w' h => ⟨HCR.out w' h, HZR.out w' h⟩)
      have HOT6 := Lib.hid OT6.out
      have h24 := HB4.out.size
      have h46 := HB46.out.size
      have h4r : w4.heap.size ≤ wr.heap.size := by have := HB4x.out.size; have := HG.out.2.size; omega
      obtain ⟨r14, s14⟩ := HCW.out wr HB2r.out
      clear OT6 OT8 OU8 OT10 OU10 hcur OWx HG l5 l7 c7 z7 HCT HZT HCU HZU HCR HZR HB4x HB6x HB8x HB2x hgt hgu zz
      go_wp2_with fail
      obtain ⟨_, _, e14, hT14⟩ := OTr.out.tree HND.out
      injection e14 with e14a _ e14b
      subst e14a e14b
      refine (ref_Same_any _ _ _ _ T wr hT14 (HTR.out.later HB2r.out)).mono ?_
      rintro e w15 ⟨rfl, hb15⟩
      have HBr15 := Lib.hid hb15
      have HB215 := Lib.hid (below_via hb15 HB2r.out)
      obtain ⟨r15, s15⟩ := HCW.out w15 HB215.out
      obtain ⟨u15, x15⟩ := HC7.out w15 HBr15.out
      clear hb15 r14 s14 c5 z5 hT14
      go_wp2_with fail
      obtain ⟨_, _, e15, hT15⟩ := OUr.out.tree HND.out
      injection e15 with e15a _ e15b
      subst e15a e15b
      refine (ref_Same_any _ _ _ _ T w15 (hT15.later HBr15.out) (HTR.out.later HB215.out)).mono ?_
      rintro e w16 ⟨rfl, hb16⟩
      have HBr16 := Lib.hid (below_via hb16 HBr15.out)
      have HB216 := Lib.hid (below_via hb16 HB215.out)
      obtain ⟨t16, v16⟩ := HC5.out w16 HBr16.out
      obtain ⟨u16, x16⟩ := HC7.out w16 HBr16.out
      clear hb16 r15 s15 u15 x15 hT15
      go_wp2_with fail
      obtain ⟨w17, hw17⟩ : ∃ x, x = w16.alloc (.cells #[.slice pt T.length ct', .slice pu T.length cu'] 24) := ⟨_, rfl⟩
      have B17 : Below w16.heap.size w16 w17 := by rw [hw17]; exact below_al (Below.refl _ _) _
      have hX17 : w17.heap[w16.heap.size]? = some (.cells #[.slice pt T.length ct', .slice pu T.length cu'] 24 (0, 0)) := by rw [hw17]; exact heap_alloc_new _ _
      rw [← hw17]
      have S16 := Sp.of2 (T := fun _ => T) (tv := pick2 (.slice pt T.length ct') (.slice pu T.length cu')) (kvs := pick2 kt ku) (cvs := pick2 ct cu) (OTr.out.later HBr16.out) (OUr.out.later HBr16.out) h46 (fun a ha g hg => (row_lt (vv_own (T := fun _ => T) (tv := pick2 (.slice pt T.length ct') (.slice pu T.length cu')) (kvs := pick2 kt ku) (cvs := pick2 ct cu) (i := 0) HOT6.out ha) g hg).1)
      refine (spoil_some w4.heap.size w16.heap.size _ _ _ w17 (S16.later B17) ?sct ?sb ?so ?sn ?sbase).mono ?_
      case sct =>
        intro i hi
        obtain rfl | rfl : i = 0 ∨ i = 1 := by omega
        · exact blk_cell (cs := [.slice pt T.length ct', .slice pu T.length cu']) hX17 rfl
        · exact blk_cell (cs := [.slice pt T.length ct', .slice pu T.length cu']) hX17 rfl
      case sb => exact lt_of_block hX17
      case so => exact fun a ha e => Nat.lt_irrefl _ (row_lt (S16.fam.own a ha) _ e).1
      case sn => exact HNN.out
      case sbase => have := B17.size; have := HBr16.out.size; omega
      rintro e w18 ⟨rfl, hb18⟩
      have HB218 := Lib.hid ((below_via B17 HB216.out).trans (hb18.mono h24))
      have HBw18 := Lib.hid (below_via HB218.out HW2.out)
      clear S16 hb18 hX17 B17 hw17 t16 v16 u16 x16
      go_wp2_with fail
      refine (RD.out _ w18 (HB.out.later HBw18.out (Nat.le_refl _))).mono ?_
      rintro e w19 ⟨tv, kv, cv, rfl, ownV, hb19⟩
      obtain ⟨pv, cv', rfl, hTV⟩ := ownV.tree HND.out
      obtain ⟨w20, hw20⟩ : ∃ x, x = w19.alloc (.cells #[.slice pv T.length cv'] 24) := ⟨_, rfl⟩
      have B20 : Below w19.heap.size w19 w20 := by rw [hw20]; exact below_al (Below.refl _ _) _
      have c20 : w20.cell? ⟨w19.heap.size, 0, none⟩ = some (.slice pv T.length cv') := by rw [hw20]; simp [go_sem]
      have z20 : w19.heap.size < w20.heap.size := by rw [hw20]; simp
      have HTV := Lib.hid (hTV.later B20)
      have HB220 := Lib.hid (below_via B20 (below_via hb19 HB218.out))
      obtain ⟨r20, s20⟩ := HCW.out w20 HB220.out
      obtain ⟨v19, hv19⟩ : ∃ x, x = w19.heap.size := ⟨_, rfl⟩
      clear ownV hTV hb19 B20
      rw [← hv19] at c20 z20
      go_upto_region 18 with (fail)
      rw [← hw20, ← hv19]
      clear hw20 hv19
      go_wp2_with fail
      refine (ref_Same_any _ _ _ _ T w20 HTV.out (HTR.out.later HB220.out)).mono ?_
      rintro e w21 ⟨rfl, hb21⟩
      have HB221 := Lib.hid (below_via hb21 HB220.out)
      clear hb21 c20 z20 r20 s20
      go_wp2_with fail
      refine (wakes_any _).mono ?_
      rintro e w22 ⟨rfl, hb22⟩
      have BF := Lib.hid (below_via (below_via hb22 HB221.out) HW2.out)
      clear hb22
      go_wp2
      go_ret
      exact ⟨rfl, BF.out⟩
end Go.Proofs.Ytcihihncgpddfaa
