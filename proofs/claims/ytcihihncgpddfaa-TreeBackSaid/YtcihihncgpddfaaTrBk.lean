/- TreeBack: the bytes of a right tree are bytes; the walk. -/
import Derived.Test.YtcihihncgpddfaaWkA
import Derived.Test.YtcihihncgpddfaaSmA
import Derived.Test.YtcihihncgpddfaaSmB
namespace Go.Proofs.Ytcihihncgpddfaa
open Go.RowKit Go.Deep
set_option linter.unusedVariables false
set_option linter.unusedSimpArgs false

theorem itemB_low {x : It} (h : itemB x = true) : 0 ≤ x.k := by
  unfold itemB at h
  rw [decide_eq_true_eq] at h
  omega
structure NdLow (x : Nd) : Prop where
  kind : 0 ≤ x.kind
  iw : 0 ≤ x.iw.k
  ih : 0 ≤ x.ih.k
  b : 0 ≤ x.border ∧ 0 ≤ x.align ∧ 0 ≤ x.cross ∧ 0 ≤ x.wrap ∧ 0 ≤ x.flags
  ad : 0 ≤ x.add ∧ 0 ≤ x.drop
  cols : ∀ k ∈ x.cols, 0 ≤ k.k
theorem check_low {T : List Nd} (h : (checkT T).1 = 0) (hok : ∀ x ∈ T, NdOk x) : ∀ x ∈ T, NdLow x := fun x hx => by
  obtain ⟨i, hi, hxi⟩ := nd_of_mem hx
  have ho := hok x hx
  obtain ⟨t, d, hw⟩ := check_each h i hi
  rw [hxi] at hw
  have hk : ¬ (x.kind < 1 ∨ 11 < x.kind) := fun hb => by rw [wrong_kind hb] at hw; cases hw
  have hn := wrong_names hw
  have hq : ¬ kidsBad T i x t d := fun hb => by rw [wrong_kids hk hn hb] at hw; cases hw
  have hit : itemsB x = true := by
    cases e : itemsB x with
    | true => rfl
    | false => rw [wrong_items hk hn hq e] at hw; cases hw
  have hf : fieldsB x = true := by
    cases e : fieldsB x with
    | true => rfl
    | false => rw [wrong_fields hk hn hq hit e] at hw; cases hw
  unfold itemsB at hit
  simp only [Bool.and_eq_true] at hit
  obtain ⟨⟨⟨i1, i2⟩, i3⟩, -⟩ := hit
  unfold fieldsB at hf
  simp only [Bool.and_eq_true] at hf
  obtain ⟨⟨⟨-, f2⟩, -⟩, -⟩ := hf
  unfold restB at f2
  rw [decide_eq_true_eq] at f2
  exact ⟨by omega, itemB_low i1, itemB_low i2, ⟨by omega, by omega, by omega, by omega, ho.flags.1⟩, ⟨ho.add.1, ho.drop.1⟩, fun k hk => itemB_low ((List.all_eq_true.1 i3) k hk)⟩
theorem byte_app {l m : List Int} (h : Byte l) (h' : Byte m) : Byte (l ++ m) := fun c hc => (List.mem_append.1 hc).elim (h c) (h' c)
theorem byte_nil : Byte [] := fun c hc => by cases hc
theorem byte_one {a : Int} (h : 0 ≤ a ∧ a ≤ 255) : Byte [a] := fun c hc => by rw [List.mem_singleton] at hc; rw [hc]; exact h
theorem byte_flat {α : Type} {f : α → List Int} : ∀ {l : List α}, (∀ x ∈ l, Byte (f x)) → Byte (l.flatMap f)
  | [], _ => byte_nil
  | a :: l, h => by
    rw [List.flatMap_cons]
    exact byte_app (h a (by simp)) (byte_flat fun x hx => h x (by simp [hx]))
theorem numF_byte : ∀ f n : Nat, Byte (numF f n)
  | 0, n => byte_one (by omega)
  | f + 1, n => by
    rw [numF]
    split
    · exact byte_one (by omega)
    · exact byte_app (l := [_]) (byte_one (by omega)) (numF_byte f _)
theorem numB_byte (n : Int) : Byte (numB n) := numF_byte _ _
theorem strB_byte (s : ByteArray) : Byte (strB s) := fun c hc => by
  unfold strB at hc
  obtain ⟨u, -, rfl⟩ := List.mem_map.1 hc
  have := u.toNat_lt
  omega
theorem txtB_byte (s : ByteArray) : Byte (txtB s) := byte_app (numB_byte _) (strB_byte s)
theorem itB_byte {x : It} (h : 0 ≤ x.k) (h' : x.k ≤ 127) : Byte (itB x) := byte_app (byte_one (by omega)) (byte_app (numB_byte _) (byte_app (numB_byte _) (byte_app (numB_byte _) (numB_byte _))))
theorem partB_byte {x : Nd} (h : NdLow x) (f : NdFit x) (k : Nat) : Byte (partB x k) := by
  unfold partB
  split
  · exact byte_one ⟨h.kind, by have := f.kind; omega⟩
  · exact txtB_byte _
  · exact txtB_byte _
  · exact txtB_byte _
  · exact byte_app (numB_byte _) (byte_flat fun _ _ => numB_byte _)
  · exact itB_byte h.iw f.iw.k
  · exact itB_byte h.ih f.ih.k
  · exact numB_byte _
  · exact byte_app (numB_byte _) (byte_app (numB_byte _) (byte_app (numB_byte _) (numB_byte _)))
  · intro c hc
    have h1 := h.b
    have h2 := f.b
    simp only [List.mem_cons, List.not_mem_nil, or_false] at hc
    rcases hc with rfl | rfl | rfl | rfl | rfl <;> omega
  · refine byte_app (numB_byte _) (byte_app (numB_byte _) ?_)
    intro c hc
    have h1 := h.ad
    have h2 := f.ad
    simp only [List.mem_cons, List.not_mem_nil, or_false] at hc
    rcases hc with rfl | rfl <;> omega
  · exact byte_app (numB_byte _) (byte_flat fun y hy => itB_byte (h.cols y hy) (f.cols y hy).k)
  · exact byte_app (numB_byte _) (byte_app (numB_byte _) (byte_app (numB_byte _) (numB_byte _)))
theorem partsTo_byte {x : Nd} (h : NdLow x) (f : NdFit x) : ∀ k, Byte (partsTo x k)
  | 0 => byte_nil
  | k + 1 => byte_app (partsTo_byte h f k) (partB_byte h f k)
theorem headB_byte (n : Nat) : Byte (headB n) := byte_app (fun c hc => by
  simp only [List.mem_cons, List.not_mem_nil, or_false] at hc
  rcases hc with rfl | rfl | rfl <;> omega) (numB_byte _)
theorem encT_byte {T : List Nd} {b : List Int} (h : encT T = (b, 0)) (hok : ∀ x ∈ T, NdOk x) : Byte b := by
  obtain ⟨hc, rfl, -⟩ := encT_ok h
  exact byte_app (headB_byte _) (byte_flat fun x hx => partsTo_byte (check_low hc hok x hx) (check_fit hc hok x hx) 13)

theorem BytesAt.src {w : World} {p : Option Addr} {n c : Nat} {L : List Int} (h : BytesAt w (.slice p n c) L) : n = L.length ∧ Src w p n 1 (u8L L) := by
  obtain ⟨p', c', e, h1, h2, h4⟩ := h
  injection e with e1 e2 e3
  subst e1 e2 e3
  refine ⟨rfl, by simp [u8L], fun h0 => ?_⟩
  obtain ⟨b, off, e, hz, hc⟩ := h4 h0
  refine ⟨b, off, e, hz, fun j u hu => ?_⟩
  unfold u8L at hu
  rw [List.getElem?_map] at hu
  have hj : j < L.length := by
    by_cases hj : j < L.length
    · exact hj
    · rw [List.getElem?_eq_none (by omega)] at hu; cases hu
  rw [hc j hj, List.getD_eq_getElem?_getD]
  rw [List.getElem?_eq_getElem hj] at hu ⊢
  exact hu
theorem u8L_one (L : List Int) : ∀ u ∈ u8L L, u.oneCell' = true := fun u hu => by
  obtain ⟨a, _, rfl⟩ := List.mem_map.1 hu
  rfl
/-- the first bytes of a list -/
theorem bytes_cut {w : World} {g c n : Nat} {L : List Int} {k : Nat} (h : BytesAt w (.slice (some ⟨g, 0, none⟩) n c) L) (hk : k ≤ L.length) : BytesAt w (.slice (some ⟨g, 0, none⟩) k c) (L.take k) := by
  obtain ⟨p', c', e, h1, h2, h4⟩ := h
  injection e with e1 e2 e3
  subst e1 e2 e3
  have hl : (L.take k).length = k := by rw [List.length_take]; omega
  refine ⟨_, c, by rw [hl], by omega, h2, fun h0 => ?_⟩
  obtain ⟨b, off, e, hz, hc⟩ := h4 (by omega)
  refine ⟨b, off, e, hz, fun i hi => ?_⟩
  rw [hc i (by omega)]
  congr 2
  rw [List.getD_eq_getElem?_getD, List.getD_eq_getElem?_getD, List.getElem?_take_of_lt (by omega)]
set_option maxRecDepth 100000 in
set_option maxHeartbeats 8000000 in
theorem TreeBack_walk (pt : Option Addr) (ct : Nat) (T : List Nd) (cut : Int) (sv : Value) (M : List Int) (w : World) (hT : TreeAt w (.slice pt T.length ct) T) (hD : ∀ x ∈ T, NdDeep x) (hM : BytesAt w sv M) (hby : Byte8 M) (hcut : -9223372036854775808 ≤ cut ∧ cut ≤ 9223372036854775807) : Calls Try.prog 8 #[.agg #[.slice pt T.length ct], .int .i64 cut, sv] w fun e w' => e = .returned (.bool true) ∧ Below w.heap.size w w' := by
  have hok := hT.ok
  obtain ⟨i0, hi, hz0, hz1, hz2⟩ := info_parts infoU8_
  have HI := Lib.hid (And.intro hi (And.intro hz0 (And.intro hz1 hz2)))
  obtain ⟨w1, hw1⟩ : ∃ x, x = w.alloc (.cells #[.slice pt T.length ct] 24) := ⟨_, rfl⟩
  have B1 : Below w.heap.size w w1 := by rw [hw1]; exact below_al (Below.refl _ _) _
  have c1 : w1.cell? ⟨w.heap.size, 0, none⟩ = some (.slice pt T.length ct) := by rw [hw1]; simp [go_sem]
  have z1 : w.heap.size < w1.heap.size := by rw [hw1]; simp
  have HT1 := Lib.hid (hT.later B1)
  have HB1 := Lib.hid B1
  have HM := Lib.hid hM
  have HBY := Lib.hid hby
  have HOK := Lib.hid hok
  obtain ⟨pm, cm, rfl, hm1, hm2, -⟩ := hM
  obtain ⟨tb, htb⟩ : ∃ x, x = w.heap.size := ⟨_, rfl⟩
  have HC1 := Lib.hid c1
  have HCC := Lib.hid (fun w' (h : Below w1.heap.size w1 w') => show w'.cell? ⟨tb, 0, none⟩ = some (.slice pt T.length ct) by rw [htb, (bcell h).1 _ _ z1]; exact HC1.out)
  have HZZ := Lib.hid (fun w' (h : Below w1.heap.size w1 w') => show tb < w'.heap.size by have := h.size; omega)
  have HNB := Lib.hid (beyond_any pt ct T w1 HT1.out hD)
  rw [← htb] at c1 z1
  clear hi hz0 hz1 hz2 B1 hT hby hok hD
  go_enter Try.func8, Try.ntmps8
  go_upto_region 1 with (fail)
  rw [← hw1, ← htb]
  clear hw1 htb
  go_wp2_with fail
  refine HNB.out.mono ?_
  clear HNB
  rintro e w2 ⟨rfl, hb2⟩
  have c2 := HCC.out w2 hb2
  have z2 := HZZ.out w2 hb2
  have HB2 := Lib.hid hb2
  clear c1 z1 hb2
  by_cases hbig : 134217728 < sumW T
  · rw [decide_eq_true hbig]
    go_wp2
    go_ret
    exact ⟨rfl, below_via HB2.out HB1.out⟩
  · rw [decide_eq_false hbig]
    clear hbig
    go_wp2_with fail
    refine (tree_Check_any pt ct T w2 (HT1.out.later HB2.out)).mono ?_
    obtain ⟨e1, n1, hc⟩ : ∃ a b, checkT T = (a, b) := ⟨_, _, rfl⟩
    rw [hc]
    rintro e w3 ⟨rfl, hb3⟩
    have HB3 := Lib.hid (below_via hb3 HB2.out)
    have c3 := HCC.out w3 HB3.out
    have z3 := HZZ.out w3 HB3.out
    have HC := Lib.hid (congrArg Prod.fst hc)
    clear c2 z2 hb3 hc
    simp only at HC ⊢
    go_wp2_with fail
    refine (tree_Encode_any pt ct T w3 (HT1.out.later HB3.out)).mono ?_
    rintro e w4 ⟨v4, rfl, own, hb4⟩
    obtain ⟨b, f1, he⟩ : ∃ x y, encT T = (x, y) := ⟨_, _, rfl⟩
    rw [he] at own ⊢
    have HE := Lib.hid he
    have HB4 := Lib.hid (below_via hb4 HB3.out)
    have c4 := HCC.out w4 HB4.out
    have z4 := HZZ.out w4 HB4.out
    have hbl : b.length ≤ 140737488355328 := by
      by_cases h0 : f1 = 0
      · rw [h0] at he; have := (encT_ok he).2.2; omega
      · have := encT_no (T := T) (by rw [he]; exact h0)
        rw [he] at this
        simp only at this
        rw [this]; simp
    simp only at own ⊢
    obtain ⟨p4, k4, rfl⟩ := row_sl own
    have OWN := Lib.hid own
    clear c3 z3 hb4 own he
    by_cases hf : f1 = 0
    · subst hf
      have he1 : e1 = 0 := HC.out.symm.trans (encT_ok HE.out).1
      subst he1
      have HL := Lib.hid (encT_ok HE.out).2.2
      have EB := Lib.hid (enc_back HE.out HOK.out)
      have BB := Lib.hid (encT_byte HE.out HOK.out)
      have HBA := Lib.hid (row_bytes OWN.out)
      go_wp2_with fail
      refine (tree_Decode_any _ b w4 HBA.out BB.out).mono ?_
      rintro e w5 ⟨tv, kvs, cvs, rfl, own, hb5⟩
      rw [EB.out.1] at own ⊢
      simp only at own ⊢
      obtain ⟨pu, cu, rfl, hU⟩ := own.tree HOK.out
      have HB5 := Lib.hid (below_via hb5 HB4.out)
      have c5 := HCC.out w5 HB5.out
      have z5 := HZZ.out w5 HB5.out
      have HB45 := Lib.hid hb5
      obtain ⟨w6, hw6⟩ : ∃ x, x = w5.alloc (.cells #[.slice pu T.length cu] 24) := ⟨_, rfl⟩
      have B6 : Below w5.heap.size w5 w6 := by rw [hw6]; exact below_al (Below.refl _ _) _
      have d6 : w6.cell? ⟨w5.heap.size, 0, none⟩ = some (.slice pu T.length cu) := by rw [hw6]; simp [go_sem]
      have y6 : w5.heap.size < w6.heap.size := by rw [hw6]; simp
      have HU6 := Lib.hid (hU.later B6)
      have HB6 := Lib.hid (below_via B6 HB5.out)
      have HB46 := Lib.hid (below_via B6 HB45.out)
      have c6 := HCC.out w6 HB6.out
      have z6 := HZZ.out w6 HB6.out
      have hl2 : ¬ (1048576 : Int) < (b.length : Int) := by have := HL.out; omega
      clear c4 z4 own hb5 hU B6
      go_upto_region 8 with (fail)
      rw [← hw6]
      clear hw6 c5 z5
      go_wp2_with fail
      refine (law_same_any pu pt cu ct T w6 HU6.out (HT1.out.later HB6.out)).mono ?_
      rintro e w7 ⟨rfl, hb7⟩
      have HB7 := Lib.hid (below_via hb7 HB6.out)
      have HB47 := Lib.hid (below_via hb7 HB46.out)
      clear hb7 c6 z6 d6 y6 HU6
      go_upto_region 10 with (fail)
      clear hl2
      by_cases hcn : cut < 0
      · have hc0 : ¬ 0 ≤ cut := by omega
        clear hcn
        have hl := HL.out
        by_cases hm0 : M.length = 0
        · have hm0i : ¬ (0 : Int) < (M.length : Int) := by omega
          clear hm0 hl
          go_wp2_with fail
          refine (wakes_any _).mono ?_
          rintro e wf ⟨rfl, hbf⟩
          have BF := Lib.hid (below_via (below_via hbf HB7.out) HB1.out)
          clear hbf
          go_wp2
          go_ret
          exact ⟨rfl, BF.out⟩
        · have hm0i : (0 : Int) < (M.length : Int) := by omega
          by_cases hmm : b.length + M.length ≤ 1048576
          · have hmi : (M.length : Int) ≤ 1048576 - (b.length : Int) := by omega
            have HMM := Lib.hid hmm
            have HM0 := Lib.hid (show M ≠ [] from fun e => hm0 (by rw [e]; rfl))
            have SRB := Lib.hid (HBA.out.later HB47.out (Nat.le_refl _)).src.2
            have SRM := Lib.hid ((HM.out.later HB1.out (Nat.le_refl _)).later HB7.out (Nat.le_refl _)).src.2
            have OW0 := Lib.hid (show w7.ownsRow w7.heap.size 5 1 (.slice none 0 0) 0 [] from ⟨rfl, .inl ⟨rfl, rfl⟩⟩)
            clear hm0 hmm
            go_wp2_with (at_builtin; go_must (refine wpList_append_src _ rfl (.tmp 96) (.tmp 97) 36 rfl w7.heap.size 5 i0 _ 1 1 Try.underlying36 HI.out.1 HI.out.2.1 HI.out.2.2.1 HI.out.2.2.2 rfl (by decide) _ 0 [] rfl OW0.out _ b.length _ _ rfl SRB.out (u8L_one _) ?a1 ?a2 ?a3 ?_))
            case a1 => unfold maxLen; omega
            (try case a2 => omega)
            (try case a3 => exact Nat.le_refl _)
            intro v9 w9 own9 gr9 pl9
            (try simp only [List.nil_append, Nat.zero_add] at own9)
            have B9 : Below w7.heap.size w7 w9 := Below.grown (Below.refl _ _) gr9 (Nat.le_refl _) (fun g hg => by simp [Value.ownBlock] at hg)
            have SRM9 := Lib.hid (SRM.out.later B9 (Nat.le_refl _))
            have OW9 := Lib.hid own9
            have HB9 := Lib.hid B9
            have hv9 := Lib.hid (fun g hg => (row_lt own9 g hg).2)
            have hs9 := B9.size
            clear own9 gr9 pl9 OW0 SRB B9
            go_wp2_with (at_builtin; go_must (refine wpList_append_src _ rfl (.tmp 99) (.tmp 100) 36 rfl w7.heap.size 5 i0 _ 1 1 Try.underlying36 HI.out.1 HI.out.2.1 HI.out.2.2.1 HI.out.2.2.2 rfl (by decide) _ b.length _ rfl OW9.out _ M.length _ _ rfl SRM9.out (u8L_one _) ?a4 ?a5 ?a6 ?_))
            case a4 => unfold maxLen; omega
            (try case a5 => omega)
            (try case a6 => exact hs9)
            intro v10 w10 own10 gr10 pl10
            have B10 : Below w7.heap.size w7 w10 := Below.grown HB9.out gr10 hs9 hv9.out
            have HB10 := Lib.hid (below_via B10 HB7.out)
            rw [← u8L_app, ← List.length_append] at own10
            obtain ⟨bm, hbm⟩ : ∃ x, x = b ++ M := ⟨_, rfl⟩
            rw [← hbm] at own10
            have HBL := Lib.hid (row_bytes own10)
            obtain ⟨p10, k10, rfl⟩ := row_sl own10
            have BL := Lib.hid (show Byte bm by rw [hbm]; exact byte_app BB.out HBY.out)
            have EL := Lib.hid (show decT bm = ([], 100, (b.length : Int)) by rw [hbm]; exact EB.out.2.2 M HM0.out HMM.out)
            clear own10 gr10 pl10 OW9 SRM9 HB9 hv9 B10 hs9 hmi hl hbm
            go_wp2_with fail
            refine (tree_Decode_any _ bm w10 HBL.out BL.out).mono ?_
            rintro e w11 ⟨tv11, kvs11, cvs11, rfl, -, hb11⟩
            rw [EL.out]
            have HB11 := Lib.hid (below_via hb11 HB10.out)
            have hbb : ((b.length : Int) == (b.length : Int)) = true := by rw [beq_iff_eq]
            clear hb11 EL HBL BL HB10 hm0i
            simp only
            go_wp2_with fail
            refine (wakes_any _).mono ?_
            rintro e wf ⟨rfl, hbf⟩
            have BF := Lib.hid (below_via (below_via hbf HB11.out) HB1.out)
            clear hbf
            go_wp2
            go_ret
            exact ⟨rfl, BF.out⟩
          · have hmi : ¬ (M.length : Int) ≤ 1048576 - (b.length : Int) := by omega
            clear hm0 hmm
            go_wp2_with fail
            refine (wakes_any _).mono ?_
            rintro e wf ⟨rfl, hbf⟩
            have BF := Lib.hid (below_via (below_via hbf HB7.out) HB1.out)
            clear hbf
            go_wp2
            go_ret
            exact ⟨rfl, BF.out⟩
      · have hc0 : 0 ≤ cut := by omega
        by_cases hc1 : cut < (b.length : Int)
        · obtain ⟨k, rfl⟩ := Int.eq_ofNat_of_zero_le hc0
          have hkb : k < b.length := by omega
          obtain ⟨g, hg, hcap⟩ : ∃ g, p4 = some ⟨g, 0, none⟩ ∧ b.length ≤ k4 := by
            rcases row_form OWN.out with ⟨_, h0, _⟩ | ⟨g, c, e, h1, _⟩
            · omega
            · injection e with e1 _ e3
              exact ⟨g, e1, by omega⟩
          subst hg
          have HCUT := Lib.hid (bytes_cut (k := k) (HBA.out.later HB47.out (Nat.le_refl _)) (Nat.le_of_lt hkb))
          have BC := Lib.hid (byte_take BB.out k)
          have hlt : (b.take k).length = k := by rw [List.length_take]; omega
          have hck : (k : Int) ≤ (k4 : Int) := by omega
          have EC := Lib.hid (EB.out.2.1 k hkb)
          have HLT := Lib.hid hlt
          clear hcn hc0 hlt
          go_wp2_with fail
          refine (tree_Decode_any _ (b.take k) w7 HCUT.out BC.out).mono ?_
          rintro e w8 ⟨tv8, kvs8, cvs8, rfl, -, hb8⟩
          rw [EC.out]
          have HB8 := Lib.hid (below_via hb8 HB7.out)
          have HB48 := Lib.hid (below_via hb8 HB47.out)
          have hkk : ((k : Int) == (k : Int)) = true := by rw [beq_iff_eq]
          clear hb8 EC HCUT BC HLT HB7 HB47 hck hcap hkb hc1
          simp only
          go_upto_region 14 with (fail)
          clear hkk
          have hl := HL.out
          by_cases hm0 : M.length = 0
          · have hm0i : ¬ (0 : Int) < (M.length : Int) := by omega
            clear hm0 hl
            go_wp2_with fail
            refine (wakes_any _).mono ?_
            rintro e wf ⟨rfl, hbf⟩
            have BF := Lib.hid (below_via (below_via hbf HB8.out) HB1.out)
            clear hbf
            go_wp2
            go_ret
            exact ⟨rfl, BF.out⟩
          · have hm0i : (0 : Int) < (M.length : Int) := by omega
            by_cases hmm : b.length + M.length ≤ 1048576
            · have hmi : (M.length : Int) ≤ 1048576 - (b.length : Int) := by omega
              have HMM := Lib.hid hmm
              have HM0 := Lib.hid (show M ≠ [] from fun e => hm0 (by rw [e]; rfl))
              have SRB := Lib.hid (HBA.out.later HB48.out (Nat.le_refl _)).src.2
              have SRM := Lib.hid ((HM.out.later HB1.out (Nat.le_refl _)).later HB8.out (Nat.le_refl _)).src.2
              have OW0 := Lib.hid (show w8.ownsRow w8.heap.size 5 1 (.slice none 0 0) 0 [] from ⟨rfl, .inl ⟨rfl, rfl⟩⟩)
              clear hm0 hmm
              go_wp2_with (at_builtin; go_must (refine wpList_append_src _ rfl (.tmp 96) (.tmp 97) 36 rfl w8.heap.size 5 i0 _ 1 1 Try.underlying36 HI.out.1 HI.out.2.1 HI.out.2.2.1 HI.out.2.2.2 rfl (by decide) _ 0 [] rfl OW0.out _ b.length _ _ rfl SRB.out (u8L_one _) ?b1 ?b2 ?b3 ?_))
              case b1 => unfold maxLen; omega
              (try case b2 => omega)
              (try case b3 => exact Nat.le_refl _)
              intro v9 w9 own9 gr9 pl9
              (try simp only [List.nil_append, Nat.zero_add] at own9)
              have B9 : Below w8.heap.size w8 w9 := Below.grown (Below.refl _ _) gr9 (Nat.le_refl _) (fun g hg => by simp [Value.ownBlock] at hg)
              have SRM9 := Lib.hid (SRM.out.later B9 (Nat.le_refl _))
              have OW9 := Lib.hid own9
              have HB9 := Lib.hid B9
              have hv9 := Lib.hid (fun g hg => (row_lt own9 g hg).2)
              have hs9 := B9.size
              clear own9 gr9 pl9 OW0 SRB B9
              go_wp2_with (at_builtin; go_must (refine wpList_append_src _ rfl (.tmp 99) (.tmp 100) 36 rfl w8.heap.size 5 i0 _ 1 1 Try.underlying36 HI.out.1 HI.out.2.1 HI.out.2.2.1 HI.out.2.2.2 rfl (by decide) _ b.length _ rfl OW9.out _ M.length _ _ rfl SRM9.out (u8L_one _) ?b4 ?b5 ?b6 ?_))
              case b4 => unfold maxLen; omega
              (try case b5 => omega)
              (try case b6 => exact hs9)
              intro v10 w10 own10 gr10 pl10
              have B10 : Below w8.heap.size w8 w10 := Below.grown HB9.out gr10 hs9 hv9.out
              have HB10 := Lib.hid (below_via B10 HB8.out)
              rw [← u8L_app, ← List.length_append] at own10
              obtain ⟨bm, hbm⟩ : ∃ x, x = b ++ M := ⟨_, rfl⟩
              rw [← hbm] at own10
              have HBL := Lib.hid (row_bytes own10)
              obtain ⟨p10, k10, rfl⟩ := row_sl own10
              have BL := Lib.hid (show Byte bm by rw [hbm]; exact byte_app BB.out HBY.out)
              have EL := Lib.hid (show decT bm = ([], 100, (b.length : Int)) by rw [hbm]; exact EB.out.2.2 M HM0.out HMM.out)
              clear own10 gr10 pl10 OW9 SRM9 HB9 hv9 B10 hs9 hmi hl hbm
              go_wp2_with fail
              refine (tree_Decode_any _ bm w10 HBL.out BL.out).mono ?_
              rintro e w11 ⟨tv11, kvs11, cvs11, rfl, -, hb11⟩
              rw [EL.out]
              have HB11 := Lib.hid (below_via hb11 HB10.out)
              have hbb : ((b.length : Int) == (b.length : Int)) = true := by rw [beq_iff_eq]
              clear hb11 EL HBL BL HB10 hm0i
              simp only
              go_wp2_with fail
              refine (wakes_any _).mono ?_
              rintro e wf ⟨rfl, hbf⟩
              have BF := Lib.hid (below_via (below_via hbf HB11.out) HB1.out)
              clear hbf
              go_wp2
              go_ret
              exact ⟨rfl, BF.out⟩
            · have hmi : ¬ (M.length : Int) ≤ 1048576 - (b.length : Int) := by omega
              clear hm0 hmm
              go_wp2_with fail
              refine (wakes_any _).mono ?_
              rintro e wf ⟨rfl, hbf⟩
              have BF := Lib.hid (below_via (below_via hbf HB8.out) HB1.out)
              clear hbf
              go_wp2
              go_ret
              exact ⟨rfl, BF.out⟩
        · clear hcn
          have hl := HL.out
          by_cases hm0 : M.length = 0
          · have hm0i : ¬ (0 : Int) < (M.length : Int) := by omega
            clear hm0 hl
            go_wp2_with fail
            refine (wakes_any _).mono ?_
            rintro e wf ⟨rfl, hbf⟩
            have BF := Lib.hid (below_via (below_via hbf HB7.out) HB1.out)
            clear hbf
            go_wp2
            go_ret
            exact ⟨rfl, BF.out⟩
          · have hm0i : (0 : Int) < (M.length : Int) := by omega
            by_cases hmm : b.length + M.length ≤ 1048576
            · have hmi : (M.length : Int) ≤ 1048576 - (b.length : Int) := by omega
              have HMM := Lib.hid hmm
              have HM0 := Lib.hid (show M ≠ [] from fun e => hm0 (by rw [e]; rfl))
              have SRB := Lib.hid (HBA.out.later HB47.out (Nat.le_refl _)).src.2
              have SRM := Lib.hid ((HM.out.later HB1.out (Nat.le_refl _)).later HB7.out (Nat.le_refl _)).src.2
              have OW0 := Lib.hid (show w7.ownsRow w7.heap.size 5 1 (.slice none 0 0) 0 [] from ⟨rfl, .inl ⟨rfl, rfl⟩⟩)
              clear hm0 hmm
              go_wp2_with (at_builtin; go_must (refine wpList_append_src _ rfl (.tmp 96) (.tmp 97) 36 rfl w7.heap.size 5 i0 _ 1 1 Try.underlying36 HI.out.1 HI.out.2.1 HI.out.2.2.1 HI.out.2.2.2 rfl (by decide) _ 0 [] rfl OW0.out _ b.length _ _ rfl SRB.out (u8L_one _) ?c1 ?c2 ?c3 ?_))
              case c1 => unfold maxLen; omega
              (try case c2 => omega)
              (try case c3 => exact Nat.le_refl _)
              intro v9 w9 own9 gr9 pl9
              (try simp only [List.nil_append, Nat.zero_add] at own9)
              have B9 : Below w7.heap.size w7 w9 := Below.grown (Below.refl _ _) gr9 (Nat.le_refl _) (fun g hg => by simp [Value.ownBlock] at hg)
              have SRM9 := Lib.hid (SRM.out.later B9 (Nat.le_refl _))
              have OW9 := Lib.hid own9
              have HB9 := Lib.hid B9
              have hv9 := Lib.hid (fun g hg => (row_lt own9 g hg).2)
              have hs9 := B9.size
              clear own9 gr9 pl9 OW0 SRB B9
              go_wp2_with (at_builtin; go_must (refine wpList_append_src _ rfl (.tmp 99) (.tmp 100) 36 rfl w7.heap.size 5 i0 _ 1 1 Try.underlying36 HI.out.1 HI.out.2.1 HI.out.2.2.1 HI.out.2.2.2 rfl (by decide) _ b.length _ rfl OW9.out _ M.length _ _ rfl SRM9.out (u8L_one _) ?c4 ?c5 ?c6 ?_))
              case c4 => unfold maxLen; omega
              (try case c5 => omega)
              (try case c6 => exact hs9)
              intro v10 w10 own10 gr10 pl10
              have B10 : Below w7.heap.size w7 w10 := Below.grown HB9.out gr10 hs9 hv9.out
              have HB10 := Lib.hid (below_via B10 HB7.out)
              rw [← u8L_app, ← List.length_append] at own10
              obtain ⟨bm, hbm⟩ : ∃ x, x = b ++ M := ⟨_, rfl⟩
              rw [← hbm] at own10
              have HBL := Lib.hid (row_bytes own10)
              obtain ⟨p10, k10, rfl⟩ := row_sl own10
              have BL := Lib.hid (show Byte bm by rw [hbm]; exact byte_app BB.out HBY.out)
              have EL := Lib.hid (show decT bm = ([], 100, (b.length : Int)) by rw [hbm]; exact EB.out.2.2 M HM0.out HMM.out)
              clear own10 gr10 pl10 OW9 SRM9 HB9 hv9 B10 hs9 hmi hl hbm
              go_wp2_with fail
              refine (tree_Decode_any _ bm w10 HBL.out BL.out).mono ?_
              rintro e w11 ⟨tv11, kvs11, cvs11, rfl, -, hb11⟩
              rw [EL.out]
              have HB11 := Lib.hid (below_via hb11 HB10.out)
              have hbb : ((b.length : Int) == (b.length : Int)) = true := by rw [beq_iff_eq]
              clear hb11 EL HBL BL HB10 hm0i
              simp only
              go_wp2_with fail
              refine (wakes_any _).mono ?_
              rintro e wf ⟨rfl, hbf⟩
              have BF := Lib.hid (below_via (below_via hbf HB11.out) HB1.out)
              clear hbf
              go_wp2
              go_ret
              exact ⟨rfl, BF.out⟩
            · have hmi : ¬ (M.length : Int) ≤ 1048576 - (b.length : Int) := by omega
              clear hm0 hmm
              go_wp2_with fail
              refine (wakes_any _).mono ?_
              rintro e wf ⟨rfl, hbf⟩
              have BF := Lib.hid (below_via (below_via hbf HB7.out) HB1.out)
              clear hbf
              go_wp2
              go_ret
              exact ⟨rfl, BF.out⟩
    · have hb0 : b = [] := by
        have := encT_no (T := T) (by rw [HE.out]; exact hf)
        rw [HE.out] at this
        exact this
      subst hb0
      have hfb : (f1 == 0) = false := beq_eq_false_iff_ne.2 hf
      by_cases he1 : e1 = 0
      · subst he1
        clear hbl c4 z4 hf
        go_wp2_with fail
        refine (wakes_any _).mono ?_
        rintro e w5 ⟨rfl, hb5⟩
        have BF := Lib.hid (below_via (below_via hb5 HB4.out) HB1.out)
        clear hb5
        go_wp2
        go_ret
        exact ⟨rfl, BF.out⟩
      · have heb : (e1 == 0) = false := beq_eq_false_iff_ne.2 he1
        clear hbl c4 z4 hf he1 hfb
        go_wp2_with fail
        refine (wakes_any _).mono ?_
        rintro e w5 ⟨rfl, hb5⟩
        have BF := Lib.hid (below_via (below_via hb5 HB4.out) HB1.out)
        clear hb5
        go_wp2
        go_ret
        exact ⟨rfl, BF.out⟩
end Go.Proofs.Ytcihihncgpddfaa
