/- Trees: contracts of scroll.Above and of the reference's. -/
import Derived.Test.YtegdokchkblpiaaDwr
import Derived.Test.YtegdokchkblpiaaLntC
namespace Go.Proofs.Ytegdokchkblpiaa
open Go.RowKit Go.Deep
set_option linter.unusedVariables false
set_option linter.unusedSimpArgs false

/-- those that scroll, from q up -/
def upL (T : List Nd) (P : List Int) : Nat → Int → List Int
  | 0, _ => []
  | f + 1, q => if 0 ≤ q then (if (T.getD q.toNat zNd).kind = 6 then [q] else []) ++ upL T P f (P.getD q.toNat 0) else []
def aboveR (T : List Nd) (nd : Int) : List Int := if 0 ≤ nd ∧ nd < ((parL T).length : Int) then upL T (parL T) T.length ((parL T).getD nd.toNat 0) else []
theorem upL_low (T : List Nd) (P : List Int) (f : Nat) {q : Int} (h : q < 0) : upL T P f q = [] := by
  cases f with
  | zero => rfl
  | succ f => rw [upL, if_neg (by omega)]
theorem upL_len (T : List Nd) (P : List Int) : ∀ (f : Nat) (q : Int), (upL T P f q).length ≤ f
  | 0, q => Nat.le_refl _
  | f + 1, q => by
    rw [upL]
    have := upL_len T P f (P.getD q.toNat 0)
    split
    · rw [List.length_append]
      split
      · simp only [List.length_cons, List.length_nil]; omega
      · simp only [List.length_nil]; omega
    · simp
theorem upL_yes {T : List Nd} {P : List Int} {f k : Nat} (h : (T.getD k zNd).kind = 6) : upL T P (f + 1) (k : Int) = (k : Int) :: upL T P f (P.getD k 0) := by
  rw [upL, if_pos (by omega), Int.toNat_natCast, if_pos h]; rfl
theorem upL_no {T : List Nd} {P : List Int} {f k : Nat} (h : (T.getD k zNd).kind ≠ 6) : upL T P (f + 1) (k : Int) = upL T P f (P.getD k 0) := by
  rw [upL, if_pos (by omega), Int.toNat_natCast, if_neg h]; rfl
theorem aboveR_len (T : List Nd) (nd : Int) : (aboveR T nd).length ≤ T.length := by
  unfold aboveR
  split
  · exact upL_len _ _ _ _
  · simp
/-- parents lie below -/
theorem parL_low (T : List Nd) : (parL T).length ≤ T.length ∧ (parL T).length ≤ 4096 ∧ ((parL T).length ≠ 0 → (parL T).length = T.length) ∧ ∀ k, k < (parL T).length → -1 ≤ (parL T).getD k 0 ∧ (parL T).getD k 0 < k := by
  by_cases h : (checkT T).1 = 0
  · have hp := parL_is h
    have := (check_len h).2
    refine ⟨by rw [hp.len]; exact Nat.le_refl _, by rw [hp.len]; exact this, fun _ => hp.len, fun k hk => hp.low h (by rw [← hp.len]; exact hk)⟩
  · rw [parL_wrong h]
    exact ⟨by simp, by simp, fun h => absurd rfl h, fun k hk => by simp at hk⟩
theorem row_sink {w : World} {base base' : Nat} {t : TypeId} {k : Nat} {v : Value} {n : Nat} {xs : List Value} (h : w.ownsRow base t k v n xs) (hb : base' ≤ base) : w.ownsRow base' t k v n xs := by
  obtain ⟨hl, h | ⟨g, cap, cur, e, hb', hr⟩⟩ := h
  · exact ⟨hl, .inl h⟩
  · exact ⟨hl, .inr ⟨g, cap, cur, e, by omega, hr⟩⟩
theorem take_kind {T : List Nd} {P : List Int} {f k : Nat} {L A : List Int} (h : L ++ upL T P (f + 1) (k : Int) = A) : ((T.getD k zNd).kind = 6 → L ++ [(k : Int)] ++ upL T P f (P.getD k 0) = A) ∧ ((T.getD k zNd).kind ≠ 6 → L ++ upL T P f (P.getD k 0) = A) := by
  refine ⟨fun hk => ?_, fun hk => ?_⟩
  · rw [upL_yes hk] at h; rw [← h]; simp
  · rwa [upL_no hk] at h
set_option maxRecDepth 100000 in
set_option maxHeartbeats 16000000 in
theorem scroll_Above_any (p : Option Addr) (c : Nat) (T : List Nd) (nd : Int) (w : World) (hT : TreeAt w (.slice p T.length c) T) : Calls Try.prog 32 #[.agg #[.slice p T.length c], .int .i64 nd] w fun e w' => ∃ v, e = .returned v ∧ w'.ownsRow w.heap.size 3 1 v (aboveR T nd).length ((aboveR T nd).map (Value.int .i64)) ∧ Below w.heap.size w w' := by
  obtain ⟨i0, hi, hz0, hz1, hz2⟩ := info_parts infoInt_
  have HI := Lib.hid (And.intro hi (And.intro hz0 (And.intro hz1 hz2)))
  clear hi hz0 hz1 hz2
  have HT := Lib.hid hT
  have hlen := hT.len
  clear hT
  obtain ⟨hl1, hl2, hl3, hlow⟩ := parL_low T
  have HTP := Lib.hid (show aboveR T nd = if 0 ≤ nd ∧ nd < ((parL T).length : Int) then upL T (parL T) T.length ((parL T).getD nd.toNat 0) else [] from rfl)
  generalize aboveR T nd = A at *
  go_enter Try.func32, Try.ntmps32
  go_wp2_with fail
  refine (tree_Parents_any p c T _ (HT.out.later (by go_grown))).mono ?_
  generalize parL T = P at *
  have HLOW := Lib.hid hlow
  rintro e w1 ⟨v, rfl, own, hb1⟩
  have B1 : Below w.heap.size w w1 := below_via hb1 (by go_grown)
  have t1 := (hb1.block w.heap.size (by simp)).trans (heap_alloc_new _ _)
  have x1 := cell_of_one t1
  have z1 := lt_of_block t1
  obtain ⟨pp, pc, rfl, hpl, hpc, _, hpat⟩ := row_ints own
  have hnP : P.length ≤ 9223372036854775807 := by omega
  clear hb1 t1 own hlow
  by_cases hn : 0 ≤ nd ∧ nd < (P.length : Int)
  · obtain ⟨hn0, hn1⟩ := hn
    have HA := Lib.hid (show [] ++ upL T P T.length (P.getD nd.toNat 0) = A by rw [HTP.out, if_pos ⟨hn0, hn1⟩]; rfl)
    obtain ⟨n, rfl⟩ : ∃ n : Nat, nd = (n : Int) := ⟨nd.toNat, by omega⟩
    rw [Int.toNat_natCast] at HA
    have hnN : n < P.length := by omega
    have hTP := hl3 (by omega)
    obtain ⟨bk, ok, rfl, hbk, hpat⟩ := hpat (by omega)
    have HPC := Lib.hid hpat
    have pn := hpat n hnN
    obtain ⟨hq0, hqN⟩ := HLOW.out n hnN
    obtain ⟨q0, hq⟩ : ∃ z, z = P.getD n 0 := ⟨_, rfl⟩
    rw [← hq] at pn hq0 hqN HA
    replace hqN : q0 < (T.length : Int) := by omega
    clear hpat hq HTP
    go_wp2
    rename_i hgd KK aa
    clear hgd hn0 hn1 hnN
    go_loopw [7, 6] (fun i v wr => ∃ (q : Int) (f : Nat) (L : List Int), i = .int .i64 q ∧ -1 ≤ q ∧ q < (f : Int) ∧ L.length + f ≤ T.length ∧ RowKit.Hid (L ++ upL T P f q = A) ∧ RowKit.Hid (wr.ownsRow w1.heap.size 3 1 v L.length (L.map (Value.int .i64))) ∧ Below w1.heap.size w1 wr) (fun i _ _ => (intOf i + 1).toNat)
    case atStart => exact ⟨q0, T.length, [], rfl, hq0, hqN, by simp, HA, Lib.hid ⟨rfl, .inl ⟨rfl, rfl⟩⟩, Below.refl _ _⟩
    case round =>
      obtain ⟨q, f, L, rfl, hq1, hqf, hLf, HL, HO, BW⟩ := hrel
      have BWW := below_via BW B1
      have x0 : wr.cell? ⟨w.heap.size, 0, none⟩ = some (.slice p T.length c) := by rw [(bcell BW).1 _ _ z1]; exact x1
      have zw : w1.heap.size ≤ wr.heap.size := BW.size
      have z0 : w.heap.size < wr.heap.size := by omega
      by_cases h0 : 0 ≤ q
      · obtain ⟨k, rfl⟩ : ∃ k : Nat, q = (k : Int) := ⟨q.toNat, by omega⟩
        obtain ⟨f, rfl⟩ : ∃ g, f = g + 1 := ⟨f - 1, by omega⟩
        have hkN : k < T.length := by omega
        have hki : (k : Int) < (T.length : Int) := by omega
        have hkP : k < P.length := by omega
        have hkPi : (k : Int) < (P.length : Int) := by omega
        have hlow := HLOW.out k hkP
        obtain ⟨_, _, p', c', e, _, _, hnd⟩ := HT.out
        injection e with e1 _ e2
        subst e1 e2
        obtain ⟨b, off, rfl, hb, hnd⟩ := hnd (by omega)
        obtain ⟨kv, cv, hkv, hcv, hc⟩ := hnd k hkN
        have c0 : wr.cell? ⟨b, off + k * 34, none⟩ = some (.int .i8 (T.getD k zNd).kind) := by rw [(bcell BWW).1 _ _ hb]; exact hc 0 (by omega)
        have hbw : b < wr.heap.size := by have := BWW.size; omega
        have pk := HPC.out k hkP
        have HTK := take_kind HL.out
        obtain ⟨q', hq'⟩ : ∃ z, z = P.getD k 0 := ⟨_, rfl⟩
        rw [← hq'] at pk hlow HTK
        generalize (T.getD k zNd).kind = kd at *
        clear hnd hkv hcv hc hq' HL
        by_cases hkd : kd = 6
        · have d : (kd == 6) = true := by rw [beq_iff_eq]; exact hkd
          have HL2 := Lib.hid (HTK.1 hkd)
          have OWA := Lib.hid (row_later HO.out (below_al (Below.refl wr.heap.size wr) (.cells #[.int .i64 (k : Int)] 3)))
          have SRA := Lib.hid (src_new wr #[.int .i64 (k : Int)] 3 1 1 rfl)
          have hm : L.length + 1 ≤ maxLen := by unfold maxLen; omega
          clear HTK hkd
          go_wp2_with (at_builtin; go_must (refine wpList_append_src _ rfl (.tmp 35) (.tmp 37) 54 rfl w1.heap.size 3 i0 _ 1 8 Try.underlying54 HI.out.1 HI.out.2.1 HI.out.2.2.1 HI.out.2.2.2 rfl (by decide) _ L.length _ rfl OWA.out (some ⟨wr.heap.size, 0, none⟩) 1 1 _ rfl SRA.out ?h1 hm ?h2 ?h3 ?_))
          case h1 => first | rfl | (intro u hu; simp at hu; rcases hu with rfl; rfl)
          case h2 => omega
          case h3 => first | omega | (simp; omega)
          intro v' w' own' gr' _
          have HO' := Lib.hid (show w'.ownsRow w1.heap.size 3 1 v' (L ++ [(k : Int)]).length ((L ++ [(k : Int)]).map (Value.int .i64)) by
            rw [List.length_append, List.map_append]; exact own')
          have hlo := fun g hg => (row_lt HO.out g hg).2
          have B' : Below w1.heap.size w1 w' := Below.grown (below_al BW _) gr' (by simp; omega) hlo
          have pk' : w'.cell? ⟨bk, ok + k, none⟩ = some (.int .i64 q') := by rw [(bcell B').1 _ _ hbk]; exact pk
          have hbk' : bk < w'.heap.size := by have := B'.size; omega
          clear own' gr' OWA SRA HO hlo c0 hbw pk x0
          go_wp2
          go_roundw
          case rel => exact ⟨q', f, L ++ [(k : Int)], rfl, hlow.1, by omega, by simp; omega, HL2, HO', B'⟩
          case measure => simp [intOf]; omega
        · have d : (kd == 6) = false := by rw [beq_eq_false_iff_ne]; exact hkd
          have HL2 := Lib.hid (HTK.2 hkd)
          have pk' : wr.cell? ⟨bk, ok + k, none⟩ = some (.int .i64 q') := by rw [(bcell BW).1 _ _ hbk]; exact pk
          have hbk' : bk < wr.heap.size := by omega
          clear HTK hkd pk
          go_wp2
          go_roundw
          case rel => exact ⟨q', f, L, rfl, hlow.1, by omega, by omega, HL2, HO, BW⟩
          case measure => simp [intOf]; omega
      · have hq2 : q < 0 := by omega
        have HE := Lib.hid (show L = A by rw [← HL.out, upL_low _ _ _ hq2, List.append_nil])
        clear h0 HL
        go_wp2
        go_ret
        exact ⟨_, rfl, by rw [← HE.out]; exact row_sink HO.out (by omega), BWW⟩
  · have HA := Lib.hid (show A = [] by rw [HTP.out, if_neg hn])
    clear HTP hpat
    rcases (show nd < 0 ∨ (0 ≤ nd ∧ (P.length : Int) ≤ nd) by omega) with h | ⟨h, h'⟩
    · clear hn
      go_wp2
      go_ret
      exact ⟨_, rfl, by rw [HA.out]; exact ⟨rfl, .inl ⟨rfl, rfl⟩⟩, B1⟩
    · clear hn
      go_wp2
      go_ret
      exact ⟨_, rfl, by rw [HA.out]; exact ⟨rfl, .inl ⟨rfl, rfl⟩⟩, B1⟩
set_option maxRecDepth 100000 in
set_option maxHeartbeats 16000000 in
theorem ref_Above_any (p : Option Addr) (c : Nat) (T : List Nd) (nd : Int) (w : World) (hT : TreeAt w (.slice p T.length c) T) : Calls Try.prog 31 #[.agg #[.slice p T.length c], .int .i64 nd] w fun e w' => ∃ v, e = .returned v ∧ w'.ownsRow w.heap.size 3 1 v (aboveR T nd).length ((aboveR T nd).map (Value.int .i64)) ∧ Below w.heap.size w w' := by
  obtain ⟨i0, hi, hz0, hz1, hz2⟩ := info_parts infoInt_
  have HI := Lib.hid (And.intro hi (And.intro hz0 (And.intro hz1 hz2)))
  clear hi hz0 hz1 hz2
  have HT := Lib.hid hT
  have hlen := hT.len
  clear hT
  obtain ⟨hl1, hl2, hl3, hlow⟩ := parL_low T
  obtain ⟨cd, hcd⟩ : ∃ z, z = (checkT T).1 := ⟨_, rfl⟩
  have HTP := Lib.hid (show aboveR T nd = if 0 ≤ nd ∧ nd < ((parL T).length : Int) then upL T (parL T) T.length ((parL T).getD nd.toNat 0) else [] from rfl)
  have HLP := Lib.hid (show (cd = 0 → (parL T).length = T.length) ∧ (cd ≠ 0 → (parL T).length = 0) from ⟨fun h => (parL_is (hcd.symm.trans h)).len, fun h => by rw [parL_wrong (fun h' => h (hcd.trans h'))]; rfl⟩)
  have HCD := Lib.hid hcd
  generalize aboveR T nd = A at *
  clear hcd
  go_enter Try.func31, Try.ntmps31
  go_wp2_with fail
  refine (ref_Check_any p c T _ (HT.out.later (by go_grown))).mono ?_
  rw [← HCD.out]
  generalize (checkT T).2 = c2 at *
  rintro e w0 ⟨rfl, hb0⟩
  have B0 : Below w.heap.size w w0 := below_via hb0 (by go_grown)
  have t0 := (hb0.block w.heap.size (by simp)).trans (heap_alloc_new _ _)
  have x0 := cell_of_one t0
  have z0 := lt_of_block t0
  have T0 := Lib.hid t0
  clear hb0 t0
  by_cases hn : cd = 0 ∧ 0 ≤ nd ∧ nd < (T.length : Int)
  · obtain ⟨hc0, hn0, hn1⟩ := hn
    have k0 : (cd != 0) = false := by rw [bne_eq_false_iff_eq]; exact hc0
    have hTP := HLP.out.1 hc0
    have h1 : ¬ nd < 0 := by omega
    have h2 : ¬ (T.length : Int) ≤ nd := by omega
    have HN0 := Lib.hid hn0
    have HN1 := Lib.hid hn1
    go_upto_region 5 with (fail)
    rename_i hgd KK aa
    clear hgd
    clear hn0 hn1 h1 h2
    go_wp2_with fail
    refine (ref_Parents_any p c T _ (HT.out.later B0)).mono ?_
    generalize parL T = P at *
    have HLOW := Lib.hid hlow
    rintro e w1 ⟨v, rfl, own, hb1⟩
    have B1 : Below w.heap.size w w1 := below_via hb1 B0
    have t1 := (hb1.block w.heap.size z0).trans T0.out
    have x1 := cell_of_one t1
    have z1 := lt_of_block t1
    obtain ⟨pp, pc, rfl, hpl, hpc, _, hpat⟩ := row_ints own
    have hnP : P.length ≤ 9223372036854775807 := by omega
    clear hb1 t1 own hlow B0 T0 x0 z0
    have hn0 := HN0.out
    have hn1 := HN1.out
    have HA := Lib.hid (show [] ++ upL T P T.length (P.getD nd.toNat 0) = A by rw [HTP.out, if_pos ⟨hn0, by omega⟩]; rfl)
    obtain ⟨n, rfl⟩ : ∃ n : Nat, nd = (n : Int) := ⟨nd.toNat, by omega⟩
    rw [Int.toNat_natCast] at HA
    have hnN : n < P.length := by omega
    obtain ⟨bk, ok, rfl, hbk, hpat⟩ := hpat (by omega)
    have HPC := Lib.hid hpat
    have pn := hpat n hnN
    obtain ⟨hq0, hqN⟩ := HLOW.out n hnN
    obtain ⟨q0, hq⟩ : ∃ z, z = P.getD n 0 := ⟨_, rfl⟩
    rw [← hq] at pn hq0 hqN HA
    replace hqN : q0 < (T.length : Int) := by omega
    clear hpat hq HTP
    go_wp2
    clear hn0 hn1 hnN
    go_loopw [9, 5] (fun i v wr => ∃ (q : Int) (f : Nat) (L : List Int), i = .int .i64 q ∧ -1 ≤ q ∧ q < (f : Int) ∧ L.length + f ≤ T.length ∧ RowKit.Hid (L ++ upL T P f q = A) ∧ RowKit.Hid (wr.ownsRow w1.heap.size 3 1 v L.length (L.map (Value.int .i64))) ∧ Below w1.heap.size w1 wr) (fun i _ _ => (intOf i + 1).toNat)
    case atStart => exact ⟨q0, T.length, [], rfl, hq0, hqN, by simp, HA, Lib.hid ⟨rfl, .inl ⟨rfl, rfl⟩⟩, Below.refl _ _⟩
    case round =>
      obtain ⟨q, f, L, rfl, hq1, hqf, hLf, HL, HO, BW⟩ := hrel
      have BWW := below_via BW B1
      have x0 : wr.cell? ⟨w.heap.size, 0, none⟩ = some (.slice p T.length c) := by rw [(bcell BW).1 _ _ z1]; exact x1
      have zw : w1.heap.size ≤ wr.heap.size := BW.size
      have z0 : w.heap.size < wr.heap.size := by omega
      by_cases h0 : 0 ≤ q
      · obtain ⟨k, rfl⟩ : ∃ k : Nat, q = (k : Int) := ⟨q.toNat, by omega⟩
        obtain ⟨f, rfl⟩ : ∃ g, f = g + 1 := ⟨f - 1, by omega⟩
        have hkN : k < T.length := by omega
        have hki : (k : Int) < (T.length : Int) := by omega
        have hkP : k < P.length := by omega
        have hkPi : (k : Int) < (P.length : Int) := by omega
        have hlow := HLOW.out k hkP
        obtain ⟨_, _, p', c', e, _, _, hnd⟩ := HT.out
        injection e with e1 _ e2
        subst e1 e2
        obtain ⟨b, off, rfl, hb, hnd⟩ := hnd (by omega)
        obtain ⟨kv, cv, hkv, hcv, hc⟩ := hnd k hkN
        have c0 : wr.cell? ⟨b, off + k * 34, none⟩ = some (.int .i8 (T.getD k zNd).kind) := by rw [(bcell BWW).1 _ _ hb]; exact hc 0 (by omega)
        have hbw : b < wr.heap.size := by have := BWW.size; omega
        have pk := HPC.out k hkP
        have HTK := take_kind HL.out
        obtain ⟨q', hq'⟩ : ∃ z, z = P.getD k 0 := ⟨_, rfl⟩
        rw [← hq'] at pk hlow HTK
        generalize (T.getD k zNd).kind = kd at *
        clear hnd hkv hcv hc hq' HL
        by_cases hkd : kd = 6
        · have d : (kd == 6) = true := by rw [beq_iff_eq]; exact hkd
          have HL2 := Lib.hid (HTK.1 hkd)
          have OWA := Lib.hid (row_later HO.out (below_al (Below.refl wr.heap.size wr) (.cells #[.int .i64 (k : Int)] 3)))
          have SRA := Lib.hid (src_new wr #[.int .i64 (k : Int)] 3 1 1 rfl)
          have hm : L.length + 1 ≤ maxLen := by unfold maxLen; omega
          clear HTK hkd
          go_wp2_with (at_builtin; go_must (refine wpList_append_src _ rfl (.tmp 48) (.tmp 50) 54 rfl w1.heap.size 3 i0 _ 1 8 Try.underlying54 HI.out.1 HI.out.2.1 HI.out.2.2.1 HI.out.2.2.2 rfl (by decide) _ L.length _ rfl OWA.out (some ⟨wr.heap.size, 0, none⟩) 1 1 _ rfl SRA.out ?h1 hm ?h2 ?h3 ?_))
          case h1 => first | rfl | (intro u hu; simp at hu; rcases hu with rfl; rfl)
          case h2 => omega
          case h3 => first | omega | (simp; omega)
          intro v' w' own' gr' _
          have HO' := Lib.hid (show w'.ownsRow w1.heap.size 3 1 v' (L ++ [(k : Int)]).length ((L ++ [(k : Int)]).map (Value.int .i64)) by
            rw [List.length_append, List.map_append]; exact own')
          have hlo := fun g hg => (row_lt HO.out g hg).2
          have B' : Below w1.heap.size w1 w' := Below.grown (below_al BW _) gr' (by simp; omega) hlo
          have pk' : w'.cell? ⟨bk, ok + k, none⟩ = some (.int .i64 q') := by rw [(bcell B').1 _ _ hbk]; exact pk
          have hbk' : bk < w'.heap.size := by have := B'.size; omega
          clear own' gr' OWA SRA HO hlo c0 hbw pk x0
          go_wp2
          go_roundw
          case rel => exact ⟨q', f, L ++ [(k : Int)], rfl, hlow.1, by omega, by simp; omega, HL2, HO', B'⟩
          case measure => simp [intOf]; omega
        · have d : (kd == 6) = false := by rw [beq_eq_false_iff_ne]; exact hkd
          have HL2 := Lib.hid (HTK.2 hkd)
          have pk' : wr.cell? ⟨bk, ok + k, none⟩ = some (.int .i64 q') := by rw [(bcell BW).1 _ _ hbk]; exact pk
          have hbk' : bk < wr.heap.size := by omega
          clear HTK hkd pk
          go_wp2
          go_roundw
          case rel => exact ⟨q', f, L, rfl, hlow.1, by omega, by omega, HL2, HO, BW⟩
          case measure => simp [intOf]; omega
      · have hq2 : q < 0 := by omega
        have HE := Lib.hid (show L = A by rw [← HL.out, upL_low _ _ _ hq2, List.append_nil])
        clear h0 HL
        go_wp2
        go_ret
        exact ⟨_, rfl, by rw [← HE.out]; exact row_sink HO.out (by omega), BWW⟩
  · have HA := Lib.hid (show A = [] by
      rw [HTP.out]
      refine if_neg fun h => hn ?_
      by_cases hc : cd = 0
      · have := HLP.out.1 hc
        exact ⟨hc, h.1, by omega⟩
      · have := HLP.out.2 hc
        omega)
    clear HTP HLP
    rcases (show cd ≠ 0 ∨ (cd = 0 ∧ nd < 0) ∨ (cd = 0 ∧ 0 ≤ nd ∧ (T.length : Int) ≤ nd) by omega) with h | ⟨h, h'⟩ | ⟨h, h', h''⟩
    · have k0 : (cd != 0) = true := by rw [bne_iff_ne]; exact h
      clear hn
      go_wp2
      go_ret
      exact ⟨_, rfl, by rw [HA.out]; exact ⟨rfl, .inl ⟨rfl, rfl⟩⟩, B0⟩
    · have k0 : (cd != 0) = false := by rw [bne_eq_false_iff_eq]; exact h
      clear hn
      go_wp2
      go_ret
      exact ⟨_, rfl, by rw [HA.out]; exact ⟨rfl, .inl ⟨rfl, rfl⟩⟩, B0⟩
    · have k0 : (cd != 0) = false := by rw [bne_eq_false_iff_eq]; exact h
      clear hn
      go_wp2
      go_ret
      exact ⟨_, rfl, by rw [HA.out]; exact ⟨rfl, .inl ⟨rfl, rfl⟩⟩, B0⟩
end Go.Proofs.Ytegdokchkblpiaa
