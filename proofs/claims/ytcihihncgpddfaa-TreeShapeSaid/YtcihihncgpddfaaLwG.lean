/- TreeShape: the walk. -/
import Derived.Test.YtcihihncgpddfaaShp
import Derived.Test.YtcihihncgpddfaaLtZ
import Derived.Test.YtcihihncgpddfaaWkA
namespace Go.Proofs.Ytcihihncgpddfaa
open Go.RowKit Go.Deep
set_option linter.unusedVariables false
set_option linter.unusedSimpArgs false

theorem not_beyond {T : List Nd} (h : ¬ 134217728 < sumW T) : T.length ≤ 134217728 ∧ ∀ x ∈ T, x.kids.length ≤ 134217728 ∧ x.cols.length ≤ 134217728 := by
  have h1 := sumW_len T
  refine ⟨by omega, fun x hx => ?_⟩
  have := sumW_mem hx
  unfold wgt at this
  omega
theorem ints_of {w : World} {base n : Nat} {v : Value} {L : List Int} (h : w.ownsRow base 3 1 v L.length (L.map (Value.int .i64))) : ∃ p c, v = .slice p L.length c ∧ IntsAt w v L := by
  have hi := row_ints h
  obtain ⟨p, c, rfl, h'⟩ := hi
  exact ⟨p, c, rfl, p, c, rfl, h'⟩
/-- two lists of the call's own -/
structure ShS (w W : World) (v8 v9 : Value) (PL LA : List Int) : Prop where
  be : Below w.heap.size w W
  pr : W.ownsRow w.heap.size 3 1 v8 PL.length (PL.map (Value.int .i64))
  lr : W.ownsRow w.heap.size 3 1 v9 LA.length (LA.map (Value.int .i64))
  ne : ∀ q, v8.ownBlock = some q → v9.ownBlock ≠ some q
section
variable {w W W1 W2 : World} {v8 v9 v' : Value} {PL LA : List Int}
theorem ShS.later (h : ShS w W v8 v9 PL LA) (hb : Below W.heap.size W W1) : ShS w W1 v8 v9 PL LA := ⟨below_via hb h.be, row_later h.pr hb, row_later h.lr hb, h.ne⟩
theorem ShS.swap (h : ShS w W v8 v9 PL LA) : ShS w W v9 v8 LA PL := ⟨h.be, h.lr, h.pr, fun q a b => h.ne q b a⟩
theorem ShS.push (h0 : ShS w W v8 v9 PL LA) (hb : Below W.heap.size W W1) {x : Int} {m : Nat} {xs : List Value} (own : W2.ownsRow w.heap.size 3 1 v' m xs) (hm : m = PL.length + 1) (hxs : xs = PL.map (Value.int .i64) ++ [.int .i64 x]) (gr : W1.grownBy W2 v8.ownBlock) (pl : v'.ownBlock = v8.ownBlock ∨ v'.ownBlock = some W1.heap.size) : ShS w W2 v' v9 (PL ++ [x]) LA := by
  have h := h0.later hb
  subst hm hxs
  refine ⟨Below.grown h.be gr h.be.size (fun g hg => (row_lt h.pr g hg).2), by rw [List.length_append, List.map_append]; exact own, h.lr.kept gr ((Option.eq_none_or_eq_some v9.ownBlock).elim .inl (fun ⟨a, e⟩ => .inr (fun e' => h.ne a (by rw [← e', e]) e))), fun q hq e => ?_⟩
  rcases pl with p | p
  · exact h.ne q (p ▸ hq) e
  · rw [p] at hq
    injection hq with hq
    have := (row_lt h.lr q e).1
    omega
theorem ShS.set {g c : Nat} (h : ShS w W (.slice (some ⟨g, 0, none⟩) PL.length c) v9 PL LA) (j : Nat) (x : Int) : ShS w (W.setCell ⟨g, j, none⟩ (.int .i64 x)) (.slice (some ⟨g, 0, none⟩) (PL.set j x).length c) v9 (PL.set j x) LA := by
  obtain ⟨own, gr⟩ := h.pr.stored j (.int .i64 x)
  refine ⟨h.be.setCell (p := ⟨g, j, none⟩) (row_lt h.pr g rfl).2 _, ?_, h.lr.kept gr ((Option.eq_none_or_eq_some v9.ownBlock).elim .inl (fun ⟨a, e⟩ => .inr (fun e' => h.ne a (by rw [← e]; exact e'.symm ▸ rfl) e))), ?_⟩
  · rw [List.map_set, List.length_set]; exact own
  · rw [List.length_set]; exact h.ne
end
theorem cell_ints {w : World} {base g c n : Nat} {t : TypeId} {L : List Int} (h : w.ownsRow base t 1 (.slice (some ⟨g, 0, none⟩) n c) n (L.map (Value.int .i64))) {j : Nat} (hj : j < L.length) : w.cell? ⟨g, j, none⟩ = some (.int .i64 (L.getD j 0)) := by
  have := row_cells h j (.int .i64 (L.getD j 0)) (by rw [List.getElem?_map, List.getD_eq_getElem?_getD, List.getElem?_eq_getElem hj]; rfl)
  rwa [Nat.zero_add] at this
theorem getD_set {L : List Int} {i j : Nat} {x : Int} (hj : j < L.length) : (L.set j x).getD i 0 = if i = j then x else L.getD i 0 := by
  rw [List.getD_eq_getElem?_getD, List.getD_eq_getElem?_getD, List.getElem?_set]
  by_cases e : j = i
  · subst e; rw [if_pos rfl, if_pos rfl, if_pos hj]; rfl
  · rw [if_neg e, if_neg (Ne.symm e)]
set_option maxRecDepth 100000 in
set_option maxHeartbeats 8000000 in
theorem TreeShape_walk (pt : Option Addr) (ct : Nat) (T : List Nd) (w : World) (hT : TreeAt w (.slice pt T.length ct) T) (hD : ∀ x ∈ T, NdDeep x) : Calls Try.prog 12 #[.agg #[.slice pt T.length ct]] w fun e w' => e = .returned (.bool true) ∧ Below w.heap.size w w' := by
  obtain ⟨j0, hj, hy0, hy1, hy2⟩ := info_parts infoInt_
  have HJ := Lib.hid (And.intro hj (And.intro hy0 (And.intro hy1 hy2)))
  clear hj hy0 hy1 hy2
  have HOK := Lib.hid hT.ok
  obtain ⟨w1, hw1⟩ : ∃ x, x = w.alloc (.cells #[.slice pt T.length ct] 24) := ⟨_, rfl⟩
  have B1 : Below w.heap.size w w1 := by rw [hw1]; exact below_al (Below.refl _ _) _
  have c1 : w1.cell? ⟨w.heap.size, 0, none⟩ = some (.slice pt T.length ct) := by rw [hw1]; simp [go_sem]
  have z1 : w.heap.size < w1.heap.size := by rw [hw1]; simp <;> omega
  have HT1 := Lib.hid (hT.later B1)
  have HB1 := Lib.hid B1
  obtain ⟨tb, htb⟩ : ∃ x, x = w.heap.size := ⟨_, rfl⟩
  have HC1 := Lib.hid c1
  have HCC := Lib.hid (fun w' (h : Below w1.heap.size w1 w') => show w'.cell? ⟨tb, 0, none⟩ = some (.slice pt T.length ct) by rw [htb, (bcell h).1 _ _ z1]; exact HC1.out)
  have HZZ := Lib.hid (fun w' (h : Below w1.heap.size w1 w') => show tb < w'.heap.size by have := h.size; omega)
  have HNB := Lib.hid (beyond_any pt ct T w1 HT1.out hD)
  rw [← htb] at c1 z1
  clear B1 hT hD
  go_enter Try.func12, Try.ntmps12
  go_upto_region 1 with (fail)
  rw [← hw1, ← htb]
  clear hw1 htb
  go_wp2_with fail
  refine HNB.out.mono ?_
  clear HNB
  rintro e w2 ⟨rfl, hb2⟩
  have c2 := HCC.out w2 hb2
  have z2 := HZZ.out w2 hb2
  have HB2 := Lib.hid hb2
  clear c1 z1 hb2
  by_cases hbig : 134217728 < sumW T
  · rw [decide_eq_true hbig]
    go_wp2
    go_ret
    exact ⟨rfl, below_via HB2.out HB1.out⟩
  · rw [decide_eq_false hbig]
    have HNK := Lib.hid (not_beyond hbig)
    clear hbig
    obtain ⟨e1, n1, hc⟩ : ∃ a b, checkT T = (a, b) := ⟨_, _, rfl⟩
    have HC := Lib.hid hc
    have HAT := Lib.hid (checkT_at T)
    rw [hc] at HAT
    clear hc
    go_wp2_with fail
    refine (tree_Check_any pt ct T w2 (HT1.out.later HB2.out)).mono ?_
    rw [HC.out]
    rintro e w3 ⟨rfl, hb3⟩
    have HB3 := Lib.hid (below_via hb3 HB2.out)
    have c3 := HCC.out w3 HB3.out
    have z3 := HZZ.out w3 HB3.out
    clear hb3 c2 z2
    simp only
    obtain ⟨P, hP⟩ : ∃ x, x = parL T := ⟨_, rfl⟩
    obtain ⟨O, hO⟩ : ∃ x, x = ordL T := ⟨_, rfl⟩
    have EP := Lib.hid hP
    have EO := Lib.hid hO
    clear hP hO
    go_wp2_with fail
    refine (tree_Parents_any pt ct T w3 (HT1.out.later HB3.out)).mono ?_
    rw [← EP.out]
    rintro e w4 ⟨vp, rfl, ownp, hb4⟩
    have HB4 := Lib.hid (below_via hb4 HB3.out)
    have c4 := HCC.out w4 HB4.out
    have z4 := HZZ.out w4 HB4.out
    obtain ⟨pp, kp, rfl, -⟩ := ints_of (n := 0) ownp
    have OP4 := Lib.hid ownp
    clear hb4 c3 z3 ownp
    go_wp2_with fail
    refine (tree_Order_any pt ct T w4 (HT1.out.later HB4.out)).mono ?_
    rw [← EO.out]
    rintro e w5 ⟨vo, rfl, owno, hb5⟩
    have HB5 := Lib.hid (below_via hb5 HB4.out)
    have c5 := HCC.out w5 HB5.out
    have z5 := HZZ.out w5 HB5.out
    obtain ⟨po, ko, rfl, -⟩ := ints_of (n := 0) owno
    have OO5 := Lib.hid owno
    have OP5 := Lib.hid (row_later OP4.out hb5)
    clear hb5 c4 z4 owno OP4
    rcases HAT.out with ⟨h0, hp⟩ | ⟨h0, m, hm, hn1⟩
    · injection h0 with h1 h2
      subst h1 h2
      have hck : (checkT T).1 = 0 := by rw [HC.out]
      have hPl : P.length = T.length := by rw [EP.out]; exact (parL_is hck).len
      have hOl : O.length = T.length := by rw [EO.out, ordL_len, ordN_len hck]
      have hlen := (check_len hck).2
      have HPL := Lib.hid hPl
      have HOL := Lib.hid hOl
      have HCK := Lib.hid hck
      obtain ⟨gp, hgp⟩ : ∃ g, pp = some ⟨g, 0, none⟩ := by
        rcases row_form OP5.out with ⟨_, h0, _⟩ | ⟨g, c, h1, _⟩
        · omega
        · injection h1 with h1; exact ⟨g, h1⟩
      obtain ⟨go, hgo⟩ : ∃ g, po = some ⟨g, 0, none⟩ := by
        rcases row_form OO5.out with ⟨_, h0, _⟩ | ⟨g, c, h1, _⟩
        · omega
        · injection h1 with h1; exact ⟨g, h1⟩
      subst hgp hgo
      have p0 : w5.cell? ⟨gp, 0, none⟩ = some (.int .i64 (-1)) := by rw [cell_ints OP5.out (by omega), EP.out, (parL_is hck).root]
      have o0 : w5.cell? ⟨go, 0, none⟩ = some (.int .i64 0) := by
        rw [cell_ints OO5.out (by omega)]
        obtain ⟨q, hq, _, hq2⟩ := ordL_get (T := T) (i := 0) (by rw [← EO.out]; omega)
        have : q = 0 := by
          have h1 := AtT.get hck hp (plT_at hck hp)
          rw [plT_zero hck, hq2] at h1
          injection h1
        rw [EO.out, hq, this]; rfl
      have zp : gp < w5.heap.size := (row_lt OP5.out gp rfl).1
      have zo : go < w5.heap.size := (row_lt OO5.out go rfl).1
      have hpi : (0 : Int) < (T.length : Int) := by omega
      rw [hPl] at OP5 ⊢
      rw [hOl] at OO5 ⊢
      have bn : ((T.length : Int) == (T.length : Int)) = true := by rw [beq_iff_eq]
      clear hck hPl hOl HAT
      go_upto_region 12 with (fail)
      clear bn p0 o0
      have S0 := Lib.hid (show ShS w5 w5 (.slice none 0 0) (.slice none 0 0) (List.replicate 0 (-1)) (List.replicate 0 0) from ⟨Below.refl _ _, ⟨rfl, .inl ⟨rfl, rfl⟩⟩, ⟨rfl, .inl ⟨rfl, rfl⟩⟩, fun q h => by cases h⟩)
      go_wp2
      go_loopw [8, 9, 10] (fun v8 v9 iv wr => ∃ k : Nat, k ≤ T.length ∧ iv = .int .i64 k ∧ RowKit.Hid (ShS w5 wr v8 v9 (List.replicate k (-1)) (List.replicate k 0))) (fun _ _ iv _ => T.length - (intOf iv).toNat)
      case atStart => exact ⟨0, Nat.zero_le _, rfl, S0⟩
      case round =>
        clear S0 c5 z5
        obtain ⟨k, hk, rfl, HS⟩ := hrel
        by_cases hlt : k < T.length
        · have hki : (k : Int) < (T.length : Int) := by omega
          have BA : Below wr.heap.size wr (wr.alloc (.cells #[.int .i64 (-1)] 3)) := below_al (Below.refl _ _) _
          have HBA := Lib.hid BA
          have rw8 := row_later HS.out.pr BA
          rw [List.length_replicate] at rw8
          have OW := Lib.hid rw8
          have SR := Lib.hid (src_new wr #[.int .i64 (-1)] 3 1 1 rfl)
          have hkm : k + 1 ≤ maxLen := by unfold maxLen; omega
          have hz : w5.heap.size ≤ wr.heap.size := HS.out.be.size
          clear rw8 BA
          go_wp2_with (at_builtin; go_must (refine wpList_append_src _ rfl (.tmp 89) (.tmp 90) 45 rfl w5.heap.size 3 j0 _ 1 8 Try.underlying45 HJ.out.1 HJ.out.2.1 HJ.out.2.2.1 HJ.out.2.2.2 rfl (by decide) _ k _ rfl OW.out (some ⟨wr.heap.size, 0, none⟩) 1 1 _ rfl SR.out ?h1 hkm ?h2 ?h3 ?_))
          case h1 => first | rfl | (intro u hu; simp at hu; subst hu; rfl)
          case h2 => omega
          case h3 => first | omega | (simp; omega)
          intro v6 w6 own6 gr6 pl6
          have S6 := ShS.push HS.out HBA.out (x := -1) own6 (by rw [List.length_replicate]) (by simp) (by simpa using gr6) (by rw [World.size_alloc]; exact pl6)
          have BB : Below w6.heap.size w6 (w6.alloc (.cells #[.int .i64 0] 3)) := below_al (Below.refl _ _) _
          have HBB := Lib.hid BB
          have rw9 := row_later S6.lr BB
          rw [List.length_replicate] at rw9
          have OX := Lib.hid rw9
          have SX := Lib.hid (src_new w6 #[.int .i64 0] 3 1 1 rfl)
          have hz6 : w5.heap.size ≤ w6.heap.size := S6.be.size
          have HS6 := Lib.hid S6
          clear rw9 BB S6 own6 gr6 pl6 HS OW SR HBA hz
          go_wp2_with (at_builtin; go_must (refine wpList_append_src _ rfl (.tmp 92) (.tmp 93) 45 rfl w5.heap.size 3 j0 _ 1 8 Try.underlying45 HJ.out.1 HJ.out.2.1 HJ.out.2.2.1 HJ.out.2.2.2 rfl (by decide) _ k _ rfl OX.out (some ⟨w6.heap.size, 0, none⟩) 1 1 _ rfl SX.out ?i1 hkm ?i2 ?i3 ?_))
          case i1 => first | rfl | (intro u hu; simp at hu; subst hu; rfl)
          case i2 => omega
          case i3 => first | omega | (simp; omega)
          intro v7 w7 own7 gr7 pl7
          have S7 := ShS.push HS6.out.swap HBB.out (x := 0) own7 (by rw [List.length_replicate]) (by simp) (by simpa using gr7) (by rw [World.size_alloc]; exact pl7)
          have HS7 := Lib.hid (show ShS w5 w7 v6 v7 (List.replicate (k + 1) (-1)) (List.replicate (k + 1) 0) by rw [List.replicate_succ', List.replicate_succ']; exact S7.swap)
          clear S7 own7 gr7 pl7 HS6 OX SX HBB hz6
          go_wp2
          go_roundw
          case rel => exact ⟨k + 1, by omega, by go_num, HS7⟩
          case measure => simp [intOf]; omega
        · obtain rfl : k = T.length := by omega
          clear hlt hk
          obtain ⟨g8, c8, rfl, h81⟩ : ∃ g c, u8 = .slice (some ⟨g, 0, none⟩) T.length c ∧ T.length ≤ c := by
            have := HS.out.pr
            rw [List.length_replicate] at this
            rcases row_form this with ⟨_, h0, _⟩ | ⟨g, c, h1, h2, _⟩
            · omega
            · exact ⟨g, c, h1, h2⟩
          obtain ⟨g9, c9, rfl, h91⟩ : ∃ g c, u9 = .slice (some ⟨g, 0, none⟩) T.length c ∧ T.length ≤ c := by
            have := HS.out.lr
            rw [List.length_replicate] at this
            rcases row_form this with ⟨_, h0, _⟩ | ⟨g, c, h1, h2, _⟩
            · omega
            · exact ⟨g, c, h1, h2⟩
          have HOO := Lib.hid (fun w' (h : Below w5.heap.size w5 w') => row_later OO5.out h)
          have HPP := Lib.hid (fun w' (h : Below w5.heap.size w5 w') => row_later OP5.out h)
          have HA2 := Lib.hid (show (List.replicate T.length (-1 : Int)).length = T.length ∧ (∀ (j i : Nat), j < 0 → (ordN T)[j]? = some i → (List.replicate T.length (-1 : Int)).getD i 0 = (j : Int)) ∧ (∀ i, i < T.length → (∀ j, j < 0 → (ordN T)[j]? ≠ some i) → (List.replicate T.length (-1 : Int)).getD i 0 = -1) from ⟨List.length_replicate .., fun j i h => absurd h (Nat.not_lt_zero _), fun i hi _ => by rw [List.getD_eq_getElem?_getD, List.getElem?_replicate, if_pos hi]; rfl⟩)
          have HS0 := Lib.hid HS.out
          clear HS OO5 OP5 h81 h91
          obtain ⟨wo, rfl⟩ : ∃ wo : World, wo = wr := ⟨_, rfl⟩
          go_wp2
          go_loopw [11] (fun iv wr => ∃ k : Nat, ∃ PL : List Int, k ≤ T.length ∧ iv = .int .i64 k ∧ RowKit.Hid (ShS w5 wr (.slice (some ⟨g8, 0, none⟩) T.length c8) (.slice (some ⟨g9, 0, none⟩) T.length c9) PL (List.replicate T.length 0)) ∧ RowKit.Hid (PL.length = T.length ∧ (∀ (j i : Nat), j < k → (ordN T)[j]? = some i → PL.getD i 0 = (j : Int)) ∧ (∀ i, i < T.length → (∀ j, j < k → (ordN T)[j]? ≠ some i) → PL.getD i 0 = -1))) (fun iv _ => T.length - (intOf iv).toNat)
          case atStart => exact ⟨0, _, Nat.zero_le _, rfl, HS0, HA2⟩
          case round =>
            clear HS0 HA2
            obtain ⟨k, PL, hk, rfl, HS, HA⟩ := hrel
            by_cases hlt : k < T.length
            · have hki : (k : Int) < (T.length : Int) := by omega
              obtain ⟨q, hq1, hq2, hq3⟩ := ordL_get (T := T) (i := k) (by rw [← EO.out, HOL.out]; exact hlt)
              have OO := HOO.out wr HS.out.be
              have ok : wr.cell? ⟨go, k, none⟩ = some (.int .i64 (q : Int)) := by rw [cell_ints OO (by rw [HOL.out]; exact hlt), EO.out, hq1]
              have hpr := HS.out.pr
              rw [HA.out.1] at hpr
              have pq : wr.cell? ⟨g8, q, none⟩ = some (.int .i64 (-1)) := by
                rw [cell_ints hpr (by rw [HA.out.1]; exact hq2), HA.out.2.2 q hq2 (fun j hj e => by have := get_one e hq3; omega)]
              have pf : wr.frozen? ⟨g8, q, none⟩ = false := hpr.frozenAt _
              have z8 := (row_lt hpr g8 rfl).1
              have zo := (row_lt OO go rfl).1
              have hqi : (q : Int) < (T.length : Int) := by omega
              have hq0 : ¬ (q : Int) < 0 := by omega
              have hq4 : ¬ (T.length : Int) ≤ (q : Int) := by omega
              have S2 := ShS.set (g := g8) (c := c8) (by rw [HA.out.1]; exact HS.out) q (k : Int)
              rw [List.length_set, HA.out.1] at S2
              have HS2 := Lib.hid S2
              have HA2 := Lib.hid (show (PL.set q (k : Int)).length = T.length ∧ (∀ (j i : Nat), j < k + 1 → (ordN T)[j]? = some i → (PL.set q (k : Int)).getD i 0 = (j : Int)) ∧ (∀ i, i < T.length → (∀ j, j < k + 1 → (ordN T)[j]? ≠ some i) → (PL.set q (k : Int)).getD i 0 = -1) from by
                have hl : q < PL.length := by rw [HA.out.1]; exact hq2
                refine ⟨by rw [List.length_set]; exact HA.out.1, fun j i hj e => ?_, fun i hi he => ?_⟩
                · rw [getD_set hl]
                  by_cases e2 : i = q
                  · subst e2; rw [if_pos rfl, get_one e hq3]
                  · rw [if_neg e2]
                    refine HA.out.2.1 j i ?_ e
                    rcases (show j < k ∨ j = k by omega) with h | h
                    · exact h
                    · subst h; rw [hq3] at e; injection e with e; exact absurd e.symm e2
                · rw [getD_set hl, if_neg (fun e => he k (by omega) (by rw [hq3, e]))]
                  exact HA.out.2.2 i hi (fun j hj => he j (by omega)))
              clear hpr OO S2 HS HA hq1 hq3
              go_wp2
              go_roundw
              case rel => exact ⟨k + 1, _, by omega, by go_num, HS2, HA2⟩
              case measure => simp [intOf]; omega
            · obtain rfl : k = T.length := by omega
              clear hlt hk
              have HPQ := Lib.hid (show PL.length = T.length ∧ ∀ i, i < T.length → PL.getD i 0 = (plT T i : Int) from ⟨HA.out.1, fun i hi => by
                have h1 := AtT.get HCK.out hi (plT_at HCK.out hi)
                refine HA.out.2.1 _ i ?_ h1
                have := (List.getElem?_eq_some_iff.1 h1).1
                rw [ordN_len HCK.out] at this
                exact this⟩)
              have HLA := Lib.hid (show (List.replicate T.length (0 : Int)).length = T.length ∧ ∀ i : Nat, ((T.length : Int) - 1) < (i : Int) → i < T.length → (List.replicate T.length (0 : Int)).getD i 0 = (plT T i : Int) + ((subT T i).length : Int) - 1 from ⟨List.length_replicate .., fun i h1 h2 => by omega⟩)
              have HS1 := Lib.hid HS.out
              clear HS HA
              obtain ⟨wq, rfl⟩ : ∃ wq : World, wq = wr := ⟨_, rfl⟩
              go_upto_region 24 with (fail)
              go_loopw [12] (fun iv wr => ∃ z : Int, ∃ LA : List Int, -1 ≤ z ∧ z < (T.length : Int) ∧ iv = .int .i64 z ∧ RowKit.Hid (ShS w5 wr (.slice (some ⟨g8, 0, none⟩) T.length c8) (.slice (some ⟨g9, 0, none⟩) T.length c9) PL LA) ∧ RowKit.Hid (LA.length = T.length ∧ ∀ i : Nat, z < (i : Int) → i < T.length → LA.getD i 0 = (plT T i : Int) + ((subT T i).length : Int) - 1)) (fun iv _ => (intOf iv + 1).toNat)
              case atStart => exact ⟨(T.length : Int) - 1, _, by omega, by omega, by go_num, HS1, HLA⟩
              case round =>
                clear HS1 HLA
                obtain ⟨z, LA, hz1, hz2, rfl, HS, HA⟩ := hrel
                have hpr := HS.out.pr
                rw [HPQ.out.1] at hpr
                have hlr := HS.out.lr
                rw [HA.out.1] at hlr
                have BR := Lib.hid HS.out.be
                have z8 := (row_lt hpr g8 rfl).1
                have z9 := (row_lt hlr g9 rfl).1
                by_cases hz0 : 0 ≤ z
                · obtain ⟨t, rfl⟩ := Int.eq_ofNat_of_zero_le hz0
                  have htl : t < T.length := by omega
                  have PP := HPP.out wr BR.out
                  have zp := (row_lt PP gp rfl).1
                  have pa : wr.cell? ⟨gp, t, none⟩ = some (.int .i64 (P.getD t 0)) := cell_ints PP (by rw [HPL.out]; exact htl)
                  have pl : wr.cell? ⟨g8, t, none⟩ = some (.int .i64 (plT T t : Int)) := by rw [cell_ints hpr (by rw [HPQ.out.1]; exact htl), HPQ.out.2 t htl]
                  have la : wr.cell? ⟨g9, t, none⟩ = some (.int .i64 (LA.getD t 0)) := cell_ints hlr (by rw [HA.out.1]; exact htl)
                  have laf : wr.frozen? ⟨g9, t, none⟩ = false := hlr.frozenAt _
                  have BW5 := Lib.hid (below_via BR.out HB5.out)
                  obtain ⟨_, _, p', c', e, _, _, hnd⟩ := HT1.out
                  injection e with e1 _ e2
                  subst e1 e2
                  obtain ⟨b, off, rfl, hb, hnd⟩ := hnd (by omega)
                  obtain ⟨kv, cv, hkv, -, hcc⟩ := (hnd t htl).later BW5.out (Nat.le_refl _) hb
                  have HKS := Lib.hid hkv
                  obtain ⟨pk, ck, rfl, -⟩ := hkv
                  have k3 : wr.cell? ⟨b, off + t * 34 + 3, none⟩ = some (.slice pk (T.getD t zNd).kids.length ck) := hcc 3 (by omega)
                  have hbw : b < wr.heap.size := by have := BW5.out.size; omega
                  have K3 := Lib.hid k3
                  have hpar : t = 0 ∨ (0 < t ∧ 0 ≤ P.getD t 0 ∧ P.getD t 0 < (t : Int)) := by
                    rcases Nat.eq_zero_or_pos t with h | h
                    · exact .inl h
                    · rw [EP.out]; exact .inr ⟨h, par_up HCK.out h htl⟩
                  have hti : (t : Int) < (T.length : Int) := by omega
                  have HTR := Lib.hid (HCC.out wr BW5.out)
                  have hkid := Lib.hid (check_kids HCK.out t htl)
                  obtain ⟨ks, hks⟩ : ∃ x, x = kidsOf T t := ⟨_, rfl⟩
                  have EK := Lib.hid hks
                  rw [show (T.getD t zNd).kids = ks by rw [hks]; rfl] at HKS K3 hkid
                  have hkl : ks.length ≤ 9223372036854775807 := by obtain ⟨_, c9', e9, h9, h9', _⟩ := HKS.out; omega
                  have hst : (plT T t : Int) + (skipT T t ks.length : Int) = (plT T t : Int) + ((subT T t).length : Int) - 1 := by
                    have := sub_skip HCK.out htl
                    rw [← EK.out] at this
                    omega
                  have HST := Lib.hid hst
                  have hsb : plT T t + skipT T t ks.length < T.length := by
                    have h1 := (plT_at HCK.out htl)
                    obtain ⟨l, r, h2, h3⟩ := h1
                    have h4 := congrArg List.length h2
                    rw [ordN_len HCK.out, List.length_append, List.length_append, h3, sub_skip HCK.out htl, ← EK.out] at h4
                    omega
                  have HSB := Lib.hid hsb
                  have S9 := HS.out.swap
                  have HS9 := Lib.hid (show ShS w5 wr (.slice (some ⟨g9, 0, none⟩) LA.length c9) (.slice (some ⟨g8, 0, none⟩) T.length c8) LA PL by rw [HA.out.1]; exact S9)
                  have HPR := Lib.hid hpr
                  have HLR := Lib.hid hlr
                  have HPP2 := Lib.hid PP
                  have HPA := Lib.hid pa
                  clear hnd hcc hks k3 hst hsb S9 hpr hlr PP HS
                  have hcut : ∀ Q : Prop, (t = 0 → Q) → (0 < t → 0 ≤ P.getD t 0 → P.getD t 0 < (t : Int) → Q) → Q := fun Q h1 h2 => hpar.elim h1 (fun h => h2 h.1 h.2.1 h.2.2)
                  generalize P.getD t 0 = x at pa hcut hpar
                  clear hcut
                  have HTP := Lib.hid hpar
                  clear hpar
                  go_upto_region 26 with (fail)
                  go_cut [152] from 132 to 199 (fun sl wx => sl = .bool false ∧ wx = wr)
                  case first =>
                    rcases HTP.out with h | ⟨h1, h2, h3⟩
                    · subst h
                      clear HTP
                      go_wp2
                      go_meet
                      exact ⟨rfl, rfl⟩
                    · have e1 : (0 : Int) < (t : Int) := by omega
                      have e2 : ¬ x < 0 := by omega
                      have e3 : ¬ (t : Int) ≤ x := by omega
                      clear HTP
                      go_wp2
                      go_meet
                      exact ⟨rfl, rfl⟩
                  case rest =>
                    obtain ⟨rfl, hwc⟩ := hcut
                    rw [hwc]
                    clear hwc HTP HPA pa
                    go_upto_region 30 with (fail)
                    obtain ⟨wi, rfl⟩ : ∃ wi : World, wi = wr := ⟨_, rfl⟩
                    have HLAF := Lib.hid laf
                    clear pl la laf
                    go_loopw [13, 14] (fun ev jv wr => ∃ j en : Nat, j ≤ ks.length ∧ jv = .int .i64 j ∧ ev = .int .i64 (en : Int) ∧ RowKit.Hid (en = plT T t + skipT T t j) ∧ wr = wi) (fun _ jv _ => ks.length - (intOf jv).toNat)
                    case atStart => exact ⟨0, plT T t, Nat.zero_le _, rfl, rfl, Lib.hid (by rw [skipT_zero, Nat.add_zero]), rfl⟩
                    case round =>
                      obtain ⟨j, en, hjl, rfl, rfl, HEN, hwr⟩ := hrel
                      subst hwr
                      have tb0 := HTR.out
                      have tz0 := HZZ.out _ BW5.out
                      have k3 := K3.out
                      by_cases hjlt : j < ks.length
                      · have hji : (j : Int) < (ks.length : Int) := by omega
                        obtain ⟨_, _, e9, _, _, _, hkc⟩ := HKS.out
                        injection e9 with e9 _ e10
                        subst e9 e10
                        obtain ⟨bk, ok, rfl, hbk, hkc⟩ := hkc (by omega)
                        have hgr := hkid.out (ks.getD j 0) (by rw [List.getD_eq_getElem?_getD, List.getElem?_eq_getElem hjlt]; exact List.getElem_mem hjlt)
                        obtain ⟨k, hkk⟩ : ∃ k : Nat, ks.getD j 0 = (k : Int) := ⟨(ks.getD j 0).toNat, by omega⟩
                        have kc := hkc j hjlt
                        rw [hkk] at kc hgr
                        have hkt : k < T.length := by omega
                        have hkm : (k : Int) ∈ kidsOf T t := by rw [← EK.out, ← hkk, List.getD_eq_getElem?_getD, List.getElem?_eq_getElem hjlt]; exact List.getElem_mem hjlt
                        have pk1 : wr.cell? ⟨gp, k, none⟩ = some (.int .i64 (t : Int)) := by rw [cell_ints HPP2.out (by rw [HPL.out]; exact hkt), EP.out, (parL_is HCK.out).told t htl k hkm]
                        have hpk : plT T k = en + 1 := by rw [plT_kid HCK.out htl (by rw [← EK.out]; exact hjlt) (by rw [← EK.out]; exact hkk), HEN.out]; omega
                        have pl1 : wr.cell? ⟨g8, k, none⟩ = some (.int .i64 ((en : Int) + 1)) := by
                          rw [cell_ints HPR.out (by rw [HPQ.out.1]; exact hkt), HPQ.out.2 k hkt, hpk]
                          rfl
                        have hlk : LA.getD k 0 = ((plT T t + skipT T t (j + 1) : Nat) : Int) := by
                          rw [HA.out.2 k (by omega) hkt, hpk, skipT_succ (by rw [← EK.out]; exact hjlt), ← EK.out, hkk, Int.toNat_natCast, HEN.out]
                          omega
                        have la1 : wr.cell? ⟨g9, k, none⟩ = some (.int .i64 ((plT T t + skipT T t (j + 1) : Nat) : Int)) := by rw [cell_ints HLR.out (by rw [HA.out.1]; exact hkt), hlk]
                        have hen1 : en + 1 < T.length := by
                          have h1 := AtT.get HCK.out hkt (plT_at HCK.out hkt)
                          have := (List.getElem?_eq_some_iff.1 h1).1
                          rw [ordN_len HCK.out] at this
                          omega
                        have hki2 : (k : Int) < (T.length : Int) := by omega
                        have bt : ((t : Int) == (t : Int)) = true := by rw [beq_iff_eq]
                        have be1 : ((en : Int) + 1 == (en : Int) + 1) = true := by rw [beq_iff_eq]
                        have hbkw : bk < wr.heap.size := by omega
                        obtain ⟨en2, hen2⟩ : ∃ x, x = plT T t + skipT T t (j + 1) := ⟨_, rfl⟩
                        rw [← hen2] at la1
                        have HEN2 := Lib.hid hen2
                        clear hkc hkk hkm hpk hlk hen2 HEN
                        go_wp2
                        go_roundw
                        case rel => exact ⟨j + 1, en2, by omega, by go_num, rfl, HEN2, by first | trivial | rfl⟩
                        case measure => simp [intOf]; omega
                      · obtain rfl : j = ks.length := by omega
                        have lc : wr.cell? ⟨g9, t, none⟩ = some (.int .i64 (LA.getD t 0)) := cell_ints HLR.out (by rw [HA.out.1]; exact htl)
                        have lcf := HLAF.out
                        have S3 := ShS.set (g := g9) (c := c9) HS9.out t (en : Int)
                        rw [List.length_set, HA.out.1] at S3
                        have HS3 := Lib.hid S3.swap
                        have HA3 := Lib.hid (show (LA.set t (en : Int)).length = T.length ∧ ∀ i : Nat, ((t : Int) - 1) < (i : Int) → i < T.length → (LA.set t (en : Int)).getD i 0 = (plT T i : Int) + ((subT T i).length : Int) - 1 from by
                          refine ⟨by rw [List.length_set]; exact HA.out.1, fun i h1 h2 => ?_⟩
                          rw [getD_set (by rw [HA.out.1]; exact htl)]
                          by_cases e : i = t
                          · subst e
                            rw [if_pos rfl, HEN.out, ← HST.out]
                            omega
                          · rw [if_neg e]
                            exact HA.out.2 i (by omega) h2)
                        generalize LA.getD t 0 = lx at lc
                        clear hjl hjlt S3 HS9 HEN
                        go_wp2
                        go_roundw
                        case rel => exact ⟨(t : Int) - 1, _, by omega, by omega, by go_num, HS3, HA3⟩
                        case measure => first | (simp [intOf]; done) | (simp [intOf]; omega)
                · obtain rfl : z = -1 := by omega
                  have la : wr.cell? ⟨g9, 0, none⟩ = some (.int .i64 ((T.length : Int) - 1)) := by
                    rw [cell_ints hlr (by rw [HA.out.1]; exact hp), HA.out.2 0 (by omega) hp, plT_zero HCK.out, sub_all HCK.out]
                    (try congr 2)
                    (try omega)
                  have bn : ((T.length : Int) - 1 == (T.length : Int) - 1) = true := by rw [beq_iff_eq]
                  have HBF := Lib.hid (below_via BR.out HB5.out)
                  clear hz0 hz1 hz2 hpr hlr HS HA BR
                  go_wp2_with fail
                  refine (wakes_any _).mono ?_
                  rintro e wf ⟨rfl, hbf⟩
                  have BF := Lib.hid (below_via (below_via hbf HBF.out) HB1.out)
                  clear hbf
                  go_wp2
                  go_ret
                  exact ⟨rfl, BF.out⟩
    · have hP0 : P = [] := by rw [EP.out]; exact parL_wrong (by rw [HC.out]; exact h0)
      have hO0 : O = [] := by rw [EO.out]; exact ordL_wrong (by rw [HC.out]; exact h0)
      subst hP0 hO0
      (try simp only at hn1 h0)
      subst hn1
      have hmi : (m : Int) = 0 ∨ (m : Int) < (T.length : Int) := by omega
      have hm0 : 0 ≤ (m : Int) := by omega
      have heb : (e1 == 0) = false := beq_eq_false_iff_ne.2 h0
      clear HAT h0 EP EO OP5 OO5 HC
      by_cases hmz : m = 0
      · subst hmz
        clear hmi hm
        go_wp2_with fail
        refine (wakes_any _).mono ?_
        rintro e wf ⟨rfl, hbf⟩
        have BF := Lib.hid (below_via (below_via hbf HB5.out) HB1.out)
        clear hbf
        go_wp2
        go_ret
        exact ⟨rfl, BF.out⟩
      · have hml : (m : Int) < (T.length : Int) := by omega
        have hmb : ((m : Int) == 0) = false := beq_eq_false_iff_ne.2 (by omega)
        clear hmi hm hmz
        go_wp2_with fail
        refine (wakes_any _).mono ?_
        rintro e wf ⟨rfl, hbf⟩
        have BF := Lib.hid (below_via (below_via hbf HB5.out) HB1.out)
        clear hbf
        go_wp2
        go_ret
        exact ⟨rfl, BF.out⟩
end Go.Proofs.Ytcihihncgpddfaa
