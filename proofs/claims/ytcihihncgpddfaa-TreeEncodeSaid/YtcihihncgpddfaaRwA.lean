/- Trees' bytes: the reference's writer: number, signed, text, item. -/
import Derived.Test.YtcihihncgpddfaaWrZ
namespace Go.Proofs.Ytcihihncgpddfaa
open Go.RowKit Go.Deep
set_option linter.unusedVariables false
set_option linter.unusedSimpArgs false

/-- bytes of the call's own, and what has become of the world -/
structure PutS (base : Nat) (W : World) (v : Value) (L : List Int) (v' : Value) (W' : World) : Prop where
  own : W'.ownsRow base 5 1 v' L.length (u8L L)
  be : Below base W W'
  sz : W.heap.size ≤ W'.heap.size
  fr : ∀ b, b < W.heap.size → v.ownBlock ≠ some b → W'.heap[b]? = W.heap[b]?
  gr : ∀ b, v'.ownBlock = some b → v.ownBlock = some b ∨ W.heap.size ≤ b
theorem PutS.refl {base : Nat} {W : World} {v : Value} {L : List Int} (h : W.ownsRow base 5 1 v L.length (u8L L)) : PutS base W v L v W := ⟨h, Below.refl _ _, Nat.le_refl _, fun _ _ _ => rfl, fun b e => .inl e⟩
theorem PutS.trans {base : Nat} {W W1 W2 : World} {v v1 v2 : Value} {L L1 : List Int} (h : PutS base W v L v1 W1) (h' : PutS base W1 v1 L1 v2 W2) : PutS base W v L1 v2 W2 := by
  have z := h.sz
  have z' := h'.sz
  refine ⟨h'.own, h.be.trans h'.be, by omega, fun b hb h1 => ?_, fun b hb => ?_⟩
  · rw [h'.fr b (by omega) (fun e => (h.gr b e).elim h1 (fun h => by omega))]
    exact h.fr b hb h1
  · rcases h'.gr b hb with e | e
    · exact h.gr b e
    · exact .inr (by omega)
theorem PutS.from {base : Nat} {W W1 W2 : World} {v v2 : Value} {L : List Int} (h : PutS base W1 v L v2 W2) (hb : Below W.heap.size W W1) (hz : base ≤ W.heap.size) : PutS base W v L v2 W2 := by
  have z := hb.size
  have z' := h.sz
  refine ⟨h.own, (hb.mono hz).trans h.be, by omega, fun b hb' h1 => ?_, fun b hb' => ?_⟩
  · rw [h.fr b (by omega) h1]
    exact hb.block b hb'
  · rcases h.gr b hb' with e | e
    · exact .inl e
    · exact .inr (by omega)
/-- bytes have been appended -/
theorem PutS.push {base : Nat} {W WA W2 : World} {v v' : Value} {L N : List Int} {m : Nat} {xs : List Value} (h : W.ownsRow base 5 1 v L.length (u8L L)) (hz : base ≤ W.heap.size) (B1 : Below W.heap.size W WA) (own : W2.ownsRow base 5 1 v' m xs) (hm : m = (L ++ N).length) (hxs : xs = u8L (L ++ N)) (gr : WA.grownBy W2 v.ownBlock) (pl : v'.ownBlock = v.ownBlock ∨ v'.ownBlock = some WA.heap.size) : PutS base W v (L ++ N) v' W2 := by
  subst hm hxs
  have z1 := B1.size
  have zg := gr.size
  refine ⟨own, Below.grown (B1.mono hz) gr (by omega) (fun k hk => (row_lt h k hk).2), by omega, fun b hb h1 => (gr.block b (by omega) (fun e => h1 e.symm)).trans (B1.block b hb), fun b e => ?_⟩
  rcases pl with e' | e'
  · exact .inl (e' ▸ e)
  · rw [e'] at e; injection e with e; exact .inr (by omega)
def PutP (base : Nat) (W : World) (v : Value) (L : List Int) (e : Ending) (W' : World) : Prop := ∃ v', e = .returned v' ∧ PutS base W v L v' W'
theorem put_mk {base : Nat} {W W' : World} {v v' : Value} {L : List Int} (h : PutS base W v L v' W') : PutP base W v L (.returned v') W' := ⟨v', rfl, h⟩
set_option maxRecDepth 100000 in
set_option maxHeartbeats 8000000 in
theorem ref_number_any (base : Nat) (v : Value) (L : List Int) (n : Int) (W : World) (h : W.ownsRow base 5 1 v L.length (u8L L)) (hzb : base ≤ W.heap.size) (h0 : 0 ≤ n) (h1 : n ≤ 9223372036854775807) (hl : L.length ≤ 2199023255552) : Calls Try.prog 46 #[v, .int .i64 n] W (PutP base W v (L ++ numB n)) := by
  obtain ⟨i0, hi, hz0, hz1, hz2⟩ := info_parts infoU8_
  have HI := Lib.hid (And.intro hi (And.intro hz0 (And.intro hz1 hz2)))
  obtain ⟨n, rfl⟩ := Int.eq_ofNat_of_zero_le h0
  have HW := Lib.hid h
  have HP := Lib.hid (fun (L1 : List Int) v1 W1 (e : L1 = L ++ numB n) (hs : PutS base W v L1 v1 W1) => show PutP base W v (L ++ numB n) (.returned v1) W1 by rw [← e]; exact put_mk hs)
  clear hi hz0 hz1 hz2 h h0
  generalize PutP base W v (L ++ numB n) = post at *
  go_enter Try.func46, Try.ntmps46
  go_wp2
  go_loopw [0, 1] (fun bv nv wr => ∃ (q f : Nat) (v1 : Value) (L1 : List Int), bv = v1 ∧ nv = .int .i64 q ∧ q ≤ 9223372036854775807 ∧ RowKit.Hid (q < 128 ^ f) ∧ RowKit.Hid (PutS base W v L1 v1 wr) ∧ RowKit.Hid (L1 ++ numF f q = L ++ numB n) ∧ L1.length + f ≤ L.length + 10) (fun _ nv _ => (intOf nv).toNat)
  case atStart => exact ⟨n, 10, v, L, rfl, rfl, by omega, Lib.hid (by omega), Lib.hid (PutS.refl HW.out), Lib.hid (by unfold numB; rw [Int.toNat_natCast]), by omega⟩
  case round =>
    obtain ⟨q, f, v1, L1, rfl, rfl, hq1, HQF, HS, HE, hf⟩ := hrel
    have zbr : base ≤ wr.heap.size := by have := HS.out.sz; omega
    by_cases hq : 128 ≤ q
    · obtain ⟨g, hg, hq2⟩ := num_fuel hq HQF.out
      have HG := Lib.hid hg
      have hfg : 1 ≤ f := by omega
      have HQ2 := Lib.hid hq2
      obtain ⟨m, hm⟩ : ∃ m, m = q % 128 := ⟨_, rfl⟩
      have hm1 : m < 128 := by omega
      have htm : Int.tmod (q : Int) 128 = (m : Int) := by rw [Int.tmod_eq_emod_of_nonneg (by omega)]; omega
      have htd : Int.tdiv (q : Int) 128 = ((q / 128 : Nat) : Int) := by rw [Int.tdiv_eq_ediv_of_nonneg (by omega)]; omega
      have HE2 := Lib.hid (show (L1 ++ [(m : Int) + 128]) ++ numF g (q / 128) = L ++ numB n by rw [← HE.out, hg, numF, if_neg (by omega), List.append_assoc, hm]; congr 1)
      have HM := Lib.hid hm
      have OWN := Lib.hid (HS.out.own.alloc (.cells #[.int .u8 ((m : Int) + 128)] 5))
      have HON := Lib.hid (show ∀ u ∈ [Value.int .u8 ((m : Int) + 128)], u.oneCell' = true from fun u hu => by simp at hu; rcases hu with rfl <;> rfl)
      have h63 : L1.length + 1 ≤ maxLen := by unfold maxLen; omega
      have HPU := Lib.hid (fun v' W2 own gr pl => PutS.push (N := [(m : Int) + 128]) HS.out.own zbr (below_al (Below.refl _ _) (.cells #[.int .u8 ((m : Int) + 128)] 5)) (W2 := W2) (v' := v') (m := L1.length + 1) (xs := u8L L1 ++ [Value.int .u8 ((m : Int) + 128)]) own (by simp) (by rw [u8L_app]; rfl) gr pl)
      have hq128 : (128 : Int) ≤ (q : Int) := by omega
      clear hq2 hg HQF HE hm
      obtain ⟨qd, hqd⟩ : ∃ x, x = q / 128 := ⟨_, rfl⟩
      have hqd1 : qd ≤ q := by omega
      have hqdlt : qd < q := by omega
      rw [← hqd] at htd HE2 HQ2
      clear hqd
      go_wp2_with (at_builtin; go_must (refine append_keep rfl (.tmp 7) (.tmp 12) 36 rfl base 5 i0 _ 1 1 Try.underlying36 HI.out.1 HI.out.2.1 HI.out.2.2.1 HI.out.2.2.2 rfl (by decide) _ L1.length _ rfl OWN.out ⟨wr.heap.size, 0, none⟩ 1 1 [.int .u8 ((m : Int) + 128)] rfl rfl ?n1 HON.out h63 ?n2 ?n3 ?_))
      try case n1 => exact World.news_of_block (cs := #[.int .u8 ((m : Int) + 128)]) (t := 5) (fr := (0, 0)) (heap_alloc_new _ _)
      case n2 => omega
      case n3 => first | omega | (simp; omega)
      intro v' W2 own gr pl
      have HS2 := Lib.hid (HPU.out _ W2 own gr (pl.imp id (fun h => h.1.trans (by simp))))
      have HS3 := Lib.hid (HS.out.trans HS2.out)
      clear own gr pl OWN HON HPU HS
      go_wp2
      go_roundw
      case rel => exact ⟨qd, g, v', _, rfl, rfl, by omega, HQ2, HS3, HE2, by rw [List.length_append]; have := HG.out; simp; omega⟩
      case measure => simp [intOf]; omega
    · have hq8 : ¬ (128 : Int) ≤ (q : Int) := by omega
      have hnf := numF_small (by omega) HQF.out
      have HE2 := Lib.hid (show L1 ++ [(q : Int)] = L ++ numB n by rw [← HE.out, hnf])
      have OWN := Lib.hid (HS.out.own.alloc (.cells #[.int .u8 (q : Int)] 5))
      have HON := Lib.hid (show ∀ u ∈ [Value.int .u8 (q : Int)], u.oneCell' = true from fun u hu => by simp at hu; rcases hu with rfl <;> rfl)
      have h63 : L1.length + 1 ≤ maxLen := by unfold maxLen; omega
      have HPU := Lib.hid (fun v' W2 own gr pl => PutS.push (N := [(q : Int)]) HS.out.own zbr (below_al (Below.refl _ _) (.cells #[.int .u8 (q : Int)] 5)) (W2 := W2) (v' := v') (m := L1.length + 1) (xs := u8L L1 ++ [Value.int .u8 (q : Int)]) own (by simp) (by rw [u8L_app]; rfl) gr pl)
      have hq256 : (q : Int) < 256 := by omega
      clear hnf HQF HE hq
      go_wp2_with (at_builtin; go_must (refine append_keep rfl (.tmp 16) (.tmp 19) 36 rfl base 5 i0 _ 1 1 Try.underlying36 HI.out.1 HI.out.2.1 HI.out.2.2.1 HI.out.2.2.2 rfl (by decide) _ L1.length _ rfl OWN.out ⟨wr.heap.size, 0, none⟩ 1 1 [.int .u8 (q : Int)] rfl rfl ?n1 HON.out h63 ?n2 ?n3 ?_))
      try case n1 => exact World.news_of_block (cs := #[.int .u8 (q : Int)]) (t := 5) (fr := (0, 0)) (heap_alloc_new _ _)
      case n2 => omega
      case n3 => first | omega | (simp; omega)
      intro v' W2 own gr pl
      have HS2 := Lib.hid (HPU.out _ W2 own gr (pl.imp id (fun h => h.1.trans (by simp))))
      have HS3 := Lib.hid (HS.out.trans HS2.out)
      clear own gr pl OWN HON HPU HS
      go_wp2
      exact HP.out _ _ _ HE2.out HS3.out
set_option maxRecDepth 100000 in
set_option maxHeartbeats 8000000 in
theorem ref_signed_any (base : Nat) (v : Value) (L : List Int) (n : Int) (W : World) (h : W.ownsRow base 5 1 v L.length (u8L L)) (hzb : base ≤ W.heap.size) (h0 : -4096 ≤ n) (h1 : n ≤ 4096) (hl : L.length ≤ 1099511627776) : Calls Try.prog 72 #[v, .int .i64 n] W (PutP base W v (L ++ sgnB n)) := by
  have HN := Lib.hid (fun m (e : m = sgnN n) => show Calls Try.prog 46 #[v, .int .i64 m] W (PutP base W v (L ++ sgnB n)) by
    rw [sgnB_eq, ← e]
    exact ref_number_any base v L m W h hzb (by rw [e]; unfold sgnN; split <;> omega) (by rw [e]; unfold sgnN; split <;> omega) (by omega))
  clear h
  by_cases hn : n < 0
  · have HE := Lib.hid (show -2 * n - 1 = sgnN n by unfold sgnN; rw [if_pos hn])
    go_enter Try.func72, Try.ntmps72
    go_wp2_with fail
    refine (HN.out _ HE.out).mono ?_
    rintro e w1 ⟨v1, rfl, hs⟩
    have HS := Lib.hid hs
    clear hs HN
    go_wp2
    exact bodyPost_ret (v := v1) (by simp [results, Try.results72, go_sem]) rfl (put_mk HS.out)
  · have HE := Lib.hid (show 2 * n = sgnN n by unfold sgnN; rw [if_neg hn])
    go_enter Try.func72, Try.ntmps72
    go_wp2_with fail
    refine (HN.out _ HE.out).mono ?_
    rintro e w1 ⟨v1, rfl, hs⟩
    have HS := Lib.hid hs
    clear hs HN
    go_wp2
    exact bodyPost_ret (v := v1) (by simp [results, Try.results72, go_sem]) rfl (put_mk HS.out)
set_option maxRecDepth 100000 in
set_option maxHeartbeats 8000000 in
theorem ref_text_any (base : Nat) (v : Value) (L : List Int) (s : ByteArray) (W : World) (h : W.ownsRow base 5 1 v L.length (u8L L)) (hzb : base ≤ W.heap.size) (hs : s.size ≤ 1099511627776) (hl : L.length ≤ 1099511627776) : Calls Try.prog 70 #[v, .string s] W (PutP base W v (L ++ txtB s)) := by
  obtain ⟨i0, hi, hz0, hz1, hz2⟩ := info_parts infoU8_
  have HI := Lib.hid (And.intro hi (And.intro hz0 (And.intro hz1 hz2)))
  have HN := Lib.hid (ref_number_any base v L s.size W h hzb (by omega) (by omega) (by omega))
  have hnl : (numB (s.size : Int)).length ≤ 11 := numF_len 10 _
  clear hi hz0 hz1 hz2 h
  go_enter Try.func70, Try.ntmps70
  go_wp2_with fail
  refine HN.out.mono ?_
  clear HN
  obtain ⟨L1, hL1⟩ : ∃ L1, L1 = L ++ numB (s.size : Int) := ⟨_, rfl⟩
  rw [← hL1]
  have hll : L1.length ≤ L.length + 11 := by rw [hL1, List.length_append]; omega
  rintro e w1 ⟨v1, rfl, hs1⟩
  have HS := Lib.hid hs1
  have HE := Lib.hid (show L1 ++ strB s = L ++ txtB s by rw [hL1]; unfold txtB; rw [List.append_assoc])
  have zbr : base ≤ w1.heap.size := by have := hs1.sz; omega
  clear hs1 hL1
  have OWN := Lib.hid HS.out.own
  have h63 : L1.length + s.size ≤ maxLen := by unfold maxLen; omega
  have HPU := Lib.hid (fun v' W2 own gr pl => PutS.push (N := strB s) HS.out.own zbr (Below.refl _ _) (W2 := W2) (v' := v') (m := L1.length + s.size) (xs := u8L L1 ++ Lib.strCells s) own (by rw [List.length_append, strB_len]) (by rw [u8L_app, strCells_u8]) gr pl)
  go_wp2_with (at_builtin; go_must (refine append_string_at rfl (.tmp 9) (.tmp 10) 36 9 rfl base 5 i0 Try.underlying36 infoStr_ HI.out.1 HI.out.2.1 HI.out.2.2.1 HI.out.2.2.2 _ L1.length _ rfl OWN.out s rfl h63 ?n2 ?n3 ?_))
  case n2 => omega
  case n3 => first | omega | (simp; omega)
  intro v' W2 own gr pl
  have HS2 := Lib.hid (HS.out.trans (HPU.out _ W2 own gr pl))
  rw [HE.out] at HS2
  clear own gr pl OWN HPU HS
  go_wp2
  exact bodyPost_ret (v := v') (by simp [results, Try.results70, go_sem]) rfl (put_mk HS2.out)
set_option maxRecDepth 100000 in
set_option maxHeartbeats 8000000 in
theorem ref_item_any (base : Nat) (v : Value) (L : List Int) (x : It) (W : World) (h : W.ownsRow base 5 1 v L.length (u8L L)) (hzb : base ≤ W.heap.size) (hx : ItFit x) (h0 : 0 ≤ x.k) (hl : L.length ≤ 1099511627776) : Calls Try.prog 71 #[v, .agg #[.int .i8 x.k, .int .i64 x.n, .int .i64 x.d, .int .i64 x.lo, .int .i64 x.hi]] W (PutP base W v (L ++ itB x)) := by
  obtain ⟨i0, hi, hz0, hz1, hz2⟩ := info_parts infoU8_
  have HI := Lib.hid (And.intro hi (And.intro hz0 (And.intro hz1 hz2)))
  have hk := hx.k
  have hlen : ∀ n, (numB n).length ≤ 11 := fun n => numF_len 10 _
  have B0 : Below W.heap.size W (W.alloc (.cells #[.int .i8 x.k, .int .i64 x.n, .int .i64 x.d, .int .i64 x.lo, .int .i64 x.hi] 57)) := below_al (Below.refl _ _) _
  have ho := Lib.hid (row_later h B0)
  have HX := Lib.hid hx
  obtain ⟨W1, hW1⟩ : ∃ q, q = W.alloc (.cells #[.int .i8 x.k, .int .i64 x.n, .int .i64 x.d, .int .i64 x.lo, .int .i64 x.hi] 57) := ⟨_, rfl⟩
  have b1 : W1.heap[W.heap.size]? = some (.cells #[.int .i8 x.k, .int .i64 x.n, .int .i64 x.d, .int .i64 x.lo, .int .i64 x.hi] 57 (0, 0)) := by rw [hW1]; exact heap_alloc_new _ _
  rw [← hW1] at ho B0
  have hv0 : v.ownBlock ≠ some W.heap.size := fun e => by have := (row_lt h _ e).1; omega
  have z1 := B0.size
  have zb1 : base ≤ W1.heap.size := by omega
  have HB0 := Lib.hid B0
  have x0 : W1.cell? ⟨W.heap.size, 0, none⟩ = some (.int .i8 x.k) := by rw [cell_of_row _ _ _ _ _ _ b1]; rfl
  have zx := lt_of_block b1
  have zW1 := lt_of_block b1
  have HB1 := Lib.hid b1
  have HW1 := Lib.hid hW1.symm
  clear hi hz0 hz1 hz2 h hx B0 b1
  have OWN := Lib.hid (ho.out.alloc (.cells #[.int .u8 x.k] 5))
  have HON := Lib.hid (show ∀ u ∈ [Value.int .u8 x.k], u.oneCell' = true from fun u hu => by simp at hu; rcases hu with rfl <;> rfl)
  have h63 : L.length + 1 ≤ maxLen := by unfold maxLen; omega
  have HPU := Lib.hid (fun v' W2 own gr pl => PutS.push (N := [x.k]) ho.out zb1 (below_al (Below.refl _ _) (.cells #[.int .u8 x.k] 5)) (W2 := W2) (v' := v') (m := L.length + 1) (xs := u8L L ++ [Value.int .u8 x.k]) own (by simp) (by rw [u8L_app]; rfl) gr pl)
  go_enter Try.func71, Try.ntmps71
  go_upto_region 1 with (fail)
  rw [← hW1]
  clear hW1
  go_wp2_with (at_builtin; go_must (refine append_keep rfl (.tmp 5) (.tmp 9) 36 rfl base 5 i0 _ 1 1 Try.underlying36 HI.out.1 HI.out.2.1 HI.out.2.2.1 HI.out.2.2.2 rfl (by decide) _ L.length _ rfl OWN.out ⟨W1.heap.size, 0, none⟩ 1 1 [.int .u8 x.k] rfl rfl ?n1 HON.out h63 ?n2 ?n3 ?_))
  try case n1 => exact World.news_of_block (cs := #[.int .u8 x.k]) (t := 5) (fr := (0, 0)) (heap_alloc_new _ _)
  case n2 => omega
  case n3 => first | omega | (simp; omega)
  intro v' W2 own gr pl
  have HS0 := Lib.hid (HPU.out _ W2 own gr (pl.imp id (fun h => h.1.trans (by simp))))
  have c0 := Lib.hid ((HS0.out.fr _ zx hv0).trans HB1.out)
  clear own gr pl OWN HON HPU x0 zx
  obtain ⟨L0, hL0⟩ : ∃ l, l = L ++ [x.k] := ⟨_, rfl⟩
  rw [← hL0] at HS0
  have hl0 : L0.length ≤ 1099511627777 := by rw [hL0, List.length_append]; simp; omega
  have HL0 := Lib.hid hL0
  clear hL0
  have y0 : W2.cell? ⟨W.heap.size, 1, none⟩ = some (.int .i64 x.n) := by rw [cell_of_row _ _ _ _ _ _ c0.out]; rfl
  have zz0 := lt_of_block c0.out
  have HC := Lib.hid (ref_number_any base v' L0 x.n W2 HS0.out.own (by have := HS0.out.sz; omega) HX.out.n.lo HX.out.n.hi (by omega))
  go_wp2_with fail
  refine HC.out.mono ?_
  obtain ⟨L1, hL1⟩ : ∃ l, l = L0 ++ numB x.n := ⟨_, rfl⟩
  rw [← hL1]
  have hl1 : L1.length ≤ 1099511627777 + 11 := by rw [hL1, List.length_append]; have := hlen x.n; omega
  have HL1 := Lib.hid hL1
  clear hL1 HC
  rintro e w1 ⟨v1, rfl, hs⟩
  have c1 := Lib.hid ((hs.fr _ zz0 (fun e => (HS0.out.gr _ e).elim hv0 (fun h => by omega))).trans c0.out)
  have HS1 := Lib.hid (HS0.out.trans hs)
  clear hs y0 zz0 HS0 c0
  have y1 : w1.cell? ⟨W.heap.size, 2, none⟩ = some (.int .i64 x.d) := by rw [cell_of_row _ _ _ _ _ _ c1.out]; rfl
  have zz1 := lt_of_block c1.out
  have HC := Lib.hid (ref_number_any base v1 L1 x.d w1 HS1.out.own (by have := HS1.out.sz; omega) HX.out.d.lo HX.out.d.hi (by omega))
  go_wp2_with fail
  refine HC.out.mono ?_
  obtain ⟨L2, hL2⟩ : ∃ l, l = L1 ++ numB x.d := ⟨_, rfl⟩
  rw [← hL2]
  have hl2 : L2.length ≤ 1099511627777 + 22 := by rw [hL2, List.length_append]; have := hlen x.d; omega
  have HL2 := Lib.hid hL2
  clear hL2 HC
  rintro e w2 ⟨v2, rfl, hs⟩
  have c2 := Lib.hid ((hs.fr _ zz1 (fun e => (HS1.out.gr _ e).elim hv0 (fun h => by omega))).trans c1.out)
  have HS2 := Lib.hid (HS1.out.trans hs)
  clear hs y1 zz1 HS1 c1
  have y2 : w2.cell? ⟨W.heap.size, 3, none⟩ = some (.int .i64 x.lo) := by rw [cell_of_row _ _ _ _ _ _ c2.out]; rfl
  have zz2 := lt_of_block c2.out
  have HC := Lib.hid (ref_number_any base v2 L2 x.lo w2 HS2.out.own (by have := HS2.out.sz; omega) HX.out.lo.lo HX.out.lo.hi (by omega))
  go_wp2_with fail
  refine HC.out.mono ?_
  obtain ⟨L3, hL3⟩ : ∃ l, l = L2 ++ numB x.lo := ⟨_, rfl⟩
  rw [← hL3]
  have hl3 : L3.length ≤ 1099511627777 + 33 := by rw [hL3, List.length_append]; have := hlen x.lo; omega
  have HL3 := Lib.hid hL3
  clear hL3 HC
  rintro e w3 ⟨v3, rfl, hs⟩
  have c3 := Lib.hid ((hs.fr _ zz2 (fun e => (HS2.out.gr _ e).elim hv0 (fun h => by omega))).trans c2.out)
  have HS3 := Lib.hid (HS2.out.trans hs)
  clear hs y2 zz2 HS2 c2
  have y3 : w3.cell? ⟨W.heap.size, 4, none⟩ = some (.int .i64 x.hi) := by rw [cell_of_row _ _ _ _ _ _ c3.out]; rfl
  have zz3 := lt_of_block c3.out
  have HC := Lib.hid (ref_number_any base v3 L3 x.hi w3 HS3.out.own (by have := HS3.out.sz; omega) HX.out.hi.lo HX.out.hi.hi (by omega))
  go_wp2_with fail
  refine HC.out.mono ?_
  obtain ⟨L4, hL4⟩ : ∃ l, l = L3 ++ numB x.hi := ⟨_, rfl⟩
  rw [← hL4]
  have hl4 : L4.length ≤ 1099511627777 + 44 := by rw [hL4, List.length_append]; have := hlen x.hi; omega
  have HL4 := Lib.hid hL4
  clear hL4 HC
  rintro e w4 ⟨v4, rfl, hs⟩
  have c4 := Lib.hid ((hs.fr _ zz3 (fun e => (HS3.out.gr _ e).elim hv0 (fun h => by omega))).trans c3.out)
  have HS4 := Lib.hid (HS3.out.trans hs)
  clear hs y3 zz3 HS3 c3
  go_wp2
  have E : L ++ itB x = L4 := by rw [HL4.out, HL3.out, HL2.out, HL1.out, HL0.out]; simp [itB]
  refine bodyPost_ret (v := v4) (by simp [results, Try.results71, go_sem]) rfl ?_
  rw [E]
  exact put_mk (HS4.out.from HB0.out hzb)
end Go.Proofs.Ytcihihncgpddfaa
