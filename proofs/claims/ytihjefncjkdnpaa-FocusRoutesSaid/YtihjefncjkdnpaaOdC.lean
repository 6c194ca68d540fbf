/- Trees: contracts of the reference's Walk, Order, Find. -/
import Derived.Test.YtihjefncjkdnpaaOdB
import Derived.Test.YtihjefncjkdnpaaTrrF
import Derived.Test.YtihjefncjkdnpaaTreN
import Derived.Test.YtihjefncjkdnpaaLntA
import Derived.Test.YtihjefncjkdnpaaHeld
namespace Go.Proofs.Ytihjefncjkdnpaa
open Go.RowKit Go.Deep
set_option linter.unusedVariables false
set_option linter.unusedSimpArgs false

theorem infoVisit_ : (Try.prog.info? 121).map (fun i => (i.zero, i.size, i.bytes)) = some (some (.agg #[.int .i64 0, .int .i64 0]), 2, 16) := by kernel_rfl
/-- visits have been appended to the row v -/
structure VisS (w0 W : World) (v : Value) (L : List (Int × Int)) (v' : Value) (W' : World) : Prop where
  own : W'.ownsRow w0.heap.size 121 2 v' L.length (cellsO L)
  be : Below w0.heap.size w0 W'
  sz : W.heap.size ≤ W'.heap.size
  fr : ∀ b, b < W.heap.size → v.ownBlock ≠ some b → W'.heap[b]? = W.heap[b]?
  gr : ∀ b, v'.ownBlock = some b → v.ownBlock = some b ∨ W.heap.size ≤ b
theorem VisS.trans {w0 W W1 W2 : World} {v v1 v2 : Value} {L L1 : List (Int × Int)} (h : VisS w0 W v L v1 W1) (h' : VisS w0 W1 v1 L1 v2 W2) : VisS w0 W v L1 v2 W2 :=
  ⟨h'.own, h'.be, by have := h.sz; have := h'.sz; omega, fun b hb hne => by
    have := h.sz
    rw [h'.fr b (by omega) (fun e => (h.gr b e).elim hne (fun h => by omega)), h.fr b hb hne], fun b hb => by
    rcases h'.gr b hb with e | e
    · exact h.gr b e
    · have := h.sz; exact .inr (by omega)⟩
/-- behind new blocks -/
theorem VisS.from {w0 W W1 W2 : World} {v v2 : Value} {L : List (Int × Int)} (h : VisS w0 W1 v L v2 W2) (hb : Below W.heap.size W W1) : VisS w0 W v L v2 W2 :=
  ⟨h.own, h.be, by have := h.sz; have := hb.size; omega, fun b hb' hne => by
    have := hb.size
    rw [h.fr b (by omega) hne, hb.block b hb'], fun b hb' => (h.gr b hb').imp id (fun h => by have := hb.size; omega)⟩
theorem row_blk_ne_ {w : World} {base : Nat} {t t' : TypeId} {k : Nat} {v : Value} {n g : Nat} {xs : List Value} {cur : Array Value} {fr : Nat × Nat} (h : w.ownsRow base t k v n xs) (hh : w.heap[g]? = some (.cells cur t' fr)) (hne : t ≠ t') : v.ownBlock ≠ some g := by
  rcases h.2 with ⟨rfl, _⟩ | ⟨g', cap, cur', rfl, _, hh', _⟩
  · simp [Value.ownBlock]
  · simp only [Value.ownBlock]
    intro e
    injection e with e
    subst e
    rw [hh] at hh'
    injection hh' with hh'
    injection hh' with _ e
    exact hne e.symm
theorem with_facts_o {P Q : Prop} (f : P → Q) (h : P) : P ∧ Q := ⟨h, f h⟩
def VisPost (w0 W : World) (v : Value) (L : List (Int × Int)) (e : Ending) (W' : World) : Prop := ∃ v', e = .returned v' ∧ VisS w0 W v L v' W'
theorem cellsO_snoc (L : List (Int × Int)) (a b : Int) : cellsO (L ++ [(a, b)]) = cellsO L ++ [.int .i64 a, .int .i64 b] := by simp [cellsO]
theorem visit_push {w0 W W2 W3 : World} {v v' : Value} {L : List (Int × Int)} {a b : Int} (own : W.ownsRow w0.heap.size 121 2 v L.length (cellsO L)) (be : Below w0.heap.size w0 W) (B2 : Below W.heap.size W W2) (own' : W3.ownsRow w0.heap.size 121 2 v' (L.length + 1) (cellsO L ++ [.int .i64 a, .int .i64 b])) (gr : W2.grownBy W3 v.ownBlock) (pl : v'.ownBlock = v.ownBlock ∨ (v'.ownBlock = some W2.heap.size ∧ W2.grownBy W3 none)) : VisS w0 W v (L ++ [(a, b)]) v' W3 := by
  have z1 := B2.size
  have z2 := gr.size
  have z0 := be.size
  refine ⟨by rw [cellsO_snoc, List.length_append]; exact own', Below.grown (be.trans (B2.mono z0)) gr (by omega) (fun k hk => (row_lt own k hk).2), by omega, fun b hb hne => ?_, fun b hb => ?_⟩
  · rw [gr.block b (by omega) (fun e => hne e.symm), B2.block b hb]
  · rcases pl with e | ⟨e, _⟩
    · left; rw [← e]; exact hb
    · right; rw [e] at hb; injection hb with hb; omega
set_option maxRecDepth 100000 in
set_option maxHeartbeats 16000000 in
theorem ref_walk_any (w0 : World) (p : Option Addr) (c : Nat) (T : List Nd) (hT : TreeAt w0 (.slice p T.length c) T) (hck : (checkT T).1 = 0) (sv : Value) (stop : List Int) (hS : IntsAt w0 sv stop) :
    ∀ (f n d : Nat) (L : List (Int × Int)) (v : Value) (W : World), n < T.length → T.length - n ≤ f → d + f ≤ 100000 → (downS (stepV stop) T f n d L).length ≤ 4096 → W.ownsRow w0.heap.size 121 2 v L.length (cellsO L) → Below w0.heap.size w0 W → Calls Try.prog 86 #[.agg #[.slice p T.length c], .int .i64 n, .int .i64 d, sv, v] W (VisPost w0 W v (downS (stepV stop) T f n d L)) := by
  intro f
  induction f with
  | zero => intro n d L v W hn hf; omega
  | succ f ih =>
    intro n d L v W hn hf hd hlen own B0
    obtain ⟨i0, hi, hz0, hz1, hz2⟩ := info_parts infoVisit_
    have HI := Lib.hid (And.intro hi (And.intro hz0 (And.intro hz1 hz2)))
    have HIH := Lib.hid ih
    have HK := Lib.hid (check_kids hck n hn)
    have HT0 := Lib.hid hT
    obtain ⟨_, _, p', c', e, hle1, hle2, hnd⟩ := hT
    injection e with e1 _ e2
    subst e1 e2
    obtain ⟨b, off, rfl, hb, hnd⟩ := hnd (by omega)
    obtain ⟨kv, cv, hkv, _, hc⟩ := hnd n hn
    obtain ⟨pk, ck, rfl, _, _, _, hkc⟩ := hkv
    have HC3 := Lib.hid (show w0.cell? ⟨b, off + n * 34 + 3, none⟩ = some (.slice pk (T.getD n zNd).kids.length ck) from hc 3 (by omega))
    have HKC := Lib.hid hkc
    obtain ⟨ps, cs, rfl, hs1, hs2, _, hsc⟩ := hS
    have HSC := Lib.hid hsc
    have hup := (len_up (stepV_one stop) T (f + 1) n d L).1
    have hL : L.length < 4096 := by
      have h1 : (downS (stepV stop) T (f + 1) n d L).length ≥ L.length + 1 := by
        rw [downS]
        have h0 := stepV_one stop L n d
        have fold : ∀ (ks : List Int) (g : List (Int × Int)), g.length ≤ (ks.foldl (fun g k => downS (stepV stop) T f k.toNat (d + 1) g) g).length := by
          intro ks
          induction ks with
          | nil => intro g; exact Nat.le_refl _
          | cons a ks ih => intro g; rw [List.foldl_cons]; have := (len_up (stepV_one stop) T f a.toNat (d + 1) g).1; have := ih (downS (stepV stop) T f a.toNat (d + 1) g); omega
        split
        · have := fold (T.getD n zNd).kids (stepV stop L n d).1; omega
        · omega
      omega
    have HDS := Lib.hid (show downS (stepV stop) T (f + 1) n d L = if (stepV stop L n d).2 = true then (T.getD n zNd).kids.foldl (fun g k => downS (stepV stop) T f k.toNat (d + 1) g) (stepV stop L n d).1 else (stepV stop L n d).1 from rfl)
    have hlens : stop.length ≤ 9223372036854775807 := by omega
    have HLEN := Lib.hid hlen
    have HOWN := Lib.hid own
    have HB0 := Lib.hid B0
    have HP := Lib.hid (fun L' (h : downS (stepV stop) T (f + 1) n d L = L') v' W' (h' : VisS w0 W v L' v' W') => show VisPost w0 W v (downS (stepV stop) T (f + 1) n d L) (.returned v') W' from ⟨v', rfl, by rw [h]; exact h'⟩)
    clear hi hz0 hz1 hz2 ih hkc hc hnd hsc hup hlen own
    have OWN2 := Lib.hid ((HOWN.out.alloc (.cells #[.slice (some ⟨b, off, none⟩) T.length c] 24)).alloc (.cells #[.int .i64 n, .int .i64 d] 121))
    have HON := Lib.hid (show ∀ u ∈ [Value.int .i64 (n : Int), .int .i64 (d : Int)], u.oneCell' = true from fun u hu => by simp at hu; rcases hu with rfl | rfl <;> rfl)
    have h63 : L.length + 1 ≤ maxLen := by unfold maxLen; omega
    have z0 := B0.size
    generalize VisPost w0 W v (downS (stepV stop) T (f + 1) n d L) = post at *
    go_enter Try.func86, Try.ntmps86
    go_wp2_with (at_builtin; go_must (refine append_keep rfl (.tmp 13) (.tmp 17) 118 rfl w0.heap.size 121 i0 _ 2 16 Try.underlying118 HI.out.1 HI.out.2.1 HI.out.2.2.1 HI.out.2.2.2 rfl (by decide) _ L.length _ rfl OWN2.out ⟨W.heap.size + 1, 0, none⟩ 1 1 [.int .i64 (n : Int), .int .i64 (d : Int)] rfl rfl ?n1 HON.out h63 ?n2 ?n3 ?_))
    try case n1 =>
      refine World.news_of_block (cs := #[.int .i64 (n : Int), .int .i64 (d : Int)]) (t := 121) (fr := (0, 0)) ?_
      have := heap_alloc_new (W.alloc (.cells #[.slice (some ⟨b, off, none⟩) T.length c] 24)) (.cells #[.int .i64 (n : Int), .int .i64 (d : Int)] 121)
      rwa [World.size_alloc] at this
    case n2 => omega
    case n3 => first | omega | (simp; omega)
    intro v1 W3 own3 gr pl
    have hV := visit_push HOWN.out HB0.out (below_al (below_al (Below.refl _ _) _) _) own3 gr (by simpa using pl)
    have HV := Lib.hid hV
    have tb : W3.heap[W.heap.size]? = some (.cells #[.slice (some ⟨b, off, none⟩) T.length c] 24 (0, 0)) := by
      rw [gr.block _ (by simp; omega) (fun e => by have := row_lt HOWN.out _ e.symm; omega), heap_alloc_old _ _ (by simp)]
      exact heap_alloc_new _ _
    have HTB := Lib.hid tb
    have zt := lt_of_block tb
    have x0 := cell_of_one tb
    have B3 := hV.be
    clear hV own3 gr pl tb OWN2 HON
    go_wp2
    go_loop [11] (fun i => ∃ k : Nat, k ≤ stop.length ∧ i = .int .i64 k ∧ RowKit.Hid (∀ j, j < k → stop.getD j 0 ≠ (n : Int))) (fun i => stop.length - (intOf i).toNat)
    case atStart => exact ⟨0, Nat.zero_le _, rfl, Lib.hid (fun j hj => absurd hj (Nat.not_lt_zero _))⟩
    case round =>
      obtain ⟨k, hk, rfl, HN⟩ := hrel
      by_cases hlt : k < stop.length
      · have hki : (k : Int) < (stop.length : Int) := by omega
        obtain ⟨bs, os, rfl, hbs, hcell⟩ := HSC.out (by omega)
        have ck0 := hcell k hlt
        rw [← (bcell B3).1 _ _ hbs] at ck0
        have hbsw : bs < W3.heap.size := by have := B3.size; omega
        obtain ⟨x, hx⟩ : ∃ x, x = stop.getD k 0 := ⟨_, rfl⟩
        have HX := Lib.hid hx
        rw [← hx] at ck0
        clear hcell hx
        by_cases hxe : x = (n : Int)
        · subst hxe
          have HST := Lib.hid (show (stepV stop L n d).2 = false by
            unfold stepV
            simp only [Bool.not_eq_false', List.any_eq_true, decide_eq_true_eq]
            refine ⟨stop.getD k 0, ?_, HX.out.symm⟩
            rw [List.getD_eq_getElem?_getD, List.getElem?_eq_getElem hlt]
            exact List.getElem_mem hlt)
          have HE := Lib.hid (HDS.out.trans (if_neg (by rw [HST.out]; decide)))
          clear HX
          go_wp2
          exact HP.out _ HE.out _ _ HV.out
        · have hne : (x == (n : Int)) = false := by simpa using hxe
          have HN' := Lib.hid (show ∀ j, j < k + 1 → stop.getD j 0 ≠ (n : Int) from fun j hj => by
            by_cases e : j = k
            · rw [e, ← HX.out]; exact hxe
            · exact HN.out j (by omega))
          clear hxe HN HX
          go_wp2
          go_round
          case rel => exact ⟨k + 1, by omega, by go_num, HN'⟩
          case measure => simp [intOf]; omega
      · obtain rfl : k = stop.length := by omega
        have HST := Lib.hid (show (stepV stop L n d).2 = true by
          unfold stepV
          simp only [Bool.not_eq_true', List.any_eq_false, decide_eq_true_eq]
          intro y hy
          obtain ⟨j, hj, rfl⟩ := List.getElem_of_mem hy
          have := HN.out j hj
          rwa [List.getD_eq_getElem?_getD, List.getElem?_eq_getElem hj] at this)
        have HE := Lib.hid (HDS.out.trans (if_pos HST.out))
        clear hlt hk HN HDS HST
        have HL1 := Lib.hid (show (stepV stop L n d).1 = L ++ [((n : Int), (d : Int))] from rfl)
        rw [HL1.out] at HE
        generalize (T.getD n zNd).kids = ks at *
        have hkl : (ks.foldl (fun g k => downS (stepV stop) T f k.toNat (d + 1) g) (L ++ [((n : Int), (d : Int))])).length ≤ 4096 := by rw [← HE.out]; exact HLEN.out
        have HUP := Lib.hid (show ∀ j, j ≤ ks.length → ((ks.take j).foldl (fun g k => downS (stepV stop) T f k.toNat (d + 1) g) (L ++ [((n : Int), (d : Int))])).length ≤ 4096 from fun j hj => by
          have fold : ∀ (ks : List Int) (g : List (Int × Int)), g.length ≤ (ks.foldl (fun g k => downS (stepV stop) T f k.toNat (d + 1) g) g).length := by
            intro ks
            induction ks with
            | nil => intro g; exact Nat.le_refl _
            | cons a ks ih => intro g; rw [List.foldl_cons]; have := (len_up (stepV_one stop) T f a.toNat (d + 1) g).1; have := ih (downS (stepV stop) T f a.toNat (d + 1) g); omega
          have e : ks = ks.take j ++ ks.drop j := (List.take_append_drop j ks).symm
          rw [e, List.foldl_append] at hkl
          have := fold (ks.drop j) ((ks.take j).foldl (fun g k => downS (stepV stop) T f k.toNat (d + 1) g) (L ++ [((n : Int), (d : Int))]))
          omega)
        have hkN : ks.length ≤ 9223372036854775807 := by omega
        have c3 : W3.cell? ⟨b, off + n * 34 + 3, none⟩ = some (.slice pk ks.length ck) := by rw [(bcell B3).1 _ _ hb]; exact HC3.out
        have hbw : b < W3.heap.size := by have := B3.size; omega
        have hni : (n : Int) < (T.length : Int) := by omega
        clear hkl HL1 HLEN
        go_upto_region 8 with (fail)
        go_loopw [12, 4] (fun i vj wr => ∃ j : Nat, j ≤ ks.length ∧ i = .int .i64 j ∧ RowKit.Hid (VisS w0 W v ((ks.take j).foldl (fun g k => downS (stepV stop) T f k.toNat (d + 1) g) (L ++ [((n : Int), (d : Int))])) vj wr) ∧ RowKit.Hid (wr.heap[W.heap.size]? = some (.cells #[.slice (some ⟨b, off, none⟩) T.length c] 24 (0, 0)))) (fun i _ _ => ks.length - (intOf i).toNat)
        case atStart => exact ⟨0, Nat.zero_le _, rfl, HV, HTB⟩
        case round =>
          clear HV HTB x0 zt c3 hbw B3
          obtain ⟨j, hj, rfl, HV, HTB⟩ := hrel
          have BR := HV.out.be
          have x0 := cell_of_one HTB.out
          have zt := lt_of_block HTB.out
          have c3 : wr.cell? ⟨b, off + n * 34 + 3, none⟩ = some (.slice pk ks.length ck) := by rw [(bcell BR).1 _ _ hb]; exact HC3.out
          have hbw : b < wr.heap.size := by have := BR.size; omega
          by_cases hlt : j < ks.length
          · have hji : (j : Int) < (ks.length : Int) := by omega
            obtain ⟨bk, ok, rfl, hbk, hkc⟩ := HKC.out (by omega)
            have ck0 := hkc j hlt
            rw [← (bcell BR).1 _ _ hbk] at ck0
            have hbkw : bk < wr.heap.size := by have := BR.size; omega
            have hqr := HK.out (ks.getD j 0) (by rw [List.getD_eq_getElem?_getD, List.getElem?_eq_getElem hlt]; exact List.getElem_mem hlt)
            obtain ⟨q, hq⟩ : ∃ q : Nat, ks.getD j 0 = (q : Int) := ⟨(ks.getD j 0).toNat, by omega⟩
            rw [hq] at ck0 hqr
            have hst : (ks.take (j + 1)).foldl (fun g k => downS (stepV stop) T f k.toNat (d + 1) g) (L ++ [((n : Int), (d : Int))]) = downS (stepV stop) T f q (d + 1) ((ks.take j).foldl (fun g k => downS (stepV stop) T f k.toNat (d + 1) g) (L ++ [((n : Int), (d : Int))])) := by
              rw [List.take_succ_eq_append_getElem hlt, List.foldl_append, List.foldl_cons, List.foldl_nil]
              rw [List.getD_eq_getElem?_getD, List.getElem?_eq_getElem hlt, Option.getD_some] at hq
              rw [hq, Int.toNat_natCast]
            have hup := HUP.out (j + 1) (by omega)
            rw [hst] at hup
            have HCALL := Lib.hid (fun W' (hb : Below wr.heap.size wr W') => by
              have := HIH.out q (d + 1) _ u4 W' (by omega) (by omega) (by omega) hup (row_later HV.out.own hb) (below_via hb BR)
              rwa [show ((d + 1 : Nat) : Int) = (d : Int) + 1 by omega] at this)
            have HST := Lib.hid hst
            have nT : u4.ownBlock ≠ some W.heap.size := row_blk_ne_ HV.out.own HTB.out (by decide)
            have HNT := Lib.hid nT
            have HSF := Lib.hid (fun w' (h : Below wr.heap.size wr w' ∨ (w'.heap[W.heap.size]? = some (.cells #[.slice (some ⟨b, off, none⟩) T.length c] 24 (0, 0)) ∧ Below w0.heap.size w0 w')) => show (w'.cell? ⟨W.heap.size, 0, none⟩ = some (.slice (some ⟨b, off, none⟩) T.length c) ∧ w'.cell? ⟨b, off + n * 34 + 3, none⟩ = some (.slice (some ⟨bk, ok, none⟩) ks.length ck) ∧ w'.cell? ⟨bk, ok + j, none⟩ = some (.int .i64 q)) from by
              rcases h with h | ⟨h1, h2⟩
              · obtain ⟨hc, _⟩ := bcell h
                refine ⟨?_, ?_, ?_⟩ <;> (rw [hc _ _ (by assumption)]; assumption)
              · refine ⟨cell_of_one h1, ?_, ?_⟩
                · rw [(bcell h2).1 _ _ hb]; exact HC3.out
                · rw [(bcell h2).1 _ _ hbk, ← (bcell BR).1 _ _ hbk]; exact ck0)
            have hd2 : (d : Int) + 1 ≤ 100000 := by omega
            have hd0 : (0 : Int) ≤ (d : Int) := by omega
            clear hkc hq hst hup nT
            go_upto_region 10 with (fail)
            refine wp_region_noPanic ?_
            refine wp_region_lexH (fun w' => Below wr.heap.size wr w' ∨ (w'.heap[W.heap.size]? = some (.cells #[.slice (some ⟨b, off, none⟩) T.length c] 24 (0, 0)) ∧ Below w0.heap.size w0 w')) (by kernel_rfl) (by kernel_rfl) (fun _ _ _ _ _ h => h) (.inl (Below.drew (Below.refl _ _))) ?_
            apply lexH_run (by rfl)
            · (intro w h; have FK := HSF.out w h; clear h; go_split_ands; go_simp; try rfl)
            (try simp only [Act.put, List.setIfInBounds_toArray, List.set_cons_zero, List.set_cons_succ])
            apply lexH_run (by rfl)
            · (intro w h; clear h; go_simp; try rfl)
            (try simp only [Act.put, List.setIfInBounds_toArray, List.set_cons_zero, List.set_cons_succ])
            apply lexH_run (by rfl)
            · (intro w h; have FK := HSF.out w h; clear h; go_split_ands; go_simp; try rfl)
            (try simp only [Act.put, List.setIfInBounds_toArray, List.set_cons_zero, List.set_cons_succ])
            apply lexH_run (by rfl)
            · (intro w h; clear h; go_simp; try rfl)
            (try simp only [Act.put, List.setIfInBounds_toArray, List.set_cons_zero, List.set_cons_succ])
            apply lexH_run (by rfl)
            · (intro w h; clear h; go_simp; try rfl)
            (try simp only [Act.put, List.setIfInBounds_toArray, List.set_cons_zero, List.set_cons_succ])
            apply lexH_run (by rfl)
            · (intro w h; clear h; go_simp; try rfl)
            (try simp only [Act.put, List.setIfInBounds_toArray, List.set_cons_zero, List.set_cons_succ])
            apply lexH_run (by rfl)
            · (intro w h; have FK := HSF.out w h; clear h; go_split_ands; go_simp; try rfl)
            (try simp only [Act.put, List.setIfInBounds_toArray, List.set_cons_zero, List.set_cons_succ])
            apply lexH_run (by rfl)
            · (intro w h; clear h; go_simp; try rfl)
            (try simp only [Act.put, List.setIfInBounds_toArray, List.set_cons_zero, List.set_cons_succ])
            apply lexH_run (by rfl)
            · (intro w h; clear h; go_simp; try rfl)
            (try simp only [Act.put, List.setIfInBounds_toArray, List.set_cons_zero, List.set_cons_succ])
            apply lexH_run (by rfl)
            · (intro w h; have FK := HSF.out w h; clear h; go_split_ands; go_simp; try rfl)
            (try simp only [Act.put, List.setIfInBounds_toArray, List.set_cons_zero, List.set_cons_succ])
            apply lexH_run (by rfl)
            · (intro w h; clear h; go_simp; try rfl)
            (try simp only [Act.put, List.setIfInBounds_toArray, List.set_cons_zero, List.set_cons_succ])
            apply lexH_run (by rfl)
            · (intro w h; clear h; go_simp; try rfl)
            (try simp only [Act.put, List.setIfInBounds_toArray, List.set_cons_zero, List.set_cons_succ])
            apply lexH_run (by rfl)
            · (intro w h; clear h; go_simp; try rfl)
            (try simp only [Act.put, List.setIfInBounds_toArray, List.set_cons_zero, List.set_cons_succ])
            apply lexH_run (by rfl)
            · (intro w h; clear h; go_simp; try rfl)
            (try simp only [Act.put, List.setIfInBounds_toArray, List.set_cons_zero, List.set_cons_succ])
            refine lexH_call (by kernel_rfl) (by rfl) (by go_simp; first | exact ⟨rfl, rfl⟩ | rfl) ?_
            intro hS
            rw [show IntKind.i64.wrap ((d : Int) + 1) = (d : Int) + 1 from IntWalk.i64_in _ (by omega)]
            refine (HCALL.out _ (Below.drew (Below.refl _ _))).mono ?_
            rintro e w2 ⟨v2, rfl, hP⟩
            have hP2 := VisS.from hP (Below.drew (Below.refl _ _))
            have HV2 := Lib.hid (show VisS w0 W v ((ks.take (j + 1)).foldl (fun g k => downS (stepV stop) T f k.toNat (d + 1) g) (L ++ [((n : Int), (d : Int))])) v2 w2 by rw [HST.out]; exact HV.out.trans hP2)
            have HTB2 := Lib.hid ((hP2.fr _ zt HNT.out).trans HTB.out)
            refine ⟨_, rfl, .inr ⟨HTB2.out, HV2.out.be⟩, ?_⟩
            clear hP hP2 hS HCALL HST HSF x0 c3 ck0
            (try simp only [Act.put, List.setIfInBounds_toArray, List.set_cons_zero, List.set_cons_succ])
            apply lexH_run (by rfl)
            · (intro w h; clear h; go_simp; try rfl)
            (try simp only [Act.put, List.setIfInBounds_toArray, List.set_cons_zero, List.set_cons_succ])
            apply lexH_nil
            refine NoPanic.normal ?_
            go_wp2
            go_roundw
            case rel => exact ⟨j + 1, by omega, by go_num, HV2, HTB2⟩
            case measure => simp [intOf]; omega
          · obtain rfl : j = ks.length := by omega
            have HF := Lib.hid (show VisS w0 W v (ks.foldl (fun g k => downS (stepV stop) T f k.toNat (d + 1) g) (L ++ [((n : Int), (d : Int))])) u4 wr by have := HV.out; rwa [List.take_length] at this)
            clear hlt hj HV
            go_wp2
            exact HP.out _ HE.out _ _ HF.out
end Go.Proofs.Ytihjefncjkdnpaa
