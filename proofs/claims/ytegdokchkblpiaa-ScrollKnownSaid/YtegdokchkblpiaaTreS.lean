/- The walk of ScrollStays. -/
import Derived.Test.YtegdokchkblpiaaTreP
import Derived.Test.YtegdokchkblpiaaScrE
import Derived.Outline
import Derived.Deep.AppendLies
namespace Go.Proofs.Ytegdokchkblpiaa
open Go.RowKit Go.Deep
set_option linter.unusedVariables false
set_option linter.unusedSimpArgs false

/-- the offsets that the law hands to Carry -/
def givenF (O : List (Int × Int)) (i : Nat) : Int × Int := if i < O.length then O.getD i (0, 0) else ((i : Int), 1)
def givenL (O : List (Int × Int)) (n : Nat) : List (Int × Int) := (List.range n).map (givenF O)
theorem givenL_len (O : List (Int × Int)) (n : Nat) : (givenL O n).length = n := by simp [givenL]
theorem givenL_succ (O : List (Int × Int)) (n : Nat) : givenL O (n + 1) = givenL O n ++ [givenF O n] := by simp [givenL, List.range_succ]
theorem givenL_get (O : List (Int × Int)) {n i : Nat} (h : i < n) : (givenL O n).getD i (0, 0) = givenF O i := by
  simp [givenL, List.getD_eq_getElem?_getD, h]
theorem cellsO_append (A B : List (Int × Int)) : cellsO (A ++ B) = cellsO A ++ cellsO B := by simp [cellsO]
theorem own_later {w w' : World} {base : Nat} {t : TypeId} {k : Nat} {v : Value} {n : Nat} {xs : List Value} (h : w.ownsRow base t k v n xs) (hb : Below w.heap.size w w') : w'.ownsRow base t k v n xs := by
  obtain ⟨hl, h | ⟨g, cap, cur, e, hb', hh, hr⟩⟩ := h
  · exact ⟨hl, .inl h⟩
  · exact ⟨hl, .inr ⟨g, cap, cur, e, hb', (below_block hb (Array.getElem?_eq_some_iff.1 hh).1).trans hh, hr⟩⟩
theorem below_drewN {B : Nat} {a w : World} (h : Below B a w) (n : Nat) : Below B a (w.drewN n) := ⟨h.os, h.tape, h.output, h.size, h.block⟩
theorem own_lt {w : World} {base : Nat} {t : TypeId} {k : Nat} {v : Value} {n : Nat} {xs : List Value} (h : w.ownsRow base t k v n xs) : ∀ g, v.ownBlock = some g → g < w.heap.size ∧ base ≤ g := by
  intro g hg
  obtain ⟨hl, ⟨rfl, _⟩ | ⟨g', cap, cur, rfl, hb', hh, hr⟩⟩ := h
  · cases hg
  · simp [Value.ownBlock] at hg
    subst hg
    exact ⟨(Array.getElem?_eq_some_iff.1 hh).1, hb'⟩
/-- the state behind an append -/
theorem behind {w wr w' : World} {v0 : Value} {base n : Nat} {xs : List Value} {t : TypeId} {u : Value} (own : wr.ownsRow (w.heap.size + 1) t 2 v0 n xs) (BW : Below w.heap.size w wr) (sw : w.heap.size < wr.heap.size) (xw : wr.cell? ⟨w.heap.size, 0, none⟩ = some u) {W : World} (hW : Below wr.heap.size wr W) (gr : W.grownBy w' v0.ownBlock) : Below w.heap.size w w' ∧ w.heap.size < w'.heap.size ∧ w'.cell? ⟨w.heap.size, 0, none⟩ = some u := by
  have hk : ∀ k, v0.ownBlock = some k → w.heap.size + 1 ≤ k := fun k hk => (own_lt own k hk).2
  have B2 : Below w.heap.size w W := below_via hW BW
  have z1 := hW.size
  have z2 := gr.size
  refine ⟨Below.grown B2 gr B2.size (fun k h => by have := hk k h; omega), by omega, ?_⟩
  rw [cell_same gr (by omega) (fun e => by have := hk _ e; omega), (bcell hW).1 _ _ sw]
  exact xw
set_option maxRecDepth 100000 in
set_option maxHeartbeats 16000000 in
theorem ScrollStays_walk (p pf : Option Addr) (c cf : Nat) (T : List Nd) (O : List (Int × Int)) (w : World) (hT : TreeAt w (.slice p T.length c) T) (hf : OffsAt w pf O) (hN : T.length * 288 ≤ 140737488351232) (hO : O.length ≤ 9223372036854775807) : Calls Try.prog 8 #[.agg #[.slice p T.length c], .slice pf O.length cf] w fun e w' => e = .returned (.bool true) ∧ Below w.heap.size w w' := by
  obtain ⟨i0, hi, hz0, hz1, hz2⟩ := info_parts infoOff
  have HT := Lib.hid hT
  have HF := Lib.hid hf
  have hN' : T.length ≤ 488671834553 := by omega
  clear hT hf hN
  go_enter Try.func8, Try.ntmps8
  go_wp2_with fail
  refine (law_works _).mono ?_
  rintro e w1 ⟨rfl, hb1⟩
  have B1 : Below w.heap.size w w1 := below_via hb1 (by go_grown)
  have x1 : w1.cell? ⟨w.heap.size, 0, none⟩ = some (.slice p T.length c) := by rw [(bcell hb1).1 _ _ (by simp)]; simp [go_sem]
  have s1 : w.heap.size < w1.heap.size := by have := hb1.size; simp at this; omega
  clear hb1
  go_wp2
  go_loopw [16, 5] (fun i v wr => ∃ k : Nat, k ≤ T.length ∧ i = .int .i64 k ∧ RowKit.Hid (wr.ownsRow (w.heap.size + 1) 25 2 v k (cellsO (givenL O k))) ∧ Below w.heap.size w wr ∧ w.heap.size < wr.heap.size ∧ wr.cell? ⟨w.heap.size, 0, none⟩ = some (.slice p T.length c)) (fun i _ _ => T.length - (intOf i).toNat)
  case atStart => exact ⟨0, Nat.zero_le _, rfl, Lib.hid ⟨rfl, .inl ⟨rfl, rfl⟩⟩, B1, s1, x1⟩
  case round =>
    clear B1 x1 s1
    obtain ⟨k, hk, rfl, HOW, BW, sw, xw⟩ := hrel
    by_cases hlt : k < T.length
    · have hkT : (k : Int) < (T.length : Int) := by omega
      obtain ⟨V, hV⟩ : ∃ V, V = givenF O k := ⟨_, rfl⟩
      have hm1 : k + 1 ≤ maxLen := by unfold maxLen; omega
      have hm2 : (k + 1) * 16 ≤ 140737488355328 := by omega
      by_cases hkO : k < O.length
      · have hv : V = O.getD k (0, 0) := by rw [hV]; unfold givenF; rw [if_pos hkO]
        obtain ⟨b2, off2, rfl, hb2, hvv⟩ := HF.out (by omega)
        obtain ⟨v0, v1⟩ := hvv k hkO
        rw [← (bcell BW).1 _ _ hb2] at v0 v1
        rw [← hv] at v0 v1
        have hb2w : b2 < wr.heap.size := by omega
        have hkO2 : (k : Int) < (O.length : Int) := by omega
        have HV := Lib.hid hV
        clear hv hvv hV
        obtain ⟨a0, a1⟩ := V
        simp only [] at v0 v1
        have own := HOW.out
        go_wp2_with (at_builtin; refine wpList_append_own _ rfl _ _ 48 rfl (w.heap.size + 1) 25 i0 _ 2 16 Try.underlying48 hi hz0 hz1 hz2 rfl (by decide) _ k _ rfl ((own_later (own_later own (below_al (Below.refl _ _) _)) (below_al (Below.refl _ _) _))) ⟨wr.heap.size + 1, 0, none⟩ 1 1 [.int .i64 a0, .int .i64 a1] rfl rfl ?c1 ?c2 hm1 hm2 ?c5 ?_)
        case c1 => exact World.news_of_block (cs := #[.int .i64 a0, .int .i64 a1]) (t := 25) (fr := (0, 0)) (by have := heap_alloc_new (wr.alloc (.cells #[.int .i64 a0, .int .i64 a1] 25)) (.cells #[.int .i64 a0, .int .i64 a1] 25); rwa [World.size_alloc] at this)
        case c2 => intro u hu; simp at hu; rcases hu with rfl | rfl <;> rfl
        case c5 => simp; omega
        intro v' w' own' gr' _
        obtain ⟨BW', sw', xw'⟩ := behind (base := 0) own BW sw xw (below_al (below_al (Below.refl _ _) _) _) gr'
        have HO' := Lib.hid (show w'.ownsRow (w.heap.size + 1) 25 2 v' (k + 1) (cellsO (givenL O (k + 1))) by
          rw [givenL_succ, cellsO_append, ← HV.out]; exact own')
        clear own own' gr' BW sw xw HOW
        go_wp2
        go_roundw
        case rel => exact ⟨k + 1, by omega, by go_num, HO', BW', sw', xw'⟩
        case measure => simp [intOf]; omega
      · have hv : V = ((k : Int), 1) := by rw [hV]; unfold givenF; rw [if_neg hkO]
        have HV := Lib.hid (hv.symm.trans hV)
        have hkO2 : (O.length : Int) ≤ (k : Int) := by omega
        clear hv hV hkO
        have own := HOW.out
        go_wp2_with (at_builtin; refine wpList_append_own _ rfl _ _ 48 rfl (w.heap.size + 1) 25 i0 _ 2 16 Try.underlying48 hi hz0 hz1 hz2 rfl (by decide) _ k _ rfl ((own_later (own_later own (below_al (Below.refl _ _) _)) (below_al (Below.refl _ _) _))) ⟨wr.heap.size + 1, 0, none⟩ 1 1 [.int .i64 k, .int .i64 1] rfl rfl ?c1 ?c2 hm1 hm2 ?c5 ?_)
        case c1 => exact World.news_of_block (cs := #[.int .i64 k, .int .i64 1]) (t := 25) (fr := (0, 0)) (by have := heap_alloc_new (wr.alloc (.cells #[.int .i64 k, .int .i64 1] 25)) (.cells #[.int .i64 k, .int .i64 1] 25); rwa [World.size_alloc] at this)
        case c2 => intro u hu; simp at hu; rcases hu with rfl | rfl <;> rfl
        case c5 => simp; omega
        intro v' w' own' gr' _
        obtain ⟨BW', sw', xw'⟩ := behind (base := 0) own BW sw xw (below_al (below_al (Below.refl _ _) _) _) gr'
        have HO' := Lib.hid (show w'.ownsRow (w.heap.size + 1) 25 2 v' (k + 1) (cellsO (givenL O (k + 1))) by
          rw [givenL_succ, cellsO_append, ← HV.out]; exact own')
        clear own own' gr' BW sw xw HOW
        go_wp2
        go_roundw
        case rel => exact ⟨k + 1, by omega, by go_num, HO', BW', sw', xw'⟩
        case measure => simp [intOf]; omega
    · obtain rfl : k = T.length := by omega
      obtain ⟨pl, cl, rfl, hnl, hat⟩ := own_form HOW.out
      have HG := Lib.hid hat
      have hgl := givenL_len O T.length
      obtain ⟨G, hG⟩ : ∃ G, G = givenL O T.length := ⟨_, rfl⟩
      rw [← hG] at hgl HG
      have HGL := Lib.hid hgl
      have HGG := Lib.hid hG
      have hgl' : G.length ≤ 9223372036854775807 := by omega
      have HTw := Lib.hid (HT.out.later BW)
      clear HOW hat hnl hgl hG hlt hk
      go_wp2_with fail
      have hC := scroll_Carry_any p p pl c c cl T T G _ HTw.out HTw.out HG.out hgl'
      rw [HGL.out] at hC
      refine hC.mono ?_
      clear hC
      rintro e w2 ⟨v2, rfl, own2, hb2⟩
      have B2 : Below w.heap.size w w2 := below_via hb2 BW
      have HG2 := Lib.hid (HG.out.later hb2 (Nat.le_refl _))
      have HT2 := Lib.hid (HT.out.later B2)
      have xw2 : w2.cell? ⟨w.heap.size, 0, none⟩ = some (.slice p T.length c) := by rw [(bcell hb2).1 _ _ sw]; exact xw
      have sw2 : w.heap.size < w2.heap.size := by have := hb2.size; omega
      obtain ⟨po, co, rfl, hno, hao⟩ := own_form own2
      clear own2 hb2 BW sw xw HTw HG
      by_cases hck : (checkT T).1 = 0
      · have hR : (carryR T T G).length = T.length := by unfold carryR; rw [if_pos hck]; simp
        have HS := Lib.hid (fun i (hi : i < T.length) => carry_self hck HGL.out i hi)
        have HRL := Lib.hid hR
        have hN0 := (check_len hck).1
        have HAO := Lib.hid hao
        clear hno hck hao
        generalize carryR T T G = R at *
        rw [HRL.out]
        have e0 : ((T.length : Int) == 0) = false := by rw [beq_eq_false_iff_ne]; omega
        go_wp2
        go_loopw [48] (fun i wr => ∃ k : Nat, k ≤ T.length ∧ i = .int .i64 k ∧ Below w2.heap.size w2 wr) (fun i _ => T.length - (intOf i).toNat)
        case atStart => exact ⟨0, Nat.zero_le _, rfl, Below.refl _ _⟩
        case round =>
          obtain ⟨k, hk, rfl, BW⟩ := hrel
          have SW := BW.size
          have xw : wr.cell? ⟨w.heap.size, 0, none⟩ = some (.slice p T.length c) := by rw [(bcell BW).1 _ _ sw2]; exact xw2
          have sw : w.heap.size < wr.heap.size := by omega
          by_cases hlt : k < T.length
          · have hkT : (k : Int) < (T.length : Int) := by omega
            obtain ⟨_, _, p', c', e, _, _, hnd⟩ := HT2.out
            injection e with e1 _ e2
            subst e1 e2
            obtain ⟨b, off, rfl, hb, hnd⟩ := hnd (by omega)
            obtain ⟨kv, cv, _, _, hc⟩ := (hnd k hlt).later BW (Nat.le_refl _) hb
            have hS := HS.out k hlt
            generalize hxe : T.getD k zNd = x at hc hS
            have c0 : wr.cell? ⟨b, off + k * 34, none⟩ = some (.int .i8 x.kind) := hc 0 (by omega)
            have c1 : wr.cell? ⟨b, off + k * 34 + 1, none⟩ = some (.string x.id) := hc 1 (by omega)
            have hbw : b < wr.heap.size := by omega
            clear hc hxe hnd
            obtain ⟨bg, og, rfl, hbg, hgc⟩ := HG2.out (by rw [HGL.out]; omega)
            obtain ⟨g0, g1⟩ := hgc k (by rw [HGL.out]; exact hlt)
            rw [← (bcell BW).1 _ _ hbg] at g0 g1
            have hbgw : bg < wr.heap.size := by omega
            obtain ⟨br, or, rfl, hbr, hrc⟩ := HAO.out (by rw [HRL.out]; omega)
            obtain ⟨r0, r1⟩ := hrc k (by rw [HRL.out]; exact hlt)
            rw [← (bcell BW).1 _ _ hbr] at r0 r1
            have hbrw : br < wr.heap.size := by omega
            clear hgc hrc
            rw [hS] at r0 r1
            generalize G.getD k (0, 0) = v at *
            obtain ⟨v0, v1⟩ := v
            simp only [] at g0 g1
            clear hS
            rcases (show x.kind ≠ 6 ∨ (x.kind = 6 ∧ x.id.size = 0) ∨ (x.kind = 6 ∧ 0 < x.id.size) by omega) with h | ⟨h, h'⟩ | ⟨h, h'⟩
            · have hz : staysF x (v0, v1) = (0, 0) := by unfold staysF; rw [if_neg (fun h' => h h'.1)]
              rw [hz] at r0 r1
              have d : (x.kind == 6) = false := by rw [beq_eq_false_iff_ne]; exact h
              clear h hz
              go_upto_region 23 with (fail)
              go_quiet (fail)
              all_goals go_wp2
              go_roundw
              case rel => exact ⟨k + 1, by omega, by go_num, below_drewN (below_al BW _) _⟩
              case measure => simp [intOf]; omega
            · have hz : staysF x (v0, v1) = (0, 0) := by unfold staysF; rw [if_neg (fun h'' => by omega)]
              rw [hz] at r0 r1
              have d : (x.kind == 6) = true := by rw [beq_iff_eq]; exact h
              have e1 : x.id.toList = [] := by rw [ByteArray.toList_eq]; exact List.eq_nil_of_length_eq_zero (by rw [← Lib.size_eq]; exact h')
              clear h h' hz
              go_upto_region 23 with (fail)
              go_quiet (fail)
              all_goals go_wp2
              go_roundw
              case rel => exact ⟨k + 1, by omega, by go_num, below_drewN (below_al BW _) _⟩
              case measure => simp [intOf]; omega
            · have hz : staysF x (v0, v1) = (v0, v1) := by unfold staysF; rw [if_pos ⟨h, h'⟩]
              rw [hz] at r0 r1
              have d : (x.kind == 6) = true := by rw [beq_iff_eq]; exact h
              have e2 := ne_nil_of_pos h'
              have e3 : x.id.toList.isEmpty = false := by rw [List.isEmpty_eq_false_iff]; exact e2
              clear h h' hz
              go_upto_region 23 with (fail)
              go_quiet (fail)
              all_goals go_wp2
              go_roundw
              case rel => exact ⟨k + 1, by omega, by go_num, below_drewN (below_al BW _) _⟩
              case measure => simp [intOf]; omega
          · obtain rfl : k = T.length := by omega
            have BF : Below w.heap.size w wr := below_via BW B2
            clear hlt hk
            go_wp2
            go_ret
            exact ⟨rfl, BF⟩
      · have hR : (carryR T T G).length = 0 := by unfold carryR; rw [if_neg hck]; rfl
        rw [hR]
        clear hno hao hck
        go_wp2
        go_ret
        exact ⟨rfl, B2⟩
end Go.Proofs.Ytegdokchkblpiaa
