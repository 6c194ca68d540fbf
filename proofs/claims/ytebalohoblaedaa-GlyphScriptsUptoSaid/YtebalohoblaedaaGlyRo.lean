/- Layer 13: Rows: the characters, row by row. -/
import Derived.Test.YtebalohoblaedaaGlyM
import Derived.Test.YtebalohoblaedaaGlyO
import Derived.Test.YtebalohoblaedaaGlyI
import Derived.Test.YtebalohoblaedaaBld
import Derived.Test.YtebalohoblaedaaAnyH
import Derived.Test.YtebalohoblaedaaAppK
import Derived.Test.YtebalohoblaedaaLntO
import Derived.OneCell
namespace Go.Proofs.Ytebalohoblaedaa
open Go.RowKit
set_option linter.unusedVariables false
set_option linter.unusedSimpArgs false

theorem infoStr_ : (Try.prog.info? 9).map (fun i => (i.zero, i.size, i.bytes)) = some (some (.string ⟨#[]⟩), 1, 16) := by kernel_rfl
/-- the first n characters of a row -/
def rowB (W : Nat) (L : List A4) (y n : Nat) : List UInt8 := (List.range n).flatMap fun x => Lib.encodeRune (runeA (L.getD (y * W + x) zA))
/-- the first n rows -/
def rowsN (W : Nat) (L : List A4) (n : Nat) : List Value := (List.range n).map fun y => .string ⟨(rowB W L y W).toArray⟩
theorem rowB_succ (W : Nat) (L : List A4) (y n : Nat) : rowB W L y (n + 1) = rowB W L y n ++ Lib.encodeRune (runeA (L.getD (y * W + n) zA)) := by
  unfold rowB; rw [List.range_succ, List.flatMap_append]; simp
theorem rowsN_succ (W : Nat) (L : List A4) (n : Nat) : rowsN W L (n + 1) = rowsN W L n ++ [.string ⟨(rowB W L n W).toArray⟩] := by
  unfold rowsN; rw [List.range_succ, List.map_append]; rfl
theorem rowB_len (W : Nat) (L : List A4) (y n : Nat) : (rowB W L y n).length ≤ 4 * n := by
  induction n with
  | zero => exact Nat.le_refl _
  | succ n ih =>
    rw [rowB_succ, List.length_append]
    have := Lib.runeCells_le (runeA (L.getD (y * W + n) zA))
    rw [Lib.runeCells_length] at this
    omega
set_option maxRecDepth 1000000 in
theorem rune_rng5 : ∀ a b c d : Fin 5, (decide (0 ≤ runeC ⟨f5 a, f5 b, f5 c, f5 d⟩) && decide (runeC ⟨f5 a, f5 b, f5 c, f5 d⟩ ≤ 65535)) = true := by decide +kernel
theorem rune_rng (a : A4) : 0 ≤ runeA a ∧ runeA a ≤ 65535 := by
  unfold runeA cntA
  obtain ⟨i, hi⟩ := cnt_f5 a.u
  obtain ⟨j, hj⟩ := cnt_f5 a.r
  obtain ⟨k, hk⟩ := cnt_f5 a.d
  obtain ⟨l, hl⟩ := cnt_f5 a.l
  rw [hi, hj, hk, hl]
  have := rune_rng5 i j k l
  simpa using this
theorem bld_later {B b : Nat} {bs : List Value} {w w' : World} (h : Lib.IsBuilderF 100 5 B b bs w) (hb : Below w.heap.size w w') : Lib.IsBuilderF 100 5 B b bs w' := by
  have key : ∀ p, Lib.BuilderAtF 100 5 B b p bs w → Lib.BuilderAtF 100 5 B b p bs w' := fun p h => by
    have hl := h.lt
    obtain ⟨hB, v, hk, hown, hne⟩ := h
    exact ⟨hB, v, (hb.block b hl).trans hk, hown.kept (row := none) (only_of_below hb none) (by cases v.ownBlock <;> simp), hne⟩
  exact h.elim (fun h => .inl (key _ h)) (fun h => .inr (key _ h))

set_option maxRecDepth 100000 in
set_option maxHeartbeats 16000000 in
theorem rows_any (g gc W H : Nat) (L : List A4) (w : World) (hp : PlanAt w g gc W H L) : Calls Try.prog 30 #[.pointer (some ⟨g, 0, none⟩)] w fun e w' => ∃ v, e = .returned v ∧ w'.ownsRow w.heap.size 9 1 v H (rowsN W L H) ∧ Below w.heap.size w w' := by
  obtain ⟨i0, hi, hz0, hz1, hz2⟩ := info_parts infoStr_
  have HI := Lib.hid (And.intro hi (And.intro hz0 (And.intro hz1 hz2)))
  clear hi hz0 hz1 hz2
  obtain ⟨hg, hgc, c0, c1, c2⟩ := hp.cells
  have hw := hp.bw
  have hh := hp.bh
  have hbn := hp.bn
  have HP := Lib.hid (show ∀ w', Below w.heap.size w w' → PlanAt w' g gc W H L from fun w' h => hp.later h hg hgc)
  clear hp
  go_enter Try.func30, Try.ntmps30
  go_wp2
  clear c0 c1 c2
  go_loopw [13, 3] (fun iv sv wr => ∃ y : Nat, iv = .int .i64 y ∧ y ≤ H ∧ RowKit.Hid (wr.ownsRow w.heap.size 9 1 sv y (rowsN W L y) ∧ Below w.heap.size w wr)) (fun iv _ _ => H - (intOf iv).toNat)
  case atStart => exact ⟨0, rfl, Nat.zero_le _, Lib.hid ⟨⟨rfl, .inl ⟨rfl, rfl⟩⟩, Below.refl _ _⟩⟩
  case round =>
    obtain ⟨y, rfl, hy, HR⟩ := hrel
    obtain ⟨wo, rfl⟩ : ∃ wo : World, wo = wr := ⟨_, rfl⟩
    have zb : w.heap.size ≤ wo.heap.size := by have := HR.out.2.size; omega
    by_cases hyH : y < H
    · have hyi : (y : Int) < (H : Int) := by omega
      obtain ⟨w1, hw1⟩ : ∃ x, x = wo.alloc (.cells #[.pointer none, .slice none 0 0] 100) := ⟨_, rfl⟩
      have B1 : Below wo.heap.size wo w1 := by rw [hw1]; exact below_al (Below.refl _ _) _
      have HBD := Lib.hid (show Lib.IsBuilderF 100 5 wo.heap.size wo.heap.size (Lib.byteCells []) w1 by rw [hw1]; exact Lib.IsBuilderF.of (Lib.fresh_isBuilder 100 5 wo))
      go_upto_region 8 with (fail)
      rw [← hw1]
      have HB1 := Lib.hid (show Below wo.heap.size wo w1 from B1)
      have HT1 := Lib.hid (show Below w.heap.size w w1 from by
        have h2 := HR.out.2
        exact h2.trans (B1.mono zb))
      obtain ⟨_, _, c0, c1, c2⟩ := (HP.out w1 (HT1.out)).cells
      have zg : g < w1.heap.size := by have := HT1.out.size; have := B1.size; omega
      clear hw1 B1
      go_wp2
      clear c0 c1 c2 zg
      go_loopw [20] (fun iv wq => ∃ x : Nat, iv = .int .i64 x ∧ x ≤ W ∧ RowKit.Hid (Lib.IsBuilderF 100 5 wo.heap.size wo.heap.size (Lib.byteCells (rowB W L y x)) wq ∧ Below wo.heap.size wo wq)) (fun iv _ => W - (intOf iv).toNat)
      case atStart => exact ⟨0, rfl, Nat.zero_le _, Lib.hid ⟨HBD.out, HB1.out⟩⟩
      case round =>
        obtain ⟨x, rfl, hx, HQ⟩ := hrel
        clear HBD HB1 HT1
        have HTq := Lib.hid (show Below w.heap.size w wr from HR.out.2.trans (HQ.out.2.mono (by omega)))
        have zq : wo.heap.size ≤ wr.heap.size := by have := HQ.out.2.size; omega
        by_cases hxW : x < W
        · have hxi : (x : Int) < (W : Int) := by omega
          have hn : y * W + x < W * H := by
            have : (y + 1) * W ≤ H * W := Nat.mul_le_mul_right W hyH
            rw [Nat.mul_comm W H]
            rw [Nat.add_mul] at this
            omega
          obtain ⟨a, ha⟩ : ∃ a, a = L.getD (y * W + x) zA := ⟨_, rfl⟩
          have HF := Lib.hid (show ∀ w', Below w.heap.size w w' → (g < w'.heap.size ∧ gc < w'.heap.size ∧ w'.cell? ⟨g, 0, none⟩ = some (.int .i64 (W : Int)) ∧ w'.cell? ⟨g, 2, none⟩ = some (.slice (some ⟨gc, 0, none⟩) (W * H) (W * H)) ∧ w'.cell? ⟨gc, (y * W + x) * 4, none⟩ = some (.int .i8 a.u) ∧ w'.cell? ⟨gc, (y * W + x) * 4 + 1, none⟩ = some (.int .i8 a.r) ∧ w'.cell? ⟨gc, (y * W + x) * 4 + 2, none⟩ = some (.int .i8 a.d) ∧ w'.cell? ⟨gc, (y * W + x) * 4 + 3, none⟩ = some (.int .i8 a.l)) from fun w' h => by
            have hp' := HP.out w' h
            obtain ⟨k1, k2, k3, k4, k5⟩ := hp'.cells
            obtain ⟨l0, l1, l2, l3⟩ := hp'.cell (y * W + x) hn
            rw [← ha] at l0 l1 l2 l3
            exact ⟨k1, k2, k3, k5, l0, l1, l2, l3⟩)
          have HS := Lib.hid (show rowB W L y (x + 1) = rowB W L y x ++ Lib.encodeRune (runeA a) by rw [rowB_succ, ← ha])
          obtain ⟨n, hN⟩ : ∃ n, n = y * W := ⟨_, rfl⟩
          have hm : (y : Int) * (W : Int) = (n : Int) := by rw [hN, Int.natCast_mul]
          rw [← hN] at HF hn
          generalize hNM : W * H = NM at HF hn hbn
          obtain ⟨a0, a1, a2, a3⟩ := a
          simp only [] at HF
          have hnx : n + x ≤ 1048576 := by omega
          have q1 : IntKind.i64.wrap (n : Int) = n := IntWalk.i64_in _ (by omega)
          have q2 : IntKind.i64.wrap ((n : Int) + x) = n + x := IntWalk.i64_in _ (by omega)
          have q3 : ((n : Int) + x).toNat = n + x := by omega
          have q4 : 0 ≤ (n : Int) + x := by omega
          have q5 : (n : Int) + x < NM := by omega
          have HRG := Lib.hid (rune_rng ⟨a0, a1, a2, a3⟩)
          have HLN := Lib.hid (rowB_len W L y x)
          clear ha hN
          go_upto_region 11 with (fail)
          have H00 := Lib.hid (show Below w.heap.size w wr.drew from Below.drew HTq.out)
          refine wp_region_noPanic ?_
          refine wp_region_held (S := fun w' => Below w.heap.size w w') (by kernel_rfl) ?_
          change wpAnyH _ _ _ _ _ 16 (Array.replicate 16 false) _ _
          refine wpAnyH_take (i := 0) (v := ?v0) (by simp only [List.getElem?_toArray, List.getElem?_cons_succ, List.getElem?_cons_zero]; rfl) (by kernel_rfl) (by kernel_rfl) (by kernel_rfl) (fun _ _ _ h => h) (.inl ⟨by rfl, ?t0⟩) ?s0 ?_
          case t0 => (intro w' h; clear h; go_simp; try rfl)
          case s0 => exact H00.out
          (try simp only [Act.put, List.setIfInBounds_toArray, List.set_cons_zero, List.set_cons_succ])
          refine wpAnyH_take (i := 1) (v := ?v1) (by simp only [List.getElem?_toArray, List.getElem?_cons_succ, List.getElem?_cons_zero]; rfl) (by kernel_rfl) (by kernel_rfl) (by kernel_rfl) (fun _ _ _ h => h) (.inl ⟨by rfl, ?t1⟩) ?s1 ?_
          case t1 => (intro w' h; clear h; go_simp; try rfl)
          case s1 => exact H00.out
          (try simp only [Act.put, List.setIfInBounds_toArray, List.set_cons_zero, List.set_cons_succ])
          refine wpAnyH_take (i := 2) (v := ?v2) (by simp only [List.getElem?_toArray, List.getElem?_cons_succ, List.getElem?_cons_zero]; rfl) (by kernel_rfl) (by kernel_rfl) (by kernel_rfl) (fun _ _ _ h => h) (.inl ⟨by rfl, ?t2⟩) ?s2 ?_
          case t2 => (intro w' h; clear h; go_simp; try rfl)
          case s2 => exact H00.out
          (try simp only [Act.put, List.setIfInBounds_toArray, List.set_cons_zero, List.set_cons_succ])
          refine wpAnyH_take (i := 3) (v := ?v3) (by simp only [List.getElem?_toArray, List.getElem?_cons_succ, List.getElem?_cons_zero]; rfl) (by kernel_rfl) (by kernel_rfl) (by kernel_rfl) (fun _ _ _ h => h) (.inl ⟨by rfl, ?t3⟩) ?s3 ?_
          case t3 => (intro w' h; have FK := HF.out w' h; clear h; go_split_ands; go_simp; try rfl)
          case s3 => exact H00.out
          (try simp only [Act.put, List.setIfInBounds_toArray, List.set_cons_zero, List.set_cons_succ])
          refine wpAnyH_take (i := 4) (v := ?v4) (by simp only [List.getElem?_toArray, List.getElem?_cons_succ, List.getElem?_cons_zero]; rfl) (by kernel_rfl) (by kernel_rfl) (by kernel_rfl) (fun _ _ _ h => h) (.inl ⟨by rfl, ?t4⟩) ?s4 ?_
          case t4 => (intro w' h; clear h; go_simp; try rfl)
          case s4 => exact H00.out
          (try simp only [Act.put, List.setIfInBounds_toArray, List.set_cons_zero, List.set_cons_succ])
          refine wpAnyH_take (i := 5) (v := ?v5) (by simp only [List.getElem?_toArray, List.getElem?_cons_succ, List.getElem?_cons_zero]; rfl) (by kernel_rfl) (by kernel_rfl) (by kernel_rfl) (fun _ _ _ h => h) (.inl ⟨by rfl, ?t5⟩) ?s5 ?_
          case t5 => (intro w' h; clear h; go_simp; try rfl)
          case s5 => exact H00.out
          (try simp only [Act.put, List.setIfInBounds_toArray, List.set_cons_zero, List.set_cons_succ])
          refine wpAnyH_take (i := 6) (v := ?v6) (by simp only [List.getElem?_toArray, List.getElem?_cons_succ, List.getElem?_cons_zero]; rfl) (by kernel_rfl) (by kernel_rfl) (by kernel_rfl) (fun _ _ _ h => h) (.inl ⟨by rfl, ?t6⟩) ?s6 ?_
          case t6 => (intro w' h; clear h; go_simp; try rfl)
          case s6 => exact H00.out
          (try simp only [Act.put, List.setIfInBounds_toArray, List.set_cons_zero, List.set_cons_succ])
          refine wpAnyH_take (i := 7) (v := ?v7) (by simp only [List.getElem?_toArray, List.getElem?_cons_succ, List.getElem?_cons_zero]; rfl) (by kernel_rfl) (by kernel_rfl) (by kernel_rfl) (fun _ _ _ h => h) (.inl ⟨by rfl, ?t7⟩) ?s7 ?_
          case t7 => (intro w' h; clear h; go_simp; try rfl)
          case s7 => exact H00.out
          (try simp only [Act.put, List.setIfInBounds_toArray, List.set_cons_zero, List.set_cons_succ])
          refine wpAnyH_take (i := 8) (v := ?v8) (by simp only [List.getElem?_toArray, List.getElem?_cons_succ, List.getElem?_cons_zero]; rfl) (by kernel_rfl) (by kernel_rfl) (by kernel_rfl) (fun _ _ _ h => h) (.inl ⟨by rfl, ?t8⟩) ?s8 ?_
          case t8 => (intro w' h; have FK := HF.out w' h; clear h; go_split_ands; go_simp; try rfl)
          case s8 => exact H00.out
          (try simp only [Act.put, List.setIfInBounds_toArray, List.set_cons_zero, List.set_cons_succ])
          refine wpAnyH_take (i := 9) (v := ?v9) (by simp only [List.getElem?_toArray, List.getElem?_cons_succ, List.getElem?_cons_zero]; rfl) (by kernel_rfl) (by kernel_rfl) (by kernel_rfl) (fun _ _ _ h => h) (.inl ⟨by rfl, ?t9⟩) ?s9 ?_
          case t9 => (intro w' h; clear h; go_simp; try rfl)
          case s9 => exact H00.out
          (try simp only [Act.put, List.setIfInBounds_toArray, List.set_cons_zero, List.set_cons_succ])
          refine wpAnyH_take (i := 10) (v := ?v10) (by simp only [List.getElem?_toArray, List.getElem?_cons_succ, List.getElem?_cons_zero]; rfl) (by kernel_rfl) (by kernel_rfl) (by kernel_rfl) (fun _ _ _ h => h) (.inl ⟨by rfl, ?t10⟩) ?s10 ?_
          case t10 => (intro w' h; clear h; go_simp; try rfl)
          case s10 => exact H00.out
          (try simp only [Act.put, List.setIfInBounds_toArray, List.set_cons_zero, List.set_cons_succ])
          refine wpAnyH_take (i := 11) (v := ?v11) (by simp only [List.getElem?_toArray, List.getElem?_cons_succ, List.getElem?_cons_zero]; rfl) (by kernel_rfl) (by kernel_rfl) (by kernel_rfl) (fun _ _ _ h => h) (.inl ⟨by rfl, ?t11⟩) ?s11 ?_
          case t11 => (intro w' h; clear h; go_simp; try rfl)
          case s11 => exact H00.out
          (try simp only [Act.put, List.setIfInBounds_toArray, List.set_cons_zero, List.set_cons_succ])
          refine wpAnyH_take (i := 12) (v := ?v12) (by simp only [List.getElem?_toArray, List.getElem?_cons_succ, List.getElem?_cons_zero]; rfl) (by kernel_rfl) (by kernel_rfl) (by kernel_rfl) (fun _ _ _ h => h) (.inl ⟨by rfl, ?t12⟩) ?s12 ?_
          case t12 => (intro w' h; have FK := HF.out w' h; clear h; go_split_ands; go_simp; try rfl)
          case s12 => exact H00.out
          (try simp only [Act.put, List.setIfInBounds_toArray, List.set_cons_zero, List.set_cons_succ])
          refine wpAnyH_take (i := 13) (v := ?v13) (by simp only [List.getElem?_toArray, List.getElem?_cons_succ, List.getElem?_cons_zero]; rfl) (by kernel_rfl) (by kernel_rfl) (by kernel_rfl) (fun _ _ _ h => h) (.inl ⟨by rfl, ?t13⟩) ?s13 ?_
          case t13 => (intro w' h; have FK := HF.out w' h; clear h; go_split_ands; go_simp; try rfl)
          case s13 => exact H00.out
          (try simp only [Act.put, List.setIfInBounds_toArray, List.set_cons_zero, List.set_cons_succ])
          refine wpAnyH_one (i := 14) (by kernel_rfl) ?_
          refine wpOp_call (by simp only [List.getElem?_toArray, List.getElem?_cons_succ, List.getElem?_cons_zero]; rfl) (by rfl) (by go_simp; first | exact ⟨rfl, rfl⟩ | rfl) ?_
          refine (rune4 a0 a1 a2 a3 _).mono ?_
          rintro e wa ⟨rfl, hb⟩
          have hb := below_via hb (Below.drew (Below.refl wr.heap.size wr))
          have Ha := Lib.hid (show Below w.heap.size w wa from HTq.out.trans (hb.mono (by omega)))
          have HBa := Lib.hid (bld_later HQ.out.1 hb)
          have HCa := Lib.hid (show Below wo.heap.size wo wa from HQ.out.2.trans (hb.mono zq))
          have za : wo.heap.size ≤ wa.heap.size := by have := hb.size; omega
          clear hb
          refine ⟨_, rfl, Ha.out, ?_⟩
          (try simp only [Act.put, List.setIfInBounds_toArray, List.set_cons_zero, List.set_cons_succ])
          generalize runeA ⟨a0, a1, a2, a3⟩ = rr at *
          have r0 : -2147483648 ≤ rr := by have := HRG.out; omega
          have r1 : rr ≤ 2147483647 := by have := HRG.out; omega
          have r2 : (Lib.byteCells (rowB W L y x)).length + 4 ≤ 140737488355328 := by rw [Lib.byteCells_length]; have := HLN.out; omega
          have HCR := Lib.hid (bld_Rune wo.heap.size wo.heap.size _ rr r0 r1 wa HBa.out r2 za)
          refine wpAnyH_one (i := 15) (by kernel_rfl) ?_
          refine wpOp_call (by simp only [List.getElem?_toArray, List.getElem?_cons_succ, List.getElem?_cons_zero]; rfl) (by rfl) (by go_simp; first | exact ⟨rfl, rfl⟩ | rfl) ?_
          refine (HCR.out).mono ?_
          rintro e wb ⟨rfl, hI, hb⟩
          have Hb := Lib.hid (Ha.out.trans (hb.mono (by omega)))
          have HQ2 := Lib.hid (show Lib.IsBuilderF 100 5 wo.heap.size wo.heap.size (Lib.byteCells (rowB W L y (x + 1))) wb ∧ Below wo.heap.size wo wb from ⟨by rw [HS.out, Lib.byteCells_append, Lib.byteCells_encodeRune]; exact hI, HCa.out.trans hb⟩)
          clear hb hI
          refine ⟨_, rfl, Hb.out, ?_⟩
          (try simp only [Act.put, List.setIfInBounds_toArray, List.set_cons_zero, List.set_cons_succ])
          refine wpAnyH_done (by kernel_rfl) (NoPanic.normal ?_) _
          go_wp2
          go_roundw
          case rel => exact ⟨x + 1, by go_num, by omega, HQ2⟩
          case measure => simp [intOf]; omega
        · have hxi : ¬ (x : Int) < (W : Int) := by omega
          obtain rfl : x = W := by omega
          clear hx hxW
          go_wp2_with fail
          refine (bld_String wo.heap.size wo.heap.size _ wr HQ.out.1 zq).mono ?_
          rintro e w3 ⟨rfl, -, hb3, -⟩
          have B3 : Below wo.heap.size wo w3 := HQ.out.2.trans hb3
          have OW3 := Lib.hid (row_later HR.out.1 (show Below wo.heap.size wo w3 from B3))
          have T3 : Below w.heap.size w w3 := HR.out.2.trans (B3.mono (by omega))
          have z3 : w.heap.size ≤ w3.heap.size := by have := T3.size; have := B3.size; omega
          have HB3 := Lib.hid T3
          clear B3 T3 hb3 HQ HTq zq
          go_wp2_with (at_builtin; go_must (refine append_keep rfl (.tmp 40) (.tmp 42) 67 rfl w.heap.size 9 i0 _ 1 16 Try.underlying67 HI.out.1 HI.out.2.1 HI.out.2.2.1 HI.out.2.2.2 rfl (by decide) _ y _ rfl (OW3.out.alloc _) ⟨w3.heap.size, 0, none⟩ 1 1 [.string ⟨(rowB x L y x).toArray⟩] rfl rfl ?b1 ?b2 ?b3 ?b4 ?b5 ?_))
          case b1 => exact World.news_of_block (cs := #[.string ⟨(rowB x L y x).toArray⟩]) (t := 9) (fr := (0, 0)) (heap_alloc_new _ _)
          case b2 => intro u hu; rw [List.mem_singleton] at hu; subst hu; rfl
          case b3 => unfold maxLen; omega
          case b4 => omega
          case b5 => first | omega | (simp; omega)
          intro v4 w4 own4 gr4 pl4
          have HG4 := Lib.hid (show w4.ownsRow w.heap.size 9 1 v4 (y + 1) (rowsN x L (y + 1)) ∧ Below w.heap.size w w4 from by
            rw [rowsN_succ]
            refine ⟨own4, Below.grown (HB3.out.trans ((below_al (Below.refl w3.heap.size w3) _).mono z3)) gr4 (by simp; omega) (fun k hk => (row_lt OW3.out k hk).2)⟩)
          clear own4 gr4 pl4 OW3 HR
          go_wp2
          go_roundw
          case rel => exact ⟨y + 1, by go_num, by omega, HG4⟩
          case measure => simp [intOf]; omega
    · have hyi : ¬ (y : Int) < (H : Int) := by omega
      obtain rfl : y = H := by omega
      go_wp2
      go_ret
      exact ⟨_, rfl, HR.out.1, HR.out.2⟩
end Go.Proofs.Ytebalohoblaedaa
