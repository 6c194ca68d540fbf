/- Lent offsets: memory of their own, with marks behind them. -/
import Derived.Test.YtegdokchkblpiaaLntD
import Derived.Test.YtegdokchkblpiaaTreS
namespace Go.Proofs.Ytegdokchkblpiaa
open Go.RowKit Go.Deep
set_option linter.unusedVariables false
set_option linter.unusedSimpArgs false

theorem cellsO_pair (O : List (Int × Int)) (i : Nat) (h : i < O.length) : (cellsO O)[i * 2]? = some (.int .i64 (O.getD i (0, 0)).1) ∧ (cellsO O)[i * 2 + 1]? = some (.int .i64 (O.getD i (0, 0)).2) := by
  constructor
  · rw [cellsO_get O (i * 2) (by omega)]; unfold cellQ; rw [if_pos (by omega), show i * 2 / 2 = i by omega]
  · rw [cellsO_get O (i * 2 + 1) (by omega)]; unfold cellQ; rw [if_neg (by omega), show (i * 2 + 1) / 2 = i by omega]
theorem OffsAt.src {w : World} {p : Option Addr} {O : List (Int × Int)} (h : OffsAt w p O) : Src w p O.length 2 (cellsO O) := by
  refine ⟨cellsO_len O, fun h0 => ?_⟩
  obtain ⟨b, off, e, hz, hc⟩ := h h0
  refine ⟨b, off, e, hz, fun j u hu => ?_⟩
  have hj : j < O.length * 2 := by
    by_cases h : j < O.length * 2
    · exact h
    · rw [List.getElem?_eq_none (by rw [cellsO_len]; omega)] at hu; cases hu
  obtain ⟨h0, h1⟩ := hc (j / 2) (by omega)
  obtain ⟨g0, g1⟩ := cellsO_pair O (j / 2) (by omega)
  rcases (show j = j / 2 * 2 ∨ j = j / 2 * 2 + 1 by omega) with e | e
  · rw [e] at hu ⊢; rw [h0, ← g0]; exact hu
  · rw [e] at hu ⊢; rw [← Nat.add_assoc, h1, ← g1]; exact hu
theorem range_offs {w : World} {g : Nat} {O : List (Int × Int)} (hz : g < w.heap.size) (h : w.rangeAt g 0 (cellsO O)) : OffsAt w (some ⟨g, 0, none⟩) O := fun h0 => ⟨g, 0, rfl, hz, fun i hi => by
  obtain ⟨g0, g1⟩ := cellsO_pair O i hi
  exact ⟨h _ _ g0, by have := h _ _ g1; rwa [← Nat.add_assoc] at this⟩⟩
theorem offs_one (O : List (Int × Int)) : ∀ u ∈ cellsO O, u.oneCell' = true := fun u hu => by
  obtain ⟨a, _, h⟩ := List.mem_flatMap.1 hu
  simp only [List.mem_cons, List.not_mem_nil, or_false] at h
  rcases h with rfl | rfl <;> rfl
def spO : List (Int × Int) := [(-7, 0), (-7, 0), (-7, 0)]
def OffLent (w : World) (B : Nat) (v : Value) (O : List (Int × Int)) : Prop := ∃ g c, v = .slice (some ⟨g, 0, none⟩) O.length c ∧ w.ownsRow B 25 2 (.slice (some ⟨g, 0, none⟩) (O.length + 3) c) (O.length + 3) (cellsO (O ++ spO))
theorem OffLent.later {w w' : World} {B : Nat} {v : Value} {O : List (Int × Int)} (h : OffLent w B v O) (hb : Below w.heap.size w w') : OffLent w' B v O := by
  obtain ⟨g, c, e, h1⟩ := h
  exact ⟨g, c, e, row_later h1 hb⟩
theorem OffLent.cells {w : World} {B : Nat} {v : Value} {O : List (Int × Int)} (h : OffLent w B v O) : ∃ g c, v = .slice (some ⟨g, 0, none⟩) O.length c ∧ O.length + 3 ≤ c ∧ c ≤ maxLen ∧ g < w.heap.size ∧ B ≤ g ∧ OffsAt w (some ⟨g, 0, none⟩) (O ++ spO) := by
  obtain ⟨g, c, e, hr⟩ := h
  rcases row_form hr with ⟨e', _⟩ | ⟨g', c', e', h1, h2, h3, h4⟩
  · cases e'
  · injection e' with e1 _ e3
    injection e1 with e1
    injection e1 with e1
    subst e1 e3
    exact ⟨g, c, e, h1, h2, h3, h4, range_offs h3 (row_cells hr)⟩
theorem OffsAt.left {w : World} {p : Option Addr} {O M : List (Int × Int)} (h : OffsAt w p (O ++ M)) : OffsAt w p O := fun h0 => by
  obtain ⟨b, off, e, hz, hc⟩ := h (by simp; omega)
  refine ⟨b, off, e, hz, fun i hi => ?_⟩
  have := hc i (by simp; omega)
  rwa [List.getD_eq_getElem?_getD, List.getElem?_append_left hi, ← List.getD_eq_getElem?_getD] at this
set_option maxRecDepth 100000 in
set_option maxHeartbeats 16000000 in
theorem same_Offsets_any (p p' : Option Addr) (c c' : Nat) (O : List (Int × Int)) (w : World) (hn : O.length ≤ 9223372036854775807) (h : OffsAt w p O) (h' : OffsAt w p' O) : Calls Try.prog 29 #[.slice p O.length c, .slice p' O.length c'] w fun e w' => e = .returned (.bool true) ∧ Below w.heap.size w w' := by
  have HC := Lib.hid h
  have HD := Lib.hid h'
  clear h h'
  go_enter Try.func29, Try.ntmps29
  go_wp2
  go_loopw [13] (fun i wr => ∃ k : Nat, k ≤ O.length ∧ i = .int .i64 k ∧ Below w.heap.size w wr) (fun i _ => O.length - (intOf i).toNat)
  case atStart => exact ⟨0, Nat.zero_le _, rfl, Below.refl _ _⟩
  case round =>
    obtain ⟨k, hk, rfl, BW⟩ := hrel
    have SW := BW.size
    by_cases hlt : k < O.length
    · have hki : (k : Int) < (O.length : Int) := by omega
      obtain ⟨b, off, rfl, hb, hcc⟩ := HC.out (by omega)
      obtain ⟨b', off', rfl, hb', hcc'⟩ := HD.out (by omega)
      obtain ⟨c1, c2⟩ := hcc k hlt
      obtain ⟨c3, c4⟩ := hcc' k hlt
      rw [← (bcell BW).1 _ _ hb] at c1 c2
      rw [← (bcell BW).1 _ _ hb'] at c3 c4
      have hbw : b < wr.heap.size := by omega
      have hbw' : b' < wr.heap.size := by omega
      clear hcc hcc'
      generalize O.getD k (0, 0) = x at c1 c2 c3 c4
      obtain ⟨x, y⟩ := x
      simp only [] at c1 c2 c3 c4
      go_upto_region 6 with (fail)
      go_quiet (fail)
      all_goals go_wp2
      go_roundw
      case rel => exact ⟨k + 1, by omega, by go_num, below_drewN_ BW _⟩
      case measure => simp [intOf]; omega
    · obtain rfl : k = O.length := by omega
      clear hlt hk
      go_wp2
      go_ret
      exact ⟨rfl, BW⟩
set_option maxRecDepth 100000 in
set_option maxHeartbeats 16000000 in
theorem lentOffsets_any (p : Option Addr) (c : Nat) (O : List (Int × Int)) (w : World) (hB : OffsAt w p O) (hN : O.length * 16 ≤ 140737488351232) : Calls Try.prog 27 #[.slice p O.length c] w fun e w' => ∃ v, e = .returned v ∧ OffLent w' w.heap.size v O ∧ Below w.heap.size w w' := by
  obtain ⟨i0, hi, hz0, hz1, hz2⟩ := info_parts infoOff
  obtain ⟨cur, hcur, mkN⟩ := make_row Try.underlying48 hi hz0 hz1 hz2 (by rfl) O.length (by omega) (by omega)
  have HI := Lib.hid (And.intro hi (And.intro hz0 (And.intro hz1 hz2)))
  have hlen : O.length ≤ 8796093021952 := by omega
  have OW0 := Lib.hid (World.ownsRow_made (base := w.heap.size) (e := 25) (size := 2) w cur (O.length + 3) (Nat.le_refl _) (by unfold maxLen; omega) hcur)
  have B0 := below_al (Below.refl w.heap.size w) (.cells cur 25)
  have SR0 := Lib.hid (hB.later B0 (Nat.le_refl _)).src
  have H1 := Lib.hid (offs_one O)
  clear hi hz0 hz1 hz2 hB hcur
  go_enter Try.func27, Try.ntmps27
  go_wp2_with (at_builtin; go_must (refine wpList_append_src _ rfl (.tmp 8) (.tmp 9) 48 rfl w.heap.size 25 i0 _ 2 16 Try.underlying48 HI.out.1 HI.out.2.1 HI.out.2.2.1 HI.out.2.2.2 rfl (by decide) _ 0 [] rfl OW0.out p O.length c _ rfl SR0.out H1.out ?h1 ?h2 ?h3 ?_))
  case h1 => unfold maxLen; omega
  case h2 => omega
  case h3 => simp
  intro v1 w1 own1 gr1 pl1
  (try simp only [List.nil_append, Nat.zero_add] at own1)
  have B1 : Below w.heap.size w w1 := Below.grown B0 gr1 (by simp) (fun g hg => by simp [Value.ownBlock] at hg; omega)
  have OW1 := Lib.hid (row_later own1 (below_al (Below.refl _ _) (.cells (cellsO spO).toArray 25)))
  have SR1 := Lib.hid (src_new w1 (cellsO spO).toArray 25 3 2 rfl)
  have H2 := Lib.hid (offs_one spO)
  have hv1 := Lib.hid (fun g hg => (row_lt own1 g hg).2)
  have hw1 : w.heap.size ≤ w1.heap.size := B1.size
  clear own1 gr1 pl1 OW0 SR0 H1 B0 mkN
  have hnm : O.length + 3 ≤ maxLen := by unfold maxLen; omega
  go_wp2_with (first | ((with_reducible refine wpList_buildSlice_all _ ?b1 48 25 3 #[(0, .tmp 12), (1, .tmp 13), (2, .tmp 14)] ?b2 i0 _ 2 Try.underlying48 HI.out.1 HI.out.2.1 HI.out.2.2.1 ?b6 [cellsO [(-7, 0)], cellsO [(-7, 0)], cellsO [(-7, 0)]] ?b7 ?b3 ?b4 ?b5 ?_); (case b1 => rfl); (case b2 => rfl); (case b6 => decide); (case b7 => rfl); (case b3 => rfl); (case b4 => (intro a ha; simp at ha; rw [ha]; rfl)); (case b5 => (show 3 * 2 ≤ 16777216; decide))) | (at_builtin; go_must (refine wpList_append_src _ rfl (.tmp 11) (.tmp 15) 48 rfl w.heap.size 25 i0 _ 2 16 Try.underlying48 HI.out.1 HI.out.2.1 HI.out.2.2.1 HI.out.2.2.2 rfl (by decide) _ O.length _ rfl OW1.out (some ⟨w1.heap.size, 0, none⟩) 3 3 _ rfl SR1.out ?q1 hnm ?q2 ?q3 ?_)))
  case q1 => first | exact H2.out | (intro u hu; exact H2.out u (by simpa using hu))
  case q2 => omega
  case q3 => first | omega | (simp; omega)
  intro v2 w2 own2 gr2 pl2
  have gr2' : (w1.alloc (.cells (cellsO spO).toArray 25)).grownBy w2 v1.ownBlock := gr2
  have B2 : Below w.heap.size w w2 := Below.grown (below_al B1 _) gr2' (by simp; omega) (fun g hg => by have := hv1.out g hg; omega)
  have own2' : w2.ownsRow w.heap.size 25 2 v2 (O.length + 3) (cellsO (O ++ spO)) := by rw [cellsO_append]; exact own2
  rcases row_form own2' with ⟨_, h0, _⟩ | ⟨g, c2, rfl, hn2, hm2, hz2, hb2⟩
  · omega
  have LA := Lib.hid (show OffLent w2 w.heap.size (.slice (some ⟨g, 0, none⟩) O.length c2) O from ⟨g, c2, rfl, own2'⟩)
  have hlk' : (O.length : Int) ≤ (c2 : Int) := by omega
  clear own2 gr2 gr2' own2' OW1 SR1 H2 hv1 pl2 B1
  go_wp2
  go_ret
  exact ⟨_, rfl, LA.out, B2⟩
set_option maxRecDepth 100000 in
set_option maxHeartbeats 16000000 in
theorem keptOffsets_any (v : Value) (p : Option Addr) (c B : Nat) (O : List (Int × Int)) (w : World) (hL : OffLent w B v O) (hB : OffsAt w p O) : Calls Try.prog 30 #[v, .slice p O.length c] w fun e w' => e = .returned (.bool true) ∧ Below w.heap.size w w' := by
  obtain ⟨g, cg, rfl, hlk, hlm, hg, _, hat⟩ := hL.cells
  have hlm' : cg ≤ 9223372036854775807 := hlm
  have hlk' : (O.length : Int) + 3 ≤ (cg : Int) := by omega
  have hn : O.length ≤ 9223372036854775804 := by omega
  have HA := Lib.hid hat
  have HB := Lib.hid hB
  clear hL hB hat hlm
  go_enter Try.func30, Try.ntmps30
  go_wp2
  go_loopw [6] (fun i wr => ∃ k : Nat, O.length ≤ k ∧ k ≤ O.length + 3 ∧ i = .int .i64 k ∧ Below w.heap.size w wr) (fun i _ => O.length + 3 - (intOf i).toNat)
  case atStart => exact ⟨O.length, Nat.le_refl _, by omega, rfl, Below.refl _ _⟩
  case round =>
    obtain ⟨k, hk0, hk, rfl, BW⟩ := hrel
    have SW := BW.size
    rcases (show k < O.length + 3 ∨ k = O.length + 3 by omega) with hlt | rfl
    · have hki2 : (k : Int) < (O.length : Int) + 3 := by omega
      obtain ⟨b, off, e, hb, hcc⟩ := HA.out (by simp [spO])
      injection e with e
      injection e with e1 e2
      subst e1 e2
      obtain ⟨c1, c2⟩ := hcc k (by simp [spO]; omega)
      have e : (O ++ spO).getD k (0, 0) = (-7, 0) := by
        rw [List.getD_eq_getElem?_getD, List.getElem?_append_right hk0]
        rcases (show k - O.length = 0 ∨ k - O.length = 1 ∨ k - O.length = 2 by omega) with h | h | h <;> rw [h] <;> rfl
      rw [e] at c1 c2
      rw [← (bcell BW).1 _ _ hb] at c1 c2
      rw [Nat.zero_add] at c1 c2
      have hbw : g < wr.heap.size := by omega
      clear hcc e
      go_wp2
      go_roundw
      case rel => exact ⟨k + 1, by omega, by omega, by go_num, BW⟩
      case measure => simp [intOf]; omega
    · clear hk
      have HC := Lib.hid ((HA.out.later BW (Nat.le_refl _)).left)
      have HD := Lib.hid (HB.out.later BW (Nat.le_refl _))
      have hnn : O.length ≤ 9223372036854775807 := by omega
      go_wp2_with fail
      refine (same_Offsets_any _ _ _ _ O _ hnn HC.out HD.out).mono ?_
      rintro e w2 ⟨rfl, hb2⟩
      have B2 := below_via hb2 BW
      clear hb2 BW
      go_wp2
      go_ret
      exact ⟨rfl, B2⟩
end Go.Proofs.Ytegdokchkblpiaa
