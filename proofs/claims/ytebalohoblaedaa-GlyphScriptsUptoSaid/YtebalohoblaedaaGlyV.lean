/- Layer 13: the walk of GlyphMerge. -/
import Derived.Test.YtebalohoblaedaaGlyR
import Derived.Laws.AppendOwnNone
import Derived.Laws.OwnMore
namespace Go.Proofs.Ytebalohoblaedaa
open Go.RowKit
set_option linter.unusedVariables false
set_option linter.unusedSimpArgs false

theorem cellsA_append (L M : List A4) : cellsA (L ++ M) = cellsA L ++ cellsA M := by simp [cellsA]
theorem cellsA_one (L : List A4) : ∀ u ∈ cellsA L, u.oneCell' = true := by
  intro u hu
  simp [cellsA] at hu
  obtain ⟨r, _, rfl | rfl | rfl | rfl⟩ := hu <;> rfl
theorem addr_add (g j : Nat) : (⟨g, 0, none⟩ : Addr).add j = ⟨g, j, none⟩ := by unfold Addr.add; split <;> simp_all
/-- a list of the call's own, as a slice -/
theorem own_slA {w : World} {base : Nat} {v : Value} {L : List A4} {n : Nat} (h : w.ownsRow base 25 4 v n (cellsA L)) (hn : n = L.length) : ∃ p c, v = .slice p n c ∧ n ≤ c ∧ (n ≠ 0 → ∃ g, p = some ⟨g, 0, none⟩ ∧ base ≤ g ∧ g < w.heap.size ∧ ArmsAt w g 0 L) := by
  have hc := h.cells (g := v.ownBlock.getD 0)
  rcases h.2 with ⟨rfl, h0⟩ | ⟨g, cap, cur, rfl, hb, hg, hcap, _, hsz, _⟩
  · exact ⟨none, 0, by rw [h0], by omega, fun h => by omega⟩
  · have hgs : g < w.heap.size := heap_lt hg
    have hc := hc (by simp [Value.ownBlock])
    simp only [Value.ownBlock, Option.getD_some, addr_add] at hc
    refine ⟨some ⟨g, 0, none⟩, cap, rfl, hcap, fun _ => ⟨g, rfl, hb, hgs, fun i hi => ?_⟩⟩
    obtain ⟨d0, d1, d2, d3⟩ := cellsA_at L i hi
    refine ⟨?_, ?_, ?_, ?_⟩
    · rw [Nat.zero_add]; exact hc _ _ d0
    · rw [Nat.zero_add]; exact hc _ _ d1
    · rw [Nat.zero_add]; exact hc _ _ d2
    · rw [Nat.zero_add]; exact hc _ _ d3
theorem getD_leftA (L M : List A4) (i : Nat) (h : i < L.length) : (L ++ M).getD i zA = L.getD i zA := by
  simp [List.getD_eq_getElem?_getD, List.getElem?_append_left h]
theorem ArmsAt.left {w : World} {b off : Nat} {L M : List A4} (h : ArmsAt w b off (L ++ M)) : ArmsAt w b off L := by
  intro i hi
  have := h i (by simp; omega)
  rwa [getD_leftA L M i hi] at this
theorem own_base {w : World} {base : Nat} {e : TypeId} {v : Value} {n s : Nat} {xs : List Value} (h : w.ownsRow base e s v n xs) : ∀ g, v.ownBlock = some g → base ≤ g := by
  intro g hg
  rcases h.2 with ⟨rfl, _⟩ | ⟨g', cap, cur, rfl, hb, _⟩
  · simp [Value.ownBlock] at hg
  · simp [Value.ownBlock] at hg; omega
theorem take_snocA (L : List A4) (k : Nat) (h : k < L.length) : L.take (k + 1) = L.take k ++ [L.getD k zA] := by
  rw [List.take_succ_eq_append_getElem h]
  simp [List.getD_eq_getElem?_getD, h]

set_option maxRecDepth 100000 in
set_option maxHeartbeats 16000000 in
theorem GlyphMerge_walk (p : Option Addr) (len cap : Nat) (L : List A4) (w : World) (hL : L.length = len) (hlen : len * 4 ≤ 140737488351232) (hp : SlA w p L) (hnil : p = none → len = 0 ∧ cap = 0) : Calls Try.prog 6 #[.slice p len cap] w fun e w' => e = .returned (.bool true) ∧ Below w.heap.size w w' := by
  have HC := Lib.hid hp
  have HL := Lib.hid hL
  have HN := Lib.hid hnil
  clear hp hL hnil
  obtain ⟨i0, hi, hz0, hz1, hz2⟩ := info_parts infoArms
  have own0 : w.ownsRow w.heap.size 25 4 (.slice none 0 0) 0 [] := ⟨rfl, .inl ⟨rfl, rfl⟩⟩
  go_enter Try.func6, Try.ntmps6
  go_wp2
  go_loopw [3, 4] (fun v i wr => ∃ k : Nat, k ≤ len ∧ i = .int .i64 k ∧ RowKit.Hid (wr.ownsRow w.heap.size 25 4 v k (cellsA (L.take k))) ∧ Below w.heap.size w wr) (fun _ i _ => len - (intOf i).toNat)
  case atStart => exact ⟨0, by omega, rfl, Lib.hid own0, Below.refl _ _⟩
  case round =>
    obtain ⟨k, hk, rfl, HO, BW⟩ := hrel
    by_cases hlt : k < len
    · obtain ⟨b, off, rfl, hbw, hcl⟩ := HC.out (by rw [HL.out]; omega)
      obtain ⟨l0, l1, l2, l3⟩ := (hcl.later BW hbw) k (by rw [HL.out]; exact hlt)
      have ET := Lib.hid (take_snocA L k (by rw [HL.out]; exact hlt))
      generalize L.getD k zA = a at l0 l1 l2 l3 ET
      obtain ⟨a0, a1, a2, a3⟩ := a
      simp only [] at l0 l1 l2 l3
      clear hcl
      have hbs := BW.size
      go_wp2_with (at_builtin; go_must (refine wpList_append_own _ rfl (.tmp 16) (.tmp 21) 35 rfl w.heap.size 25 i0 (.agg #[.int .i8 0, .int .i8 0, .int .i8 0, .int .i8 0]) 4 4 Try.underlying35 hi hz0 hz1 hz2 rfl (by decide) _ _ _ rfl (HO.out.alloc _) ⟨wr.heap.size, 0, none⟩ 1 1 (cellsA [⟨a0, a1, a2, a3⟩]) rfl rfl ?c1 ?c2 ?c3 ?c4 ?c5 ?_))
      case c1 =>
        intro j u hj
        simp [cellsA] at hj
        match j, hj with
        | 0, hj => simp at hj; subst hj; simp [Addr.add, go_sem]
        | 1, hj => simp at hj; subst hj; simp [Addr.add, go_sem]
        | 2, hj => simp at hj; subst hj; simp [Addr.add, go_sem]
        | 3, hj => simp at hj; subst hj; simp [Addr.add, go_sem]
      case c2 => exact cellsA_one _
      case c3 => unfold maxLen; omega
      case c4 => omega
      case c5 => first | (simp; done) | (simp; omega)
      intro v2 w2 own2 gr2 _
      have own2' : RowKit.Hid (w2.ownsRow w.heap.size 25 4 v2 (k + 1) (cellsA (L.take (k + 1)))) := by rw [ET.out, cellsA_append]; exact Lib.hid own2
      have B2 : Below w.heap.size w w2 := Below.grown (below_al BW _) gr2 (by simp; omega) (own_base HO.out)
      clear own2 gr2 HO BW l0 l1 l2 l3 ET
      go_wp2
      go_roundw
      case rel => exact ⟨k + 1, by omega, by go_num, own2', B2⟩
      case measure => simp [intOf]; omega
    · obtain rfl : k = len := by omega
      have e : L.take k = L := by rw [← HL.out, List.take_length]
      rw [e] at HO
      have HO2 := HO
      clear HO hk e
      have hbs := BW.size
      go_wp2_with (at_builtin; go_must (refine wpList_append_own _ rfl (.tmp 23) (.tmp 26) 35 rfl w.heap.size 25 i0 (.agg #[.int .i8 0, .int .i8 0, .int .i8 0, .int .i8 0]) 4 4 Try.underlying35 hi hz0 hz1 hz2 rfl (by decide) _ _ _ rfl (HO2.out.alloc _) ⟨wr.heap.size, 0, none⟩ 2 2 (cellsA [⟨4, 3, 2, 1⟩, ⟨1, 2, 3, 4⟩]) rfl rfl ?c1 ?c2 ?c3 ?c4 ?c5 ?_))
      case c1 =>
        intro j u hj
        simp [cellsA] at hj
        match j, hj with
        | 0, hj => simp at hj; subst hj; simp [Addr.add, go_sem]
        | 1, hj => simp at hj; subst hj; simp [Addr.add, go_sem]
        | 2, hj => simp at hj; subst hj; simp [Addr.add, go_sem]
        | 3, hj => simp at hj; subst hj; simp [Addr.add, go_sem]
        | 4, hj => simp at hj; subst hj; simp [Addr.add, go_sem]
        | 5, hj => simp at hj; subst hj; simp [Addr.add, go_sem]
        | 6, hj => simp at hj; subst hj; simp [Addr.add, go_sem]
        | 7, hj => simp at hj; subst hj; simp [Addr.add, go_sem]
      case c2 => exact cellsA_one _
      case c3 => unfold maxLen; omega
      case c4 => omega
      case c5 => first | (simp; done) | (simp; omega)
      intro v2 w2 own2 gr2 _
      have own2' : RowKit.Hid (w2.ownsRow w.heap.size 25 4 v2 (k + 2) (cellsA (L ++ [⟨4, 3, 2, 1⟩, ⟨1, 2, 3, 4⟩]))) := by rw [cellsA_append]; exact Lib.hid own2
      have B2 : Below w.heap.size w w2 := Below.grown (below_al BW _) gr2 (by simp; omega) (own_base HO2.out)
      clear own2 gr2 HO2 BW hbs
      have S2 := B2.size
      obtain ⟨p2, c2, rfl, hc2, hg2⟩ := own_slA own2'.out (by rw [List.length_append, HL.out]; rfl)
      obtain ⟨g, rfl, hbg, hgw, RA⟩ := hg2 (by omega)
      clear hg2 own2'
      have SK := Lib.hid (show SlA w2 (some ⟨g, 0, none⟩) L from fun _ => ⟨g, 0, rfl, hgw, RA.left⟩)
      have X2 : g < w2.heap.size ∧ w2.cell? ⟨g, k * 4, none⟩ = some (.int .i8 4) ∧ w2.cell? ⟨g, k * 4 + 1, none⟩ = some (.int .i8 3) ∧ w2.cell? ⟨g, k * 4 + 2, none⟩ = some (.int .i8 2) ∧ w2.cell? ⟨g, k * 4 + 3, none⟩ = some (.int .i8 1) ∧ w2.cell? ⟨g, (k + 1) * 4, none⟩ = some (.int .i8 1) ∧ w2.cell? ⟨g, (k + 1) * 4 + 1, none⟩ = some (.int .i8 2) ∧ w2.cell? ⟨g, (k + 1) * 4 + 2, none⟩ = some (.int .i8 3) ∧ w2.cell? ⟨g, (k + 1) * 4 + 3, none⟩ = some (.int .i8 4) := by
        have r0 := RA k (by simp [HL.out])
        have r1 := RA (k + 1) (by simp [HL.out])
        simp only [List.getD_eq_getElem?_getD, List.getElem?_append_right, HL.out, Nat.le_refl, Nat.sub_self, show k ≤ k + 1 by omega, show k + 1 - k = 1 by omega, Nat.zero_add] at r0 r1
        exact ⟨hgw, r0.1, r0.2.1, r0.2.2.1, r0.2.2.2, r1.1, r1.2.1, r1.2.2.1, r1.2.2.2⟩
      have HRA := Lib.hid RA
      clear RA
      go_wp2_with fail
      refine (rmerge_any _ _ _ L _ HL.out (by omega) (HC.out.later B2)).mono ?_
      have hm : ∃ m, m = mergeA L := ⟨_, rfl⟩
      obtain ⟨m, hm⟩ := hm
      rw [← hm]
      have HM := Lib.hid hm
      clear hm
      obtain ⟨m0, m1, m2, m3⟩ := m
      rintro e w3 ⟨rfl, hb3⟩
      have F3 : g < w3.heap.size ∧ w3.cell? ⟨g, k * 4, none⟩ = some (.int .i8 4) ∧ w3.cell? ⟨g, k * 4 + 1, none⟩ = some (.int .i8 3) ∧ w3.cell? ⟨g, k * 4 + 2, none⟩ = some (.int .i8 2) ∧ w3.cell? ⟨g, k * 4 + 3, none⟩ = some (.int .i8 1) ∧ w3.cell? ⟨g, (k + 1) * 4, none⟩ = some (.int .i8 1) ∧ w3.cell? ⟨g, (k + 1) * 4 + 1, none⟩ = some (.int .i8 2) ∧ w3.cell? ⟨g, (k + 1) * 4 + 2, none⟩ = some (.int .i8 3) ∧ w3.cell? ⟨g, (k + 1) * 4 + 3, none⟩ = some (.int .i8 4) := by
        obtain ⟨hc, hf⟩ := bcell hb3
        have hz := hb3.size
        (try simp only [World.size_alloc, World.size_drew, World.size_setCell] at hz)
        (repeat' apply And.intro) <;> (first | omega | (rw [hc _ _ (by first | omega | (simp only [World.size_alloc, World.size_drew, World.size_setCell]; omega))]; first | (simp [go_sem, X2]; done) | (simp [*]; done)) | (rw [hf _ _ (by first | omega | (simp only [World.size_alloc, World.size_drew, World.size_setCell]; omega))]; first | (simp [go_sem, X2]; done) | (simp [*]; done)))
      have B3 : Below w.heap.size w w3 := below_via hb3 (by first | exact B2 | exact below_al B2 _)
      have G3 : Below w2.heap.size w2 w3 := hb3
      clear hb3 X2
      go_wp2_with fail
      refine (merge_any _ _ _ L _ HL.out (by omega) (SK.out.later (G3.alloc G3.size _))).mono ?_
      rw [← HM.out]
      rintro e w4 ⟨rfl, hb4⟩
      have F4 : g < w4.heap.size ∧ w3.heap.size < w4.heap.size ∧ w4.cell? ⟨g, k * 4, none⟩ = some (.int .i8 4) ∧ w4.cell? ⟨g, k * 4 + 1, none⟩ = some (.int .i8 3) ∧ w4.cell? ⟨g, k * 4 + 2, none⟩ = some (.int .i8 2) ∧ w4.cell? ⟨g, k * 4 + 3, none⟩ = some (.int .i8 1) ∧ w4.cell? ⟨g, (k + 1) * 4, none⟩ = some (.int .i8 1) ∧ w4.cell? ⟨g, (k + 1) * 4 + 1, none⟩ = some (.int .i8 2) ∧ w4.cell? ⟨g, (k + 1) * 4 + 2, none⟩ = some (.int .i8 3) ∧ w4.cell? ⟨g, (k + 1) * 4 + 3, none⟩ = some (.int .i8 4) ∧ w4.cell? ⟨w3.heap.size, 0, none⟩ = some (.int .i8 m0) ∧ w4.cell? ⟨w3.heap.size, 1, none⟩ = some (.int .i8 m1) ∧ w4.cell? ⟨w3.heap.size, 2, none⟩ = some (.int .i8 m2) ∧ w4.cell? ⟨w3.heap.size, 3, none⟩ = some (.int .i8 m3) := by
        obtain ⟨hc, hf⟩ := bcell hb4
        have hz := hb4.size
        (try simp only [World.size_alloc, World.size_drew, World.size_setCell] at hz)
        (repeat' apply And.intro) <;> (first | omega | (rw [hc _ _ (by first | omega | (simp only [World.size_alloc, World.size_drew, World.size_setCell]; omega))]; first | (simp [go_sem, F3]; done) | (simp [*]; done)) | (rw [hf _ _ (by first | omega | (simp only [World.size_alloc, World.size_drew, World.size_setCell]; omega))]; first | (simp [go_sem, F3]; done) | (simp [*]; done)))
      have B4 : Below w.heap.size w w4 := below_via hb4 (by first | exact B3 | exact below_al B3 _)
      have G4 : Below w2.heap.size w2 w4 := below_via hb4 (G3.alloc G3.size _)
      have N4 : w3.heap.size < w4.heap.size := F4.2.1
      clear hb4 F3
      go_wp2_with fail
      refine (merge_any _ _ _ L _ HL.out (by omega) (SK.out.later (G4.alloc G4.size _))).mono ?_
      rw [← HM.out]
      rintro e w5 ⟨rfl, hb5⟩
      have F5 : g < w5.heap.size ∧ w3.heap.size < w5.heap.size ∧ w4.heap.size < w5.heap.size ∧ w5.cell? ⟨g, k * 4, none⟩ = some (.int .i8 4) ∧ w5.cell? ⟨g, k * 4 + 1, none⟩ = some (.int .i8 3) ∧ w5.cell? ⟨g, k * 4 + 2, none⟩ = some (.int .i8 2) ∧ w5.cell? ⟨g, k * 4 + 3, none⟩ = some (.int .i8 1) ∧ w5.cell? ⟨g, (k + 1) * 4, none⟩ = some (.int .i8 1) ∧ w5.cell? ⟨g, (k + 1) * 4 + 1, none⟩ = some (.int .i8 2) ∧ w5.cell? ⟨g, (k + 1) * 4 + 2, none⟩ = some (.int .i8 3) ∧ w5.cell? ⟨g, (k + 1) * 4 + 3, none⟩ = some (.int .i8 4) ∧ w5.cell? ⟨w3.heap.size, 0, none⟩ = some (.int .i8 m0) ∧ w5.cell? ⟨w3.heap.size, 1, none⟩ = some (.int .i8 m1) ∧ w5.cell? ⟨w3.heap.size, 2, none⟩ = some (.int .i8 m2) ∧ w5.cell? ⟨w3.heap.size, 3, none⟩ = some (.int .i8 m3) ∧ w5.cell? ⟨w4.heap.size, 0, none⟩ = some (.int .i8 m0) ∧ w5.cell? ⟨w4.heap.size, 1, none⟩ = some (.int .i8 m1) ∧ w5.cell? ⟨w4.heap.size, 2, none⟩ = some (.int .i8 m2) ∧ w5.cell? ⟨w4.heap.size, 3, none⟩ = some (.int .i8 m3) := by
        obtain ⟨hc, hf⟩ := bcell hb5
        have hz := hb5.size
        (try simp only [World.size_alloc, World.size_drew, World.size_setCell] at hz)
        (repeat' apply And.intro) <;> (first | omega | (rw [hc _ _ (by first | omega | (simp only [World.size_alloc, World.size_drew, World.size_setCell]; omega))]; first | (simp [go_sem, F4]; done) | (simp [*]; done)) | (rw [hf _ _ (by first | omega | (simp only [World.size_alloc, World.size_drew, World.size_setCell]; omega))]; first | (simp [go_sem, F4]; done) | (simp [*]; done)))
      have B5 : Below w.heap.size w w5 := below_via hb5 (by first | exact B4 | exact below_al B4 _)
      have G5 : Below w2.heap.size w2 w5 := below_via hb5 (G4.alloc G4.size _)
      clear hb5 F4
      have N5 : w2.heap.size ≤ w3.heap.size ∧ w3.heap.size < w4.heap.size ∧ w4.heap.size < w5.heap.size := by
        exact ⟨G3.size, N4, F5.2.2.1⟩
      have ee : ∀ a0 a1 a2 a3 : Int, (a0 == a0 && a1 == a1 && a2 == a2 && a3 == a3) = true := by intros; simp
      have eqs := eqArms
      go_wp2
      go_loopw [9] (fun i wr => ∃ j : Nat, j ≤ k ∧ i = .int .i64 j ∧ RowKit.Hid (g < wr.heap.size ∧ wr.cell? ⟨g, k * 4, none⟩ = some (.int .i8 4) ∧ wr.cell? ⟨g, k * 4 + 1, none⟩ = some (.int .i8 3) ∧ wr.cell? ⟨g, k * 4 + 2, none⟩ = some (.int .i8 2) ∧ wr.cell? ⟨g, k * 4 + 3, none⟩ = some (.int .i8 1) ∧ wr.cell? ⟨g, (k + 1) * 4, none⟩ = some (.int .i8 1) ∧ wr.cell? ⟨g, (k + 1) * 4 + 1, none⟩ = some (.int .i8 2) ∧ wr.cell? ⟨g, (k + 1) * 4 + 2, none⟩ = some (.int .i8 3) ∧ wr.cell? ⟨g, (k + 1) * 4 + 3, none⟩ = some (.int .i8 4) ∧ w3.heap.size < wr.heap.size ∧ w4.heap.size < wr.heap.size ∧ w5.heap.size < wr.heap.size ∧ wr.cell? ⟨w3.heap.size, 0, none⟩ = some (.int .i8 m0) ∧ wr.cell? ⟨w3.heap.size, 1, none⟩ = some (.int .i8 m1) ∧ wr.cell? ⟨w3.heap.size, 2, none⟩ = some (.int .i8 m2) ∧ wr.cell? ⟨w3.heap.size, 3, none⟩ = some (.int .i8 m3) ∧ wr.cell? ⟨w4.heap.size, 0, none⟩ = some (.int .i8 m0) ∧ wr.cell? ⟨w4.heap.size, 1, none⟩ = some (.int .i8 m1) ∧ wr.cell? ⟨w4.heap.size, 2, none⟩ = some (.int .i8 m2) ∧ wr.cell? ⟨w4.heap.size, 3, none⟩ = some (.int .i8 m3) ∧ wr.cell? ⟨w5.heap.size, 0, none⟩ = some (.int .i8 m0) ∧ wr.cell? ⟨w5.heap.size, 1, none⟩ = some (.int .i8 m1) ∧ wr.cell? ⟨w5.heap.size, 2, none⟩ = some (.int .i8 m2) ∧ wr.cell? ⟨w5.heap.size, 3, none⟩ = some (.int .i8 m3)) ∧ Below w.heap.size w wr ∧ Below w2.heap.size w2 wr) (fun i _ => k - (intOf i).toNat)
      case atStart => exact ⟨0, by omega, rfl, Lib.hid (by
        have z0 := F5.1
        have z1 := F5.2.1
        have z2 := F5.2.2.1
        simp [go_sem, F5, z0, z1, z2, Nat.lt_succ_of_lt]), below_al B5 _, G5.alloc G5.size _⟩
      case round =>
        clear F5
        obtain ⟨j, hj, rfl, HF, BW, GW⟩ := hrel
        by_cases hlt : j < k
        · obtain ⟨b, off, rfl, hbw, hcl⟩ := HC.out (by rw [HL.out]; omega)
          obtain ⟨l0, l1, l2, l3⟩ := (hcl.later BW hbw) j (by rw [HL.out]; exact hlt)
          obtain ⟨b2, off2, e2, hb2w, hcl2⟩ := SK.out (by rw [HL.out]; omega)
          cases e2
          obtain ⟨r0, r1, r2, r3⟩ := (hcl2.later GW hb2w) j (by rw [HL.out]; exact hlt)
          simp only [Nat.zero_add] at r0 r1 r2 r3
          clear hcl hcl2
          generalize L.getD j zA = a at l0 l1 l2 l3 r0 r1 r2 r3
          obtain ⟨a0, a1, a2, a3⟩ := a
          simp only [] at l0 l1 l2 l3 r0 r1 r2 r3
          have ea := ee a0 a1 a2 a3
          clear ee
          go_wp2
          go_quiet (fail)
          go_wp2
          go_roundw
          case rel => exact ⟨j + 1, by omega, by go_num, HF, below_drewN BW _, below_drewN GW _⟩
          case measure => simp [intOf]; omega
        · have F6 := HF.out
          clear HF
          have em := ee m0 m1 m2 m3
          clear ee
          go_wp2_with fail
          refine (wakes_any _).mono ?_
          rintro e w9 ⟨rfl, hb9⟩
          have B9 := below_via hb9 BW
          clear hb9 F6
          go_wp2
          go_ret
          exact ⟨rfl, B9⟩
end Go.Proofs.Ytebalohoblaedaa
