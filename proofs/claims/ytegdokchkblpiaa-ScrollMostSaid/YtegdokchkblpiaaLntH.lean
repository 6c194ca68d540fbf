/- The walk of ScrollMost. -/
import Derived.Test.YtegdokchkblpiaaLntF
import Derived.Test.YtegdokchkblpiaaLntG
import Derived.Test.YtegdokchkblpiaaLntT
import Derived.Test.YtegdokchkblpiaaScrE
namespace Go.Proofs.Ytegdokchkblpiaa
open Go.RowKit Go.Deep
set_option linter.unusedVariables false
set_option linter.unusedSimpArgs false

theorem BoxLent.at_ {w : World} {B : Nat} {v : Value} {n : Nat} {bx : Nat → Nat → Int} (h : BoxLent w B v n bx) : ∃ p c, v = .slice p n c ∧ BoxAt w p n bx := by
  obtain ⟨g, c, rfl, _, _, hg, hnd, _⟩ := h.cells
  exact ⟨_, c, rfl, fun _ => ⟨g, 0, rfl, hg, fun i hi j hj => by
    have := hnd i hi j _ (boxV_get (bx i) j hj)
    rwa [Nat.zero_add]⟩⟩
set_option maxRecDepth 100000 in
set_option maxHeartbeats 16000000 in
theorem ScrollMost_walk (p pb : Option Addr) (c cb nb : Nat) (T : List Nd) (bx : Nat → Nat → Int) (i : Int) (w : World) (hT : TreeAt w (.slice p T.length c) T) (hN : T.length * 288 ≤ 140737488351232) (hK : ∀ x ∈ T, x.kids.length * 8 ≤ 140737488351232 ∧ x.cols.length * 40 ≤ 140737488351232) (hB : BoxAt w pb nb bx) (hbn : nb * 144 ≤ 140737488351232) : Calls Try.prog 6 #[.agg #[.slice p T.length c], .slice pb nb cb, .int .i64 i] w fun e w' => e = .returned (.bool true) ∧ Below w.heap.size w w' := by
  have HT := Lib.hid hT
  have HK := Lib.hid hK
  have HB := Lib.hid hB
  have HN := Lib.hid hN
  have HBN := Lib.hid hbn
  have hnb : nb ≤ 9223372036854775807 := by omega
  clear hT hK hB hN hbn
  go_enter Try.func6, Try.ntmps6
  go_wp2_with fail
  refine (ref_Most_any p pb c cb nb T bx i _ (HT.out.later (by go_grown)) (HB.out.later (by go_grown) (Nat.le_refl _)) hnb).mono ?_
  obtain ⟨⟨R0, R1, R2⟩, hR⟩ : ∃ R, R = mostR T nb bx i := ⟨_, rfl⟩
  have HR := Lib.hid hR
  rw [← hR]
  clear hR
  rintro e w1 ⟨rfl, hb1⟩
  have B1 : Below w.heap.size w w1 := below_via hb1 (by go_grown)
  have x1 : w1.cell? ⟨w.heap.size, 0, none⟩ = some (.slice p T.length c) := by rw [(bcell hb1).1 _ _ (by simp)]; simp [go_sem]
  have s1 : w.heap.size < w1.heap.size := by have := hb1.size; simp at this; omega
  clear hb1
  go_wp2_with fail
  refine (lent_any p c T _ (HT.out.later (by go_grown)) HN.out HK.out).mono ?_
  rintro e w2 ⟨v, rfl, LA, hb2⟩
  obtain ⟨b1, hb1⟩ : ∃ b, b = w1.heap.size := ⟨_, rfl⟩
  have F2 : w.heap.size < w2.heap.size ∧ b1 < w2.heap.size ∧ w2.cell? ⟨w.heap.size, 0, none⟩ = some (.slice p T.length c) ∧ w2.cell? ⟨b1, 0, none⟩ = some (.int .i64 R0) ∧ w2.cell? ⟨b1, 1, none⟩ = some (.int .i64 R1) := by
    obtain ⟨hc, _⟩ := bcell hb2
    have hz := hb2.size
    simp only [World.size_alloc] at hz
    rw [hb1]
    refine ⟨by omega, by omega, ?_, ?_, ?_⟩
    · rw [hc _ _ (by simp <;> omega)]; simp [go_sem, x1, s1]
    · rw [hc _ _ (by simp <;> omega)]; simp [go_sem]
    · rw [hc _ _ (by simp <;> omega)]; simp [go_sem]
  have B2 : Below w.heap.size w w2 := below_via hb2 (by go_grown)
  rw [← hb1]
  have hlt1 : w.heap.size < b1 := by omega
  clear hb2 hb1 x1 s1 B1
  have HL := Lib.hid LA
  obtain ⟨g, cg, rfl⟩ : ∃ g cg, v = .slice (some ⟨g, 0, none⟩) T.length cg := by obtain ⟨g, c, _, e, _⟩ := LA; exact ⟨g, c, e⟩
  have HTL := Lib.hid (LA.tree HT.out.ok HT.out.len)
  clear LA
  go_split_ands
  go_wp2_with fail
  refine (lentBoxes_any pb nb cb bx _ (HB.out.later (below_al B2 _) (Nat.le_refl _)) HBN.out).mono ?_
  rintro e w3 ⟨vb, rfl, LB, hb3⟩
  obtain ⟨b2, hb2⟩ : ∃ b, b = w2.heap.size := ⟨_, rfl⟩
  have F3 : w.heap.size < w3.heap.size ∧ b1 < w3.heap.size ∧ b2 < w3.heap.size ∧ w3.cell? ⟨w.heap.size, 0, none⟩ = some (.slice p T.length c) ∧ w3.cell? ⟨b1, 0, none⟩ = some (.int .i64 R0) ∧ w3.cell? ⟨b1, 1, none⟩ = some (.int .i64 R1) ∧ w3.cell? ⟨b2, 0, none⟩ = some (.slice (some ⟨g, 0, none⟩) T.length cg) := by
    obtain ⟨hc, _⟩ := bcell hb3
    have hz := hb3.size
    simp only [World.size_alloc] at hz
    rw [hb2]
    refine ⟨by omega, by omega, by omega, ?_, ?_, ?_, ?_⟩
    · rw [hc _ _ (by simp <;> omega)]; simp [go_sem, *]
    · rw [hc _ _ (by simp <;> omega)]; simp [go_sem, *]
    · rw [hc _ _ (by simp <;> omega)]; simp [go_sem, *]
    · rw [hc _ _ (by simp <;> omega)]; simp [go_sem]
  have B23 : Below w2.heap.size w2 w3 := below_via hb3 (below_al (Below.refl _ _) _)
  have B3 : Below w.heap.size w w3 := below_via B23 B2
  have HL3 := Lib.hid (HL.out.later B23)
  have HTL3 := Lib.hid (HTL.out.later B23)
  rw [← hb2]
  clear HL HTL hb2 hb3 B23 B2
  have HLB := Lib.hid LB
  obtain ⟨q, cq, rfl, hbat⟩ := LB.at_
  have HBA := Lib.hid hbat
  clear LB hbat
  go_split_ands
  go_wp2_with fail
  refine (scroll_Most_any _ q cg cq nb T bx i _ HTL3.out HBA.out hnb).mono ?_
  rw [← HR.out]
  rintro e w4 ⟨rfl, hb4⟩
  have B4 : Below w.heap.size w w4 := below_via hb4 B3
  have F4 : w.heap.size < w4.heap.size ∧ b1 < w4.heap.size ∧ b2 < w4.heap.size ∧ w4.cell? ⟨w.heap.size, 0, none⟩ = some (.slice p T.length c) ∧ w4.cell? ⟨b1, 0, none⟩ = some (.int .i64 R0) ∧ w4.cell? ⟨b1, 1, none⟩ = some (.int .i64 R1) ∧ w4.cell? ⟨b2, 0, none⟩ = some (.slice (some ⟨g, 0, none⟩) T.length cg) := by
    obtain ⟨hc, _⟩ := bcell hb4
    have hz := hb4.size
    refine ⟨by omega, by omega, by omega, ?_, ?_, ?_, ?_⟩ <;> (rw [hc _ _ (by assumption)]; assumption)
  have HL4 := Lib.hid (HL3.out.later hb4)
  have HLB4 := Lib.hid (HLB.out.later hb4)
  clear HL3 HLB HTL3 HBA hb4 B3
  go_split_ands
  go_wp2_with fail
  refine (kept_any _ p c T _ _ (HL4.out.later (by go_grown)) (HT.out.later (below_al B4 _))).mono ?_
  rintro e w5 ⟨rfl, hb5⟩
  have B5 : Below w.heap.size w w5 := below_via hb5 (below_al B4 _)
  have HLB5 := Lib.hid (HLB4.out.later (below_via hb5 (by go_grown)))
  clear HLB4 HL4 hb5 B4
  go_wp2_with fail
  refine (keptBoxes_any _ pb nb cb _ bx _ HLB5.out (HB.out.later B5 (Nat.le_refl _))).mono ?_
  rintro e w6 ⟨rfl, hb6⟩
  have B6 : Below w.heap.size w w6 := below_via hb6 B5
  clear HLB5 hb6 B5
  go_wp2_with fail
  refine (law_works _).mono ?_
  rintro e w7 ⟨rfl, hb7⟩
  have B7 : Below w.heap.size w w7 := below_via hb7 B6
  clear hb7 B6
  go_wp2
  go_ret
  exact ⟨rfl, B7⟩
end Go.Proofs.Ytegdokchkblpiaa
