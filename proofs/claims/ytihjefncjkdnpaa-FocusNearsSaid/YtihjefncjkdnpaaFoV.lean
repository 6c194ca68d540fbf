/- The walk of FocusNears. -/
import Derived.Test.YtihjefncjkdnpaaRoZ
import Derived.Test.YtihjefncjkdnpaaFoU
import Derived.Test.YtihjefncjkdnpaaLntG
import Derived.Test.YtihjefncjkdnpaaLntT
namespace Go.Proofs.Ytihjefncjkdnpaa
open Go.RowKit Go.Deep
set_option linter.unusedVariables false
set_option linter.unusedSimpArgs false

theorem BoxLent.at_ {w : World} {B : Nat} {v : Value} {n : Nat} {bx : Nat → Nat → Int} (h : BoxLent w B v n bx) : ∃ p c, v = .slice p n c ∧ BoxAt w p n bx := by
  obtain ⟨g, c, rfl, _, _, hg, hnd, _⟩ := h.cells
  exact ⟨_, c, rfl, fun _ => ⟨g, 0, rfl, hg, fun i hi j hj => by
    have := hnd i hi j _ (boxV_get (bx i) j hj)
    rwa [Nat.zero_add]⟩⟩
set_option maxRecDepth 100000 in
set_option maxHeartbeats 16000000 in
theorem FocusNears_walk (po pb : Option Addr) (co cb nb : Nat) (O : List Nd) (bx : Nat → Nat → Int) (i key : Int) (w : World) (ho : TreeAt w (.slice po O.length co) O) (hB : BoxAt w pb nb bx) (hO : O.length * 288 ≤ 140737488351232) (hKO : ∀ x ∈ O, x.kids.length * 8 ≤ 140737488351232 ∧ x.cols.length * 40 ≤ 140737488351232) (hbN : nb * 144 ≤ 140737488351232) (hC : ClipOk nb bx) : Calls Try.prog 7 #[.agg #[.slice po O.length co], .slice pb nb cb, .int .i64 i, .int .i32 key] w fun e w' => e = .returned (.bool true) ∧ Below w.heap.size w w' := by
  have HO := Lib.hid ho
  have HBX := Lib.hid hB
  have HSO := Lib.hid hO
  have HKO := Lib.hid hKO
  have HBN := Lib.hid hbN
  have HCL := Lib.hid hC
  have hnb : nb ≤ 9223372036854775807 := by omega
  clear ho hB hO hKO hbN hC
  go_enter Try.func7, Try.ntmps7
  go_wp2_with fail
  obtain ⟨W1, hW1⟩ : ∃ W1, W1 = w.alloc (.cells #[.slice po O.length co] 24) := ⟨_, rfl⟩
  have C1 := Lib.hid (show Below w.heap.size w W1 by rw [hW1]; exact below_al (Below.refl _ _) _)
  have a1 := Lib.hid (show W1.heap[w.heap.size]? = some (.cells #[.slice po O.length co] 24 (0, 0)) by rw [hW1]; exact heap_alloc_new _ _)
  rw [← hW1]
  clear hW1
  refine (lent_any po co O W1 (HO.out.later C1.out) HSO.out HKO.out).mono ?_
  rintro e w2 ⟨v, rfl, LA, hb2⟩
  obtain ⟨ga, ca, rfl⟩ : ∃ g c, v = .slice (some ⟨g, 0, none⟩) O.length c := by
    obtain ⟨g, c, _, e, _⟩ := LA
    exact ⟨g, c, e⟩
  have HLA := Lib.hid LA
  have D2 := Lib.hid hb2
  clear LA hb2
  go_wp2_with fail
  obtain ⟨W3, hW3⟩ : ∃ W3, W3 = w2.alloc (.cells #[.slice (some ⟨ga, 0, none⟩) O.length ca] 24) := ⟨_, rfl⟩
  have C3 : Below w2.heap.size w2 W3 := by rw [hW3]; exact below_al (Below.refl _ _) _
  have a3 : W3.heap[w2.heap.size]? = some (.cells #[.slice (some ⟨ga, 0, none⟩) O.length ca] 24 (0, 0)) := by rw [hW3]; exact heap_alloc_new _ _
  rw [← hW3]
  obtain ⟨k3, hk3⟩ : ∃ k3, k3 = w2.heap.size := ⟨_, rfl⟩
  rw [← hk3] at a3 ⊢
  have HA3 := Lib.hid a3
  have HLA3 := Lib.hid (HLA.out.later C3)
  have D3 := Lib.hid (below_via C3 D2.out)
  clear hW3 a3 C3 hk3 HLA D2
  have HB3 := Lib.hid (HBX.out.later (below_via D3.out C1.out) (Nat.le_refl _))
  refine (lentBoxes_any pb nb cb bx W3 HB3.out HBN.out).mono ?_
  rintro e w4 ⟨v, rfl, LB, hb4⟩
  obtain ⟨qb, cqb, rfl, hat⟩ := LB.at_
  have HLB := Lib.hid LB
  have HBA := Lib.hid hat
  have D4 := Lib.hid (below_via hb4 D3.out)
  have HLA4 := Lib.hid (HLA3.out.later hb4)
  have HA4 := Lib.hid ((hb4.block _ (lt_of_block HA3.out)).trans HA3.out)
  have a4 := Lib.hid ((D4.out.block _ (lt_of_block a1.out)).trans a1.out)
  clear LB hat hb4 HLA3 HA3 D3
  have HF := Lib.hid (fun w' (h : Below w4.heap.size w4 w') => show (w'.cell? ⟨w.heap.size, 0, none⟩ = some (.slice po O.length co) ∧ w'.cell? ⟨k3, 0, none⟩ = some (.slice (some ⟨ga, 0, none⟩) O.length ca)) ∧ w.heap.size < w'.heap.size ∧ k3 < w'.heap.size from by
    have h1 := lt_of_block a4.out
    have h3 := lt_of_block HA4.out
    have h4 := h.size
    exact ⟨⟨cell_of_one ((h.block _ h1).trans a4.out), cell_of_one ((h.block _ h3).trans HA4.out)⟩, by omega, by omega⟩)
  have B4 := Lib.hid (below_via D4.out C1.out)
  have HTO := Lib.hid (HO.out.later B4.out)
  have HTA := Lib.hid (HLA4.out.tree HO.out.ok HO.out.len)
  have HB4 := Lib.hid (HBX.out.later B4.out (Nat.le_refl _))
  clear C1 a1 D4 HA4 a4 HB3
  obtain ⟨⟨x0, x1⟩, s0, s1⟩ := HF.out w4 (Below.refl _ _)
  go_wp2_with fail
  refine (focus_Near_any (some ⟨ga, 0, none⟩) qb ca cqb nb O bx i key w4 HTA.out HBA.out hnb HCL.out).mono ?_
  obtain ⟨r, hr⟩ : ∃ r, r = nearR O nb bx i key := ⟨_, rfl⟩
  have HR := Lib.hid hr
  rw [← hr]
  rintro e w5 ⟨rfl, hb⟩
  have R5 := Lib.hid hb
  clear hb x0 x1 s0 s1 hr
  obtain ⟨⟨x0, x1⟩, s0, s1⟩ := HF.out w5 R5.out
  go_wp2_with fail
  refine (ref_Near_any po pb co cb nb O bx i key w5 (HTO.out.later R5.out) (HB4.out.later R5.out (Nat.le_refl _)) hnb HCL.out).mono ?_
  rw [← HR.out]
  rintro e w6 ⟨rfl, hb⟩
  have R6 := Lib.hid (below_via hb R5.out)
  clear hb x0 x1 s0 s1
  obtain ⟨⟨x0, x1⟩, s0, s1⟩ := HF.out w6 R6.out
  go_wp2_with fail
  refine (kept_any _ po co O _ w6 (HLA4.out.later R6.out) (HTO.out.later R6.out)).mono ?_
  rintro e w7 ⟨rfl, hb⟩
  have R7 := Lib.hid (below_via hb R6.out)
  clear hb x0 x1 s0 s1
  go_wp2_with fail
  refine (keptBoxes_any _ pb nb cb _ bx w7 (HLB.out.later R7.out) (HB4.out.later R7.out (Nat.le_refl _))).mono ?_
  rintro e w8 ⟨rfl, hb⟩
  have R8 := Lib.hid (below_via hb R7.out)
  clear hb
  go_wp2_with fail
  refine (works_any w8).mono ?_
  rintro e w9 ⟨rfl, hb⟩
  have HE := Lib.hid (below_via (below_via hb R8.out) B4.out)
  clear hb
  go_wp2
  go_ret
  exact ⟨rfl, HE.out⟩
end Go.Proofs.Ytihjefncjkdnpaa
