/- The walk of FocusCarries. -/
import Derived.Test.YtihjefncjkdnpaaRoE
import Derived.Test.YtihjefncjkdnpaaLntD
import Derived.Test.YtihjefncjkdnpaaLntT
namespace Go.Proofs.Ytihjefncjkdnpaa
open Go.RowKit Go.Deep
set_option linter.unusedVariables false
set_option linter.unusedSimpArgs false

theorem LentAt.form {w : World} {B : Nat} {v : Value} {T : List Nd} (h : LentAt w B v T) : ∃ g c, v = .slice (some ⟨g, 0, none⟩) T.length c := by
  obtain ⟨g, c, _, e, _⟩ := h
  exact ⟨g, c, e⟩
set_option maxRecDepth 100000 in
set_option maxHeartbeats 16000000 in
theorem FocusCarries_walk (po pn : Option Addr) (co cn : Nat) (O N : List Nd) (i : Int) (w : World) (ho : TreeAt w (.slice po O.length co) O) (hn : TreeAt w (.slice pn N.length cn) N) (hO : O.length * 288 ≤ 140737488351232) (hN : N.length * 288 ≤ 140737488351232) (hKO : ∀ x ∈ O, x.kids.length * 8 ≤ 140737488351232 ∧ x.cols.length * 40 ≤ 140737488351232) (hKN : ∀ x ∈ N, x.kids.length * 8 ≤ 140737488351232 ∧ x.cols.length * 40 ≤ 140737488351232) : Calls Try.prog 4 #[.agg #[.slice po O.length co], .agg #[.slice pn N.length cn], .int .i64 i] w fun e w' => e = .returned (.bool true) ∧ Below w.heap.size w w' := by
  have HO := Lib.hid ho
  have HN := Lib.hid hn
  have HSO := Lib.hid hO
  have HSN := Lib.hid hN
  have HKO := Lib.hid hKO
  have HKN := Lib.hid hKN
  clear ho hn hO hN hKO hKN
  go_enter Try.func4, Try.ntmps4
  go_wp2_with fail
  obtain ⟨W1, hW1⟩ : ∃ W1, W1 = (w.alloc (.cells #[.slice po O.length co] 24)).alloc (.cells #[.slice pn N.length cn] 24) := ⟨_, rfl⟩
  have C1 : Below w.heap.size w W1 := by rw [hW1]; exact below_al (below_al (Below.refl _ _) _) _
  have z1 : W1.heap.size = w.heap.size + 1 + 1 := by rw [hW1]; simp
  have a1 : W1.heap[w.heap.size]? = some (.cells #[.slice po O.length co] 24 (0, 0)) := by rw [hW1]; exact (heap_alloc_old _ _ (by simp)).trans (heap_alloc_new _ _)
  have b1 : W1.heap[w.heap.size + 1]? = some (.cells #[.slice pn N.length cn] 24 (0, 0)) := by
    rw [hW1]
    have := heap_alloc_new (w.alloc (.cells #[.slice po O.length co] 24)) (.cells #[.slice pn N.length cn] 24)
    rwa [World.size_alloc] at this
  rw [← hW1]
  have HA1 := Lib.hid a1
  have HB1 := Lib.hid b1
  have HC1 := Lib.hid C1
  clear hW1 a1 b1 C1
  refine (lent_any po co O W1 (HO.out.later HC1.out) HSO.out HKO.out).mono ?_
  rintro e w2 ⟨v, rfl, LA, hb2⟩
  obtain ⟨ga, ca, rfl⟩ := LA.form
  have x2 := cell_of_one ((hb2.block _ (lt_of_block HB1.out)).trans HB1.out)
  have z2 : w.heap.size + 1 < w2.heap.size := by have := hb2.size; omega
  have HLA := Lib.hid LA
  have HC2 := Lib.hid hb2
  clear LA hb2
  go_wp2_with fail
  obtain ⟨W3, hW3⟩ : ∃ W3, W3 = w2.alloc (.cells #[.slice (some ⟨ga, 0, none⟩) O.length ca] 24) := ⟨_, rfl⟩
  have C3 : Below w2.heap.size w2 W3 := by rw [hW3]; exact below_al (Below.refl _ _) _
  have a3 : W3.heap[w2.heap.size]? = some (.cells #[.slice (some ⟨ga, 0, none⟩) O.length ca] 24 (0, 0)) := by rw [hW3]; exact heap_alloc_new _ _
  rw [← hW3]
  obtain ⟨k3, hk3⟩ : ∃ k3, k3 = w2.heap.size := ⟨_, rfl⟩
  rw [← hk3] at a3 ⊢
  have z3 : w.heap.size + 1 < k3 := by omega
  have HA3 := Lib.hid a3
  have HLA3 := Lib.hid (HLA.out.later C3)
  have B3 := Lib.hid (below_via (below_via C3 HC2.out) HC1.out)
  have HN3 := Lib.hid (HN.out.later B3.out)
  have B13 := Lib.hid (below_via C3 HC2.out)
  clear hW3 a3 C3 hk3 x2 z2 HLA HC2
  refine (lent_any pn cn N W3 HN3.out HSN.out HKN.out).mono ?_
  rintro e w4 ⟨v, rfl, LB, hb4⟩
  obtain ⟨gb, cb, rfl⟩ := LB.form
  have z4 := hb4.size
  have zk := lt_of_block HA3.out
  have x4 := cell_of_one ((hb4.block _ zk).trans HA3.out)
  have z4k : k3 < w4.heap.size := by omega
  have HLA4 := Lib.hid (HLA3.out.later hb4)
  have HLB := Lib.hid LB
  have HC4 := Lib.hid hb4
  clear LB hb4 HLA3 zk
  go_wp2_with fail
  obtain ⟨W5, hW5⟩ : ∃ W5, W5 = w4.alloc (.cells #[.slice (some ⟨gb, 0, none⟩) N.length cb] 24) := ⟨_, rfl⟩
  have C5 : Below w4.heap.size w4 W5 := by rw [hW5]; exact below_al (Below.refl _ _) _
  have a5 : W5.heap[w4.heap.size]? = some (.cells #[.slice (some ⟨gb, 0, none⟩) N.length cb] 24 (0, 0)) := by rw [hW5]; exact heap_alloc_new _ _
  rw [← hW5]
  obtain ⟨k5, hk5⟩ : ∃ k5, k5 = w4.heap.size := ⟨_, rfl⟩
  rw [← hk5] at a5 ⊢
  have HA5 := Lib.hid a5
  have HLA5 := Lib.hid (HLA4.out.later C5)
  have HLB5 := Lib.hid (HLB.out.later C5)
  have B35 := Lib.hid (below_via C5 HC4.out)
  have B5 := Lib.hid (below_via B35.out B3.out)
  have zk5 := lt_of_block a5
  have y3 := Lib.hid ((B35.out.block _ (lt_of_block HA3.out)).trans HA3.out)
  have ya := Lib.hid ((B35.out.block _ (by have := B13.out.size; omega)).trans ((B13.out.block _ (lt_of_block HA1.out)).trans HA1.out))
  have yb := Lib.hid ((B35.out.block _ (by have := B13.out.size; omega)).trans ((B13.out.block _ (lt_of_block HB1.out)).trans HB1.out))
  clear hW5 a5 C5 x4 HLA4 HLB HC4 B3 B13 B35 hk5
  -- from here on every world is W5 with new memory
  have HF := Lib.hid (fun w' (h : Below W5.heap.size W5 w') => show (w'.cell? ⟨w.heap.size, 0, none⟩ = some (.slice po O.length co) ∧ w'.cell? ⟨w.heap.size + 1, 0, none⟩ = some (.slice pn N.length cn) ∧ w'.cell? ⟨k3, 0, none⟩ = some (.slice (some ⟨ga, 0, none⟩) O.length ca) ∧ w'.cell? ⟨k5, 0, none⟩ = some (.slice (some ⟨gb, 0, none⟩) N.length cb)) ∧ (w.heap.size < w'.heap.size ∧ w.heap.size + 1 < w'.heap.size ∧ k3 < w'.heap.size ∧ k5 < w'.heap.size) from by
    have h1 := lt_of_block ya.out
    have h2 := lt_of_block yb.out
    have h3 := lt_of_block y3.out
    have h4 := h.size
    exact ⟨⟨cell_of_one ((h.block _ h1).trans ya.out), cell_of_one ((h.block _ h2).trans yb.out), cell_of_one ((h.block _ h3).trans y3.out), cell_of_one ((h.block _ zk5).trans HA5.out)⟩, by omega, by omega, by omega, by omega⟩)
  have HTO := Lib.hid (HO.out.later B5.out)
  have HTN := Lib.hid (HN.out.later B5.out)
  have HTA := Lib.hid (HLA5.out.tree HO.out.ok HO.out.len)
  have HTB := Lib.hid (HLB5.out.tree HN.out.ok HN.out.len)
  obtain ⟨⟨x1, x2, x3, x4⟩, s1, s2, s3, s4⟩ := HF.out W5 (Below.refl _ _)
  clear zk5 z4k z4 HA1 HB1 HC1 HA3 HA5 ya yb y3
  go_wp2_with fail
  refine (focus_Carry_any (some ⟨ga, 0, none⟩) (some ⟨gb, 0, none⟩) ca cb O N i W5 HTA.out HTB.out).mono ?_
  rintro e w6 ⟨rfl, hb6⟩
  obtain ⟨r, hr⟩ : ∃ r, r = carryN O N i := ⟨_, rfl⟩
  have HR := Lib.hid hr
  rw [← hr]
  clear x1 x2 x3 x4 s1 s2 s3 s4 hr
  obtain ⟨⟨x1, x2, x3, x4⟩, s1, s2, s3, s4⟩ := HF.out w6 hb6
  have D6 := Lib.hid hb6
  clear hb6
  go_wp2_with fail
  refine (ref_Carry_any po pn co cn O N i w6 (HTO.out.later D6.out) (HTN.out.later D6.out)).mono ?_
  rintro e w7 ⟨rfl, hb7⟩
  rw [← HR.out]
  have D7 := Lib.hid (below_via hb7 D6.out)
  clear x1 x2 x3 x4 s1 s2 s3 s4 hb7 D6
  obtain ⟨⟨x1, x2, x3, x4⟩, s1, s2, s3, s4⟩ := HF.out w7 D7.out
  go_wp2_with fail
  refine (kept_any _ po co O _ w7 (HLA5.out.later D7.out) (HTO.out.later D7.out)).mono ?_
  rintro e w8 ⟨rfl, hb8⟩
  have D8 := Lib.hid (below_via hb8 D7.out)
  clear x1 x2 x3 x4 s1 s2 s3 s4 hb8 D7
  obtain ⟨⟨x1, x2, x3, x4⟩, s1, s2, s3, s4⟩ := HF.out w8 D8.out
  go_wp2_with fail
  refine (kept_any _ pn cn N _ w8 (HLB5.out.later D8.out) (HTN.out.later D8.out)).mono ?_
  rintro e w9 ⟨rfl, hb9⟩
  have D9 := Lib.hid (below_via hb9 D8.out)
  clear x1 x2 x3 x4 s1 s2 s3 s4 hb9 D8 HF
  go_wp2_with fail
  refine (works_any w9).mono ?_
  rintro e w10 ⟨rfl, hb10⟩
  have HE := Lib.hid (below_via (below_via hb10 D9.out) B5.out)
  clear hb10 D9
  go_wp2
  go_ret
  exact ⟨rfl, HE.out⟩
end Go.Proofs.Ytihjefncjkdnpaa
