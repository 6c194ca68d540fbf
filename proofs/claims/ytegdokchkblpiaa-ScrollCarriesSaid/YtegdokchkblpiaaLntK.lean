/- The walk of ScrollCarries. -/
import Derived.Test.YtegdokchkblpiaaLntJ
import Derived.Test.YtegdokchkblpiaaLntT
import Derived.Test.YtegdokchkblpiaaMark
namespace Go.Proofs.Ytegdokchkblpiaa
open Go.RowKit Go.Deep
set_option linter.unusedVariables false
set_option linter.unusedSimpArgs false

theorem carry_len (old now : List Nd) (O : List (Int × Int)) : (carryR old now O).length ≤ 4096 := by
  unfold carryR
  by_cases h : (checkT now).1 = 0
  · rw [if_pos h, List.length_map]; exact (check_len h).2
  · rw [if_neg h]; exact Nat.zero_le _
/-- a row of offsets of the call's own, as a value -/
theorem offs_row {w : World} {B : Nat} {v : Value} {O : List (Int × Int)} (h : w.ownsRow B 25 2 v O.length (cellsO O)) : ∃ p c, v = .slice p O.length c ∧ OffsAt w p O := by
  rcases row_form h with ⟨rfl, h0, _⟩ | ⟨g, c, rfl, _, _, hz, _⟩
  · exact ⟨none, 0, by rw [h0], fun h1 => by omega⟩
  · exact ⟨_, c, rfl, range_offs hz (row_cells h)⟩
def pairL (O : List (Int × Int)) : List (List Value) := O.map fun v => [.int .i64 v.1, .int .i64 v.2]
theorem pairL_flat (O : List (Int × Int)) : (pairL O).flatten = cellsO O := by unfold pairL cellsO; rw [List.flatMap_def]
theorem pairL_len (O : List (Int × Int)) : (pairL O).length = O.length := by simp [pairL]
theorem pairL_all (O : List (Int × Int)) : ∀ a ∈ pairL O, a.length = 2 := fun a ha => by
  obtain ⟨v, _, rfl⟩ := List.mem_map.1 ha
  rfl
theorem row_at {w : World} {base : Nat} {t : TypeId} {k g n c m : Nat} {xs : List Value} (h : w.ownsRow base t k (.slice (some ⟨g, 0, none⟩) m c) n xs) (i : Nat) (hi : i < n * k) : (∃ v, w.cell? ⟨g, i, none⟩ = some v) ∧ w.frozen? ⟨g, i, none⟩ = false := by
  have hc := row_cells h
  have hl : i < xs.length := by rw [h.1]; exact hi
  refine ⟨⟨xs[i], ?_⟩, ?_⟩
  · have := hc i _ (List.getElem?_eq_getElem hl)
    rwa [Nat.zero_add] at this
  · obtain ⟨_, ⟨e, _⟩ | ⟨g', cap, cur, e, _, hh, _⟩⟩ := h
    · cases e
    · injection e with e1 _ _
      injection e1 with e1
      injection e1 with e1
      subst e1
      exact frozen_of_row _ _ _ _ _ hh
def mkA : List Value := [.int .i64 (-11), .int .i64 0]
def mkC : List Value := [.int .i64 (-22), .int .i64 0]
set_option maxRecDepth 100000 in
set_option maxHeartbeats 32000000 in
theorem ScrollCarries_walk (po pn pf : Option Addr) (co cn cf : Nat) (old now : List Nd) (O : List (Int × Int)) (w : World) (ho : TreeAt w (.slice po old.length co) old) (hn : TreeAt w (.slice pn now.length cn) now) (hf : OffsAt w pf O) (hN1 : old.length * 288 ≤ 140737488351232) (hN2 : now.length * 288 ≤ 140737488351232) (hK1 : ∀ x ∈ old, x.kids.length * 8 ≤ 140737488351232 ∧ x.cols.length * 40 ≤ 140737488351232) (hK2 : ∀ x ∈ now, x.kids.length * 8 ≤ 140737488351232 ∧ x.cols.length * 40 ≤ 140737488351232) (hO : O.length * 16 ≤ 140737488351232) : Calls Try.prog 7 #[.agg #[.slice po old.length co], .agg #[.slice pn now.length cn], .slice pf O.length cf] w fun e w' => e = .returned (.bool true) ∧ Below w.heap.size w w' := by
  have HO := Lib.hid ho
  have HN := Lib.hid hn
  have HF := Lib.hid hf
  have HK1 := Lib.hid hK1
  have HK2 := Lib.hid hK2
  have HS1 := Lib.hid hN1
  have HS2 := Lib.hid hN2
  have HSO := Lib.hid hO
  have hol : O.length ≤ 9223372036854775807 := by omega
  clear ho hn hf hK1 hK2 hN1 hN2 hO
  go_enter Try.func7, Try.ntmps7
  go_wp2_with fail
  obtain ⟨R1, hR1⟩ : ∃ R, R = carryR old now O := ⟨_, rfl⟩
  have HR1 := Lib.hid hR1
  have hl1 : R1.length ≤ 4096 := by rw [hR1]; exact carry_len _ _ _
  clear hR1
  refine (ref_Carry_any po pn pf co cn cf old now O _ (HO.out.later (by go_grown)) (HN.out.later (by go_grown)) (HF.out.later (B := w.heap.size) (by go_grown) (Nat.le_refl _)) hol).mono ?_
  rw [← HR1.out]
  rintro e w1 ⟨v1, rfl, own1, hb1⟩
  have B1 : Below w.heap.size w w1 := below_via hb1 (by go_grown)
  have F1 : w.heap.size < w1.heap.size ∧ w.heap.size + 1 < w1.heap.size ∧ w1.cell? ⟨w.heap.size, 0, none⟩ = some (.slice po old.length co) ∧ w1.cell? ⟨w.heap.size + 1, 0, none⟩ = some (.slice pn now.length cn) := by
    obtain ⟨hc, _⟩ := bcell hb1
    have hz := hb1.size
    simp only [World.size_alloc] at hz
    refine ⟨by omega, by omega, ?_, ?_⟩
    · rw [hc _ _ (by simp <;> omega)]; simp [go_sem]
    · rw [hc _ _ (by simp <;> omega)]; simp [go_sem]
  obtain ⟨p1, c1, rfl, hat1⟩ := offs_row own1
  have HW := Lib.hid hat1
  clear hb1 own1 hat1
  obtain ⟨s0, s1, x0, x1⟩ := F1
  obtain ⟨R2, hR2⟩ : ∃ R, R = carryR now old R1 := ⟨_, rfl⟩
  have HR2 := Lib.hid hR2
  have hl2 : R2.length ≤ 4096 := by rw [hR2]; exact carry_len _ _ _
  have hl1' : R1.length ≤ 9223372036854775807 := by omega
  clear hR2
  go_wp2_with fail
  refine (ref_Carry_any pn po p1 cn co c1 now old R1 _ (HN.out.later B1) (HO.out.later B1) HW.out hl1').mono ?_
  rw [← HR2.out]
  rintro e w2 ⟨v2, rfl, own2, hb2⟩
  obtain ⟨p2, c2, rfl, hat2⟩ := offs_row own2
  have B2 := below_via hb2 B1
  have HW2 := Lib.hid (HW.out.later hb2 (Nat.le_refl _))
  have HM2 := Lib.hid hat2
  have y0 : w2.cell? ⟨w.heap.size, 0, none⟩ = some (.slice po old.length co) := by rw [(bcell hb2).1 _ _ s0]; exact x0
  have y1 : w2.cell? ⟨w.heap.size + 1, 0, none⟩ = some (.slice pn now.length cn) := by rw [(bcell hb2).1 _ _ s1]; exact x1
  have t0 : w.heap.size < w2.heap.size := by have := hb2.size; omega
  have t1 : w.heap.size + 1 < w2.heap.size := by have := hb2.size; omega
  clear hb2 own2 hat2 HW B1 x0 x1 s0 s1
  go_wp2_with fail
  refine (lent_any po co old _ (HO.out.later B2) HS1.out HK1.out).mono ?_
  rintro e w3 ⟨v3, rfl, LA, hb3⟩
  have HLA := Lib.hid LA
  obtain ⟨ga, cga, rfl⟩ : ∃ g cg, v3 = .slice (some ⟨g, 0, none⟩) old.length cg := by obtain ⟨g, c, _, e, _⟩ := LA; exact ⟨g, c, e⟩
  have F3 : w.heap.size < w3.heap.size ∧ w.heap.size + 1 < w3.heap.size ∧ w3.cell? ⟨w.heap.size, 0, none⟩ = some (.slice po old.length co) ∧ w3.cell? ⟨w.heap.size + 1, 0, none⟩ = some (.slice pn now.length cn) := by
    have hz := hb3.size
    exact ⟨by omega, by omega, by rw [(bcell hb3).1 _ _ t0]; exact y0, by rw [(bcell hb3).1 _ _ t1]; exact y1⟩
  have B3 := below_via hb3 B2
  have HW3 := Lib.hid (HW2.out.later hb3 (Nat.le_refl _))
  have HM3 := Lib.hid (HM2.out.later hb3 (Nat.le_refl _))
  clear HW2 HM2 hb3 LA B2 y0 y1 t0 t1
  obtain ⟨s0, s1, x0, x1⟩ := F3
  go_wp2_with fail
  refine (lent_any pn cn now _ (HN.out.later (below_al B3 _)) HS2.out HK2.out).mono ?_
  rintro e w4 ⟨v4, rfl, LB, hb4⟩
  have HLB := Lib.hid LB
  obtain ⟨gb, cgb, rfl⟩ : ∃ g cg, v4 = .slice (some ⟨g, 0, none⟩) now.length cg := by obtain ⟨g, c, _, e, _⟩ := LB; exact ⟨g, c, e⟩
  obtain ⟨b3, hb3⟩ : ∃ b, b = w3.heap.size := ⟨_, rfl⟩
  have B34 : Below w3.heap.size w3 w4 := below_via hb4 (below_al (Below.refl _ _) _)
  have F4 : w.heap.size < w4.heap.size ∧ w.heap.size + 1 < w4.heap.size ∧ b3 < w4.heap.size ∧ w4.cell? ⟨w.heap.size, 0, none⟩ = some (.slice po old.length co) ∧ w4.cell? ⟨w.heap.size + 1, 0, none⟩ = some (.slice pn now.length cn) ∧ w4.cell? ⟨b3, 0, none⟩ = some (.slice (some ⟨ga, 0, none⟩) old.length cga) := by
    have hz := hb4.size
    simp only [World.size_alloc] at hz
    refine ⟨by omega, by omega, by omega, by rw [(bcell B34).1 _ _ s0]; exact x0, by rw [(bcell B34).1 _ _ s1]; exact x1, ?_⟩
    rw [(bcell hb4).1 _ _ (by simp; omega), hb3]; simp [go_sem]
  have B4 := below_via B34 B3
  have HW4 := Lib.hid (HW3.out.later B34 (Nat.le_refl _))
  have HM4 := Lib.hid (HM3.out.later B34 (Nat.le_refl _))
  have HLA4 := Lib.hid (HLA.out.later B34)
  rw [← hb3]
  clear HW3 HM3 HLA hb3 hb4 LB B34 B3 x0 x1 s0 s1
  obtain ⟨s0, s1, s2, x0, x1, x2⟩ := F4
  go_wp2_with fail
  refine (lentOffsets_any pf cf O _ (HF.out.later (below_al B4 _) (Nat.le_refl _)) HSO.out).mono ?_
  rintro e w5 ⟨v5, rfl, LO_, hb5⟩
  have HLO := Lib.hid LO_
  obtain ⟨go, cgo, rfl, _, _, hzgo, _, hato⟩ := LO_.cells
  have HLAT := Lib.hid hato.left
  obtain ⟨b4, hb4⟩ : ∃ b, b = w4.heap.size := ⟨_, rfl⟩
  have B45 : Below w4.heap.size w4 w5 := below_via hb5 (below_al (Below.refl _ _) _)
  have F5 : w.heap.size < w5.heap.size ∧ w.heap.size + 1 < w5.heap.size ∧ b3 < w5.heap.size ∧ b4 < w5.heap.size ∧ w5.cell? ⟨w.heap.size, 0, none⟩ = some (.slice po old.length co) ∧ w5.cell? ⟨w.heap.size + 1, 0, none⟩ = some (.slice pn now.length cn) ∧ w5.cell? ⟨b3, 0, none⟩ = some (.slice (some ⟨ga, 0, none⟩) old.length cga) ∧ w5.cell? ⟨b4, 0, none⟩ = some (.slice (some ⟨gb, 0, none⟩) now.length cgb) := by
    have hz := hb5.size
    simp only [World.size_alloc] at hz
    refine ⟨by omega, by omega, by omega, by omega, by rw [(bcell B45).1 _ _ s0]; exact x0, by rw [(bcell B45).1 _ _ s1]; exact x1, by rw [(bcell B45).1 _ _ s2]; exact x2, ?_⟩
    rw [(bcell hb5).1 _ _ (by simp; omega), hb4]; simp [go_sem]
  have B5 := below_via B45 B4
  have HW5 := Lib.hid (HW4.out.later B45 (Nat.le_refl _))
  have HM5 := Lib.hid (HM4.out.later B45 (Nat.le_refl _))
  have HLA5 := Lib.hid (HLA4.out.later B45)
  have HLB5 := Lib.hid (HLB.out.later B45)
  have HTA := Lib.hid (HLA5.out.tree HO.out.ok HO.out.len)
  have HTB := Lib.hid (HLB5.out.tree HN.out.ok HN.out.len)
  rw [← hb4]
  clear HW4 HM4 HLA4 HLB hb4 hb5 LO_ hato hzgo B45 B4 x0 x1 x2 s0 s1 s2
  have FF5 := Lib.hid F5
  obtain ⟨s0, s1, s2, s3, x0, x1, x2, x3⟩ := F5
  go_wp2_with fail
  refine (scroll_Carry_any _ _ _ cga cgb cgo old now O _ HTA.out HTB.out HLAT.out hol).mono ?_
  rw [← HR1.out]
  rintro e w6 ⟨va, rfl, own6, hb6⟩
  have F6 : w.heap.size < w6.heap.size ∧ w.heap.size + 1 < w6.heap.size ∧ b3 < w6.heap.size ∧ b4 < w6.heap.size ∧ w6.cell? ⟨w.heap.size, 0, none⟩ = some (.slice po old.length co) ∧ w6.cell? ⟨w.heap.size + 1, 0, none⟩ = some (.slice pn now.length cn) ∧ w6.cell? ⟨b3, 0, none⟩ = some (.slice (some ⟨ga, 0, none⟩) old.length cga) ∧ w6.cell? ⟨b4, 0, none⟩ = some (.slice (some ⟨gb, 0, none⟩) now.length cgb) := by
    have hz := hb6.size
    exact ⟨by omega, by omega, by omega, by omega, by rw [(bcell hb6).1 _ _ s0]; exact x0, by rw [(bcell hb6).1 _ _ s1]; exact x1, by rw [(bcell hb6).1 _ _ s2]; exact x2, by rw [(bcell hb6).1 _ _ s3]; exact x3⟩
  have OA := Lib.hid own6
  have HTA6 := Lib.hid (HTA.out.later hb6)
  have HTB6 := Lib.hid (HTB.out.later hb6)
  have HLA6 := Lib.hid (HLAT.out.later hb6 (Nat.le_refl _))
  have C56 := hb6
  clear own6 hb6 x0 x1 x2 x3 s0 s1 s2 s3
  obtain ⟨s0, s1, s2, s3, x0, x1, x2, x3⟩ := F6
  go_wp2_with fail
  refine (scroll_Carry_any _ _ _ cga cgb cgo old now O _ HTA6.out HTB6.out HLA6.out hol).mono ?_
  rw [← HR1.out]
  rintro e w7 ⟨vb, rfl, own7, hb7⟩
  have F7 : w.heap.size < w7.heap.size ∧ w.heap.size + 1 < w7.heap.size ∧ b3 < w7.heap.size ∧ b4 < w7.heap.size ∧ w7.cell? ⟨w.heap.size, 0, none⟩ = some (.slice po old.length co) ∧ w7.cell? ⟨w.heap.size + 1, 0, none⟩ = some (.slice pn now.length cn) ∧ w7.cell? ⟨b3, 0, none⟩ = some (.slice (some ⟨ga, 0, none⟩) old.length cga) ∧ w7.cell? ⟨b4, 0, none⟩ = some (.slice (some ⟨gb, 0, none⟩) now.length cgb) := by
    have hz := hb7.size
    exact ⟨by omega, by omega, by omega, by omega, by rw [(bcell hb7).1 _ _ s0]; exact x0, by rw [(bcell hb7).1 _ _ s1]; exact x1, by rw [(bcell hb7).1 _ _ s2]; exact x2, by rw [(bcell hb7).1 _ _ s3]; exact x3⟩
  obtain ⟨pb, cb, rfl, hatb⟩ := offs_row own7
  have OB := Lib.hid own7
  have HAB := Lib.hid hatb
  have OA7 := Lib.hid (row_later OA.out hb7)
  have HTA7 := Lib.hid (HTA6.out.later hb7)
  have HTB7 := Lib.hid (HTB6.out.later hb7)
  have LTA := Lib.hid (fun g hg => (row_lt OA.out g hg))
  have C67 := hb7
  clear own7 hb7 hatb OA HTA6 HTB6 HLA6 x0 x1 x2 x3 s0 s1 s2 s3
  obtain ⟨s0, s1, s2, s3, x0, x1, x2, x3⟩ := F7
  go_wp2_with fail
  refine (scroll_Carry_any _ _ _ cgb cga cb now old R1 _ HTB7.out HTA7.out HAB.out hl1').mono ?_
  rw [← HR2.out]
  rintro e w8 ⟨vc, rfl, own8, hb8⟩
  have F8 : w.heap.size < w8.heap.size ∧ w.heap.size + 1 < w8.heap.size ∧ b3 < w8.heap.size ∧ b4 < w8.heap.size ∧ w8.cell? ⟨w.heap.size, 0, none⟩ = some (.slice po old.length co) ∧ w8.cell? ⟨w.heap.size + 1, 0, none⟩ = some (.slice pn now.length cn) ∧ w8.cell? ⟨b3, 0, none⟩ = some (.slice (some ⟨ga, 0, none⟩) old.length cga) ∧ w8.cell? ⟨b4, 0, none⟩ = some (.slice (some ⟨gb, 0, none⟩) now.length cgb) := by
    have hz := hb8.size
    exact ⟨by omega, by omega, by omega, by omega, by rw [(bcell hb8).1 _ _ s0]; exact x0, by rw [(bcell hb8).1 _ _ s1]; exact x1, by rw [(bcell hb8).1 _ _ s2]; exact x2, by rw [(bcell hb8).1 _ _ s3]; exact x3⟩
  have OC := Lib.hid own8
  have OA8 := Lib.hid (row_later OA7.out hb8)
  have OB8 := Lib.hid (row_later OB.out hb8)
  have LTB := Lib.hid (fun g hg => (row_lt OB.out g hg))
  have C78 := hb8
  have C58 := Lib.hid (below_via C78 (below_via C67 C56))
  have SZ := Lib.hid (show w5.heap.size ≤ w6.heap.size ∧ w6.heap.size ≤ w7.heap.size ∧ w7.heap.size ≤ w8.heap.size from ⟨C56.size, C67.size, C78.size⟩)
  clear own8 hb8 OA7 OB HAB HTA7 HTB7 HTA HTB C56 C67 C78 x0 x1 x2 x3 s0 s1 s2 s3
  obtain ⟨pa, ca, rfl, hata⟩ := offs_row OA8.out
  obtain ⟨pc, cc, rfl, hatc⟩ := offs_row OC.out
  have HA8 := Lib.hid hata
  have HC8 := Lib.hid hatc
  clear hata hatc
  obtain ⟨s0, s1, s2, s3, x0, x1, x2, x3⟩ := F8
  have hl2' : R2.length ≤ 9223372036854775807 := by omega
  have HB8 := Lib.hid (show OffsAt w8 pb R1 by obtain ⟨p, c, e, h⟩ := offs_row OB8.out; injection e with e1 _ _; subst e1; exact h)
  have B8 := Lib.hid (below_via C58.out B5)
  go_wp2_with fail
  refine (same_Offsets_any _ _ _ _ R1 _ hl1' (HA8.out.later (Below.refl w8.heap.size w8) (Nat.le_refl _)) (HW5.out.later (below_via (Below.refl w8.heap.size w8) C58.out) (Nat.le_refl _))).mono ?_
  rintro e w9 ⟨rfl, hb9⟩
  have C9 : Below w8.heap.size w8 w9 := below_via hb9 (Below.refl w8.heap.size w8)
  clear hb9
  have x0w9 : w9.cell? ⟨w.heap.size, 0, none⟩ = some (.slice po old.length co) := by rw [(bcell C9).1 _ _ s0]; exact x0
  have x1w9 : w9.cell? ⟨w.heap.size + 1, 0, none⟩ = some (.slice pn now.length cn) := by rw [(bcell C9).1 _ _ s1]; exact x1
  have x2w9 : w9.cell? ⟨b3, 0, none⟩ = some (.slice (some ⟨ga, 0, none⟩) old.length cga) := by rw [(bcell C9).1 _ _ s2]; exact x2
  have x3w9 : w9.cell? ⟨b4, 0, none⟩ = some (.slice (some ⟨gb, 0, none⟩) now.length cgb) := by rw [(bcell C9).1 _ _ s3]; exact x3
  have z0w9 : w.heap.size < w9.heap.size := by have := C9.size; omega
  have z1w9 : w.heap.size + 1 < w9.heap.size := by have := C9.size; omega
  have z2w9 : b3 < w9.heap.size := by have := C9.size; omega
  have z3w9 : b4 < w9.heap.size := by have := C9.size; omega
  go_wp2_with fail
  refine (same_Offsets_any _ _ _ _ R1 _ hl1' (HB8.out.later C9 (Nat.le_refl _)) (HW5.out.later (below_via C9 C58.out) (Nat.le_refl _))).mono ?_
  rintro e w10 ⟨rfl, hb10⟩
  have C10 : Below w8.heap.size w8 w10 := below_via hb10 C9
  clear hb10
  have x0w10 : w10.cell? ⟨w.heap.size, 0, none⟩ = some (.slice po old.length co) := by rw [(bcell C10).1 _ _ s0]; exact x0
  have x1w10 : w10.cell? ⟨w.heap.size + 1, 0, none⟩ = some (.slice pn now.length cn) := by rw [(bcell C10).1 _ _ s1]; exact x1
  have x2w10 : w10.cell? ⟨b3, 0, none⟩ = some (.slice (some ⟨ga, 0, none⟩) old.length cga) := by rw [(bcell C10).1 _ _ s2]; exact x2
  have x3w10 : w10.cell? ⟨b4, 0, none⟩ = some (.slice (some ⟨gb, 0, none⟩) now.length cgb) := by rw [(bcell C10).1 _ _ s3]; exact x3
  have z0w10 : w.heap.size < w10.heap.size := by have := C10.size; omega
  have z1w10 : w.heap.size + 1 < w10.heap.size := by have := C10.size; omega
  have z2w10 : b3 < w10.heap.size := by have := C10.size; omega
  have z3w10 : b4 < w10.heap.size := by have := C10.size; omega
  clear x0w9 x1w9 x2w9 x3w9 z0w9 z1w9 z2w9 z3w9 C9
  go_wp2_with fail
  refine (same_Offsets_any _ _ _ _ R2 _ hl2' (HC8.out.later C10 (Nat.le_refl _)) (HM5.out.later (below_via C10 C58.out) (Nat.le_refl _))).mono ?_
  rintro e w11 ⟨rfl, hb11⟩
  have C11 : Below w8.heap.size w8 w11 := below_via hb11 C10
  clear hb11
  have x0w11 : w11.cell? ⟨w.heap.size, 0, none⟩ = some (.slice po old.length co) := by rw [(bcell C11).1 _ _ s0]; exact x0
  have x1w11 : w11.cell? ⟨w.heap.size + 1, 0, none⟩ = some (.slice pn now.length cn) := by rw [(bcell C11).1 _ _ s1]; exact x1
  have x2w11 : w11.cell? ⟨b3, 0, none⟩ = some (.slice (some ⟨ga, 0, none⟩) old.length cga) := by rw [(bcell C11).1 _ _ s2]; exact x2
  have x3w11 : w11.cell? ⟨b4, 0, none⟩ = some (.slice (some ⟨gb, 0, none⟩) now.length cgb) := by rw [(bcell C11).1 _ _ s3]; exact x3
  have z0w11 : w.heap.size < w11.heap.size := by have := C11.size; omega
  have z1w11 : w.heap.size + 1 < w11.heap.size := by have := C11.size; omega
  have z2w11 : b3 < w11.heap.size := by have := C11.size; omega
  have z3w11 : b4 < w11.heap.size := by have := C11.size; omega
  clear x0w10 x1w10 x2w10 x3w10 z0w10 z1w10 z2w10 z3w10 C10
  go_wp2_with fail
  refine (kept_any _ po co old _ _ (HLA5.out.later (below_via C11 C58.out)) (HO.out.later (below_via C11 B8.out))).mono ?_
  rintro e w12 ⟨rfl, hb12⟩
  have C12 : Below w8.heap.size w8 w12 := below_via hb12 C11
  clear hb12
  have x0w12 : w12.cell? ⟨w.heap.size, 0, none⟩ = some (.slice po old.length co) := by rw [(bcell C12).1 _ _ s0]; exact x0
  have x1w12 : w12.cell? ⟨w.heap.size + 1, 0, none⟩ = some (.slice pn now.length cn) := by rw [(bcell C12).1 _ _ s1]; exact x1
  have x2w12 : w12.cell? ⟨b3, 0, none⟩ = some (.slice (some ⟨ga, 0, none⟩) old.length cga) := by rw [(bcell C12).1 _ _ s2]; exact x2
  have x3w12 : w12.cell? ⟨b4, 0, none⟩ = some (.slice (some ⟨gb, 0, none⟩) now.length cgb) := by rw [(bcell C12).1 _ _ s3]; exact x3
  have z0w12 : w.heap.size < w12.heap.size := by have := C12.size; omega
  have z1w12 : w.heap.size + 1 < w12.heap.size := by have := C12.size; omega
  have z2w12 : b3 < w12.heap.size := by have := C12.size; omega
  have z3w12 : b4 < w12.heap.size := by have := C12.size; omega
  clear x0w11 x1w11 x2w11 x3w11 z0w11 z1w11 z2w11 z3w11 C11
  go_wp2_with fail
  refine (kept_any _ pn cn now _ _ (HLB5.out.later (below_via C12 C58.out)) (HN.out.later (below_via C12 B8.out))).mono ?_
  rintro e w13 ⟨rfl, hb13⟩
  have C13 : Below w8.heap.size w8 w13 := below_via hb13 C12
  clear hb13
  have x0w13 : w13.cell? ⟨w.heap.size, 0, none⟩ = some (.slice po old.length co) := by rw [(bcell C13).1 _ _ s0]; exact x0
  have x1w13 : w13.cell? ⟨w.heap.size + 1, 0, none⟩ = some (.slice pn now.length cn) := by rw [(bcell C13).1 _ _ s1]; exact x1
  have x2w13 : w13.cell? ⟨b3, 0, none⟩ = some (.slice (some ⟨ga, 0, none⟩) old.length cga) := by rw [(bcell C13).1 _ _ s2]; exact x2
  have x3w13 : w13.cell? ⟨b4, 0, none⟩ = some (.slice (some ⟨gb, 0, none⟩) now.length cgb) := by rw [(bcell C13).1 _ _ s3]; exact x3
  have z0w13 : w.heap.size < w13.heap.size := by have := C13.size; omega
  have z1w13 : w.heap.size + 1 < w13.heap.size := by have := C13.size; omega
  have z2w13 : b3 < w13.heap.size := by have := C13.size; omega
  have z3w13 : b4 < w13.heap.size := by have := C13.size; omega
  clear x0w12 x1w12 x2w12 x3w12 z0w12 z1w12 z2w12 z3w12 C12
  go_wp2_with fail
  refine (keptOffsets_any _ pf cf _ O _ (HLO.out.later (below_via C13 C58.out)) (HF.out.later (below_via C13 B8.out) (Nat.le_refl _))).mono ?_
  rintro e w14 ⟨rfl, hb14⟩
  have C14 : Below w8.heap.size w8 w14 := below_via hb14 C13
  clear hb14
  clear x0w13 x1w13 x2w13 x3w13 z0w13 z1w13 z2w13 z3w13 C13
  have OAW := Lib.hid (row_later OA8.out C14)
  have OBW := Lib.hid (row_later OB8.out C14)
  have OCW := Lib.hid (row_later OC.out C14)
  have LTC := Lib.hid (fun g hg => (row_lt OC.out g hg))
  have W714 := Lib.hid (show w7.heap.size ≤ w14.heap.size by have := SZ.out; have := C14.size; omega)
  obtain ⟨i0, hi, hz0, hz1, hz2⟩ := info_parts infoOff
  have HI := Lib.hid (And.intro hi (And.intro hz0 (And.intro hz1 hz2)))
  clear hi hz0 hz1 hz2
  have CW5 := Lib.hid (below_via C14 C58.out)
  have hac : RowKit.Hid (∀ g, (Value.slice pa R1.length ca).ownBlock = some g → (Value.slice pc R2.length cc).ownBlock ≠ some g) := Lib.hid (fun g h1 h2 => by have := (LTA.out g h1).1; have := (LTC.out g h2).2; have := SZ.out; omega)
  have hab : RowKit.Hid (∀ g, (Value.slice pb R1.length cb).ownBlock = some g → (Value.slice pa R1.length ca).ownBlock ≠ some g ∧ (Value.slice pc R2.length cc).ownBlock ≠ some g) := Lib.hid (fun g h1 => ⟨fun h2 => by have := (LTA.out g h2).1; have := (LTB.out g h1).2; omega, fun h2 => by have := (LTB.out g h1).1; have := (LTC.out g h2).2; omega⟩)
  have hlW : RowKit.Hid (∀ g, ((Value.slice pa R1.length ca).ownBlock = some g ∨ (Value.slice pc R2.length cc).ownBlock = some g) → w5.heap.size ≤ g ∧ g < w14.heap.size) := Lib.hid (fun g h => by
    have := SZ.out
    have := C14.size
    rcases h with h | h
    · have := LTA.out g h; omega
    · have := LTC.out g h; omega)
  clear HA8 HB8 HC8 OA8 OB8 OC C58 C14 x0 x1 x2 x3 s0 s1 s2 s3 B8 LTA LTB LTC HLA5 HLB5 HM5 HK1 HK2 HS1 HS2 HSO HO HN HR1 HR2 HLAT FF5 hl2'
  go_wp2
  go_loopw [83] (fun i wr => ∃ k : Nat, k ≤ R1.length ∧ i = .int .i64 k ∧ RowKit.Hid (wr.ownsRow w5.heap.size 25 2 (.slice pa R1.length ca) R1.length (half k mkA (pairL R1))) ∧ RowKit.Hid (Grown2 w14 wr (Value.slice pa R1.length ca).ownBlock (Value.slice pc R2.length cc).ownBlock) ∧ RowKit.Hid (wr.ownsRow w7.heap.size 25 2 (.slice pc R2.length cc) R2.length (cellsO R2))) (fun i _ => R1.length - (intOf i).toNat)
  case atStart => exact ⟨0, Nat.zero_le _, rfl, Lib.hid (by rw [half_zero, pairL_flat]; exact OAW.out), Lib.hid (Grown2.refl _ _ _), OCW⟩
  case round =>
    clear OAW OCW
    obtain ⟨k, hk, rfl, OW, GW, OCW⟩ := hrel
    by_cases hlt : k < R1.length
    · have hki : (k : Int) < (R1.length : Int) := by omega
      have hform := row_form OW.out
      rcases hform with ⟨_, h0, _⟩ | ⟨g, c, e, _, _, hz, _⟩
      · omega
      · injection e with e1 _ e3
        subst e1 e3
        obtain ⟨⟨u0, h0⟩, f0⟩ := row_at OW.out (k * 2) (by omega)
        obtain ⟨⟨u1, h1⟩, f1⟩ := row_at OW.out (k * 2 + 1) (by omega)
        have OW' := Lib.hid (show ((wr.setCell ⟨g, k * 2, none⟩ (.int .i64 (-11))).setCell ⟨g, k * 2 + 1, none⟩ (.int .i64 0)).ownsRow w5.heap.size 25 2 (.slice (some ⟨g, 0, none⟩) R1.length ca) R1.length (half (k + 1) mkA (pairL R1)) by
          have := row_set (row_set OW.out (k * 2) (.int .i64 (-11))) (k * 2 + 1) (.int .i64 0)
          rwa [show ((half k mkA (pairL R1)).set (k * 2) (.int .i64 (-11))).set (k * 2 + 1) (.int .i64 0) = half (k + 1) mkA (pairL R1) from half_set2 (pairL_all R1) (by rw [pairL_len]; exact hlt)] at this)
        have GW' := Lib.hid ((GW.out.step (setCell_grown_ wr ⟨g, k * 2, none⟩ (.int .i64 (-11))) (fun k' hk' => .inr (.inl hk'))).step (setCell_grown_ _ ⟨g, k * 2 + 1, none⟩ (.int .i64 0)) (fun k' hk' => .inr (.inl hk')))
        have hne : (Value.slice pc R2.length cc).ownBlock = none ∨ (Value.slice pc R2.length cc).ownBlock ≠ some g := .inr (hac.out g rfl)
        have OC' := Lib.hid ((OCW.out.kept (setCell_grown_ wr ⟨g, k * 2, none⟩ (.int .i64 (-11))) hne).kept (setCell_grown_ _ ⟨g, k * 2 + 1, none⟩ (.int .i64 0)) hne)
        clear OW GW OCW hne
        go_wp2
        go_roundw
        case rel => exact ⟨k + 1, by omega, by go_num, OW', GW', OC'⟩
        case measure => simp [intOf]; omega
    · obtain rfl : k = R1.length := by omega
      have OA1 := Lib.hid (show wr.ownsRow w5.heap.size 25 2 (.slice pa R1.length ca) R1.length (reps R1.length mkA) by have := OW.out; rwa [show half R1.length mkA (pairL R1) = reps R1.length mkA by have := half_all mkA (pairL R1); rwa [pairL_len] at this] at this)
      have GW1 := GW
      have OCW1 := OCW
      clear OW GW OCW hlt hk
      go_wp2
      obtain ⟨wa, rfl⟩ : ∃ wo : World, wo = wr := ⟨_, rfl⟩
      go_loopw [93] (fun i wr => ∃ k : Nat, k ≤ R2.length ∧ i = .int .i64 k ∧ RowKit.Hid (wr.ownsRow w7.heap.size 25 2 (.slice pc R2.length cc) R2.length (half k mkC (pairL R2))) ∧ RowKit.Hid (Grown2 w14 wr (Value.slice pa R1.length ca).ownBlock (Value.slice pc R2.length cc).ownBlock) ∧ RowKit.Hid (wr.ownsRow w5.heap.size 25 2 (.slice pa R1.length ca) R1.length (reps R1.length mkA))) (fun i _ => R2.length - (intOf i).toNat)
      case atStart => exact ⟨0, Nat.zero_le _, rfl, Lib.hid (by rw [half_zero, pairL_flat]; exact OCW1.out), GW1, OA1⟩
      case round =>
        clear OA1 GW1 OCW1
        obtain ⟨k, hk, rfl, OW, GW, OAW⟩ := hrel
        by_cases hlt : k < R2.length
        · have hki : (k : Int) < (R2.length : Int) := by omega
          have hform := row_form OW.out
          rcases hform with ⟨_, h0, _⟩ | ⟨g, c, e, _, _, hz, _⟩
          · omega
          · injection e with e1 _ e3
            subst e1 e3
            obtain ⟨⟨u0, h0⟩, f0⟩ := row_at OW.out (k * 2) (by omega)
            obtain ⟨⟨u1, h1⟩, f1⟩ := row_at OW.out (k * 2 + 1) (by omega)
            have OW' := Lib.hid (show ((wr.setCell ⟨g, k * 2, none⟩ (.int .i64 (-22))).setCell ⟨g, k * 2 + 1, none⟩ (.int .i64 0)).ownsRow w7.heap.size 25 2 (.slice (some ⟨g, 0, none⟩) R2.length cc) R2.length (half (k + 1) mkC (pairL R2)) by
              have := row_set (row_set OW.out (k * 2) (.int .i64 (-22))) (k * 2 + 1) (.int .i64 0)
              rwa [show ((half k mkC (pairL R2)).set (k * 2) (.int .i64 (-22))).set (k * 2 + 1) (.int .i64 0) = half (k + 1) mkC (pairL R2) from half_set2 (pairL_all R2) (by rw [pairL_len]; exact hlt)] at this)
            have GW' := Lib.hid ((GW.out.step (setCell_grown_ wr ⟨g, k * 2, none⟩ (.int .i64 (-22))) (fun k' hk' => .inr (.inr hk'))).step (setCell_grown_ _ ⟨g, k * 2 + 1, none⟩ (.int .i64 0)) (fun k' hk' => .inr (.inr hk')))
            have hne : (Value.slice pa R1.length ca).ownBlock = none ∨ (Value.slice pa R1.length ca).ownBlock ≠ some g := .inr (fun e => hac.out g e rfl)
            have OA' := Lib.hid ((OAW.out.kept (setCell_grown_ wr ⟨g, k * 2, none⟩ (.int .i64 (-22))) hne).kept (setCell_grown_ _ ⟨g, k * 2 + 1, none⟩ (.int .i64 0)) hne)
            clear OW GW OAW hne
            go_wp2
            go_roundw
            case rel => exact ⟨k + 1, by omega, by go_num, OW', GW', OA'⟩
            case measure => simp [intOf]; omega
        · obtain rfl : k = R2.length := by omega
          have HT0 : RowKit.Hid (TwoM w14 wr 25 2 (.slice pa R1.length ca) (.slice pc R2.length cc) (.slice pa R1.length ca) (.slice pc R2.length cc) w5.heap.size w7.heap.size R1.length R2.length (R1.length + 0) (R2.length + 0) mkA mkC) := Lib.hid (by
            have hc := OW.out
            rw [show half R2.length mkC (pairL R2) = reps R2.length mkC by have := half_all mkC (pairL R2); rwa [pairL_len] at this] at hc
            exact ⟨GW.out, .start OAW.out, .start hc, .inl rfl, .inl rfl, hac.out, fun g hg => ⟨(hlW.out g (.inl hg)).2, hac.out g hg⟩, fun g hg => (hlW.out g (.inr hg)).2⟩)
          clear OW GW OAW hlt hk
          go_wp2
          obtain ⟨wb, rfl⟩ : ∃ wo : World, wo = wr := ⟨_, rfl⟩
          go_loopw [103, 17, 18] (fun i vx vy wr => ∃ k : Nat, k ≤ 70 ∧ i = .int .i64 k ∧ RowKit.Hid (TwoM w14 wr 25 2 (.slice pa R1.length ca) (.slice pc R2.length cc) vx vy w5.heap.size w7.heap.size R1.length R2.length (R1.length + k) (R2.length + k) mkA mkC)) (fun i _ _ _ => 70 - (intOf i).toNat)
          case atStart => exact ⟨0, by omega, rfl, HT0⟩
          case round =>
            clear HT0
            obtain ⟨k, hk, rfl, HT⟩ := hrel
            rcases (show k < 70 ∨ k = 70 by omega) with hlt | rfl
            · have hki : (k : Int) < 70 := by omega
              have hw5 : w5.heap.size ≤ wr.heap.size := by have := CW5.out.size; have := HT.out.gr.size; omega
              have hw7 : w7.heap.size ≤ wr.heap.size := by have := CW5.out.size; have := HT.out.gr.size; have := W714.out; omega
              have HTA := Lib.hid (HT.out.alloc (.cells #[.int .i64 (-11), .int .i64 0] 25))
              have hone : ∀ a : Int, ∀ u ∈ [Value.int .i64 a, .int .i64 0], u.oneCell' = true := fun a u hu => by simp at hu; rcases hu with rfl | rfl <;> rfl
              have HON := Lib.hid hone
              have hx1 : R1.length + k + 1 ≤ maxLen := by unfold maxLen; omega
              have hx2 : R2.length + k + 1 ≤ maxLen := by unfold maxLen; omega
              clear hone
              go_wp2_with (at_builtin; go_must (refine append_keep rfl (.tmp 105) (.tmp 107) 48 rfl w5.heap.size 25 i0 _ 2 16 Try.underlying48 HI.out.1 HI.out.2.1 HI.out.2.2.1 HI.out.2.2.2 rfl (by decide) _ (R1.length + k) _ rfl HTA.out.x.own ⟨wr.heap.size, 0, none⟩ 1 1 [.int .i64 (-11), .int .i64 0] rfl rfl ?n1 (HON.out _) hx1 ?n2 ?n3 ?_))
              case n1 => exact World.news_of_block (cs := #[.int .i64 (-11), .int .i64 0]) (t := 25) (fr := (0, 0)) (heap_alloc_new wr _)
              case n2 => omega
              case n3 => first | omega | (simp; omega)
              intro vx' wx ownx grx plx
              have HT1 := Lib.hid (HTA.out.appX ownx grx (by simpa using plx))
              have hwx : wr.heap.size ≤ wx.heap.size := by have := grx.size; simp at this; omega
              have HTC := Lib.hid ((HT1.out.alloc (.cells #[.int .i64 (-22), .int .i64 0] 25)).swap)
              clear ownx grx plx HTA HT
              go_wp2_with (at_builtin; go_must (refine append_keep rfl (.tmp 109) (.tmp 111) 48 rfl w7.heap.size 25 i0 _ 2 16 Try.underlying48 HI.out.1 HI.out.2.1 HI.out.2.2.1 HI.out.2.2.2 rfl (by decide) _ (R2.length + k) _ rfl HTC.out.x.own ⟨wx.heap.size, 0, none⟩ 1 1 [.int .i64 (-22), .int .i64 0] rfl rfl ?m1 (HON.out _) hx2 ?m2 ?m3 ?_))
              case m1 => exact World.news_of_block (cs := #[.int .i64 (-22), .int .i64 0]) (t := 25) (fr := (0, 0)) (heap_alloc_new wx _)
              case m2 => omega
              case m3 => first | omega | (simp; omega)
              intro vy' wy owny gry ply
              have HT2 := Lib.hid ((HTC.out.appX owny gry (by simpa using ply)).swap)
              clear owny gry ply HTC HT1 HON
              go_wp2
              go_roundw
              case rel => exact ⟨k + 1, by omega, by go_num, HT2⟩
              case measure => simp [intOf]; omega
            · clear hk
              have HX := Lib.hid HT.out.x
              have HY := Lib.hid HT.out.y
              have CWF := Lib.hid (show Below w5.heap.size w5 wr from HT.out.gr.below CW5.out CW5.out.size (fun g hg => (hlW.out g (.inl hg)).1) (fun g hg => (hlW.out g (.inr hg)).1))
              have nf : ∀ v : Value, v.ownBlock = none ∨ ∃ g, v.ownBlock = some g := fun v => by cases v.ownBlock <;> simp
              have OBF := Lib.hid (HT.out.gr.row OBW.out ((nf (Value.slice pb R1.length cb)).imp id (fun ⟨g, hg⟩ e => (hab.out g hg).1 (e.symm.trans hg))) ((nf (Value.slice pb R1.length cb)).imp id (fun ⟨g, hg⟩ e => (hab.out g hg).2 (e.symm.trans hg))))
              clear HT nf OBW
              rcases row_form HX.out.own with ⟨_, h0, _⟩ | ⟨gx, cx, rfl, _, _, hzx, _⟩
              · omega
              rcases row_form HY.out.own with ⟨_, h0, _⟩ | ⟨gy, cy, rfl, _, _, hzy, _⟩
              · omega
              have XC := Lib.hid (fun i (hi : i < R1.length + 70) => show wr.cell? ⟨gx, i * 2, none⟩ = some (.int .i64 (-11)) by
                have := row_cells HX.out.own (i * 2 + 0) (.int .i64 (-11)) (by have := reps_get (R1.length + 70) mkA i 0 hi (by decide); exact this)
                rwa [Nat.zero_add] at this)
              have YC := Lib.hid (fun i (hi : i < R2.length + 70) => show wr.cell? ⟨gy, i * 2, none⟩ = some (.int .i64 (-22)) by
                have := row_cells HY.out.own (i * 2 + 0) (.int .i64 (-22)) (by have := reps_get (R2.length + 70) mkC i 0 hi (by decide); exact this)
                rwa [Nat.zero_add] at this)
              have AC := Lib.hid (fun i (hi : i < R1.length) => show ∃ g, pa = some ⟨g, 0, none⟩ ∧ g < wr.heap.size ∧ wr.cell? ⟨g, i * 2, none⟩ = some (.int .i64 (-11)) by
                rcases HX.out.rd with h0 | ⟨g, c, e, hz, hc⟩
                · omega
                · injection e with e _ _
                  refine ⟨g, e, hz, ?_⟩
                  have := hc (i * 2 + 0) (.int .i64 (-11)) (by have := reps_get R1.length mkA i 0 hi (by decide); exact this)
                  rwa [Nat.zero_add] at this)
              have CC := Lib.hid (fun i (hi : i < R2.length) => show ∃ g, pc = some ⟨g, 0, none⟩ ∧ g < wr.heap.size ∧ wr.cell? ⟨g, i * 2, none⟩ = some (.int .i64 (-22)) by
                rcases HY.out.rd with h0 | ⟨g, c, e, hz, hc⟩
                · omega
                · injection e with e _ _
                  refine ⟨g, e, hz, ?_⟩
                  have := hc (i * 2 + 0) (.int .i64 (-22)) (by have := reps_get R2.length mkC i 0 hi (by decide); exact this)
                  rwa [Nat.zero_add] at this)
              clear HX HY hac hab hlW W714
              go_wp2
              go_loop [116] (fun i => ∃ k : Nat, k ≤ R1.length + 70 ∧ i = .int .i64 k) (fun i => R1.length + 70 - (intOf i).toNat)
              case atStart => exact ⟨0, Nat.zero_le _, rfl⟩
              case round =>
                obtain ⟨k, hk, rfl⟩ := hrel
                rcases (show k < R1.length ∨ (R1.length ≤ k ∧ k < R1.length + 70) ∨ k = R1.length + 70 by omega) with hlt | ⟨hge, hlt⟩ | rfl
                · have hki : (k : Int) < (R1.length : Int) := by omega
                  have hki2 : (k : Int) < (R1.length : Int) + 70 := by omega
                  have d1 : decide (k < R1.length) = true := by rw [decide_eq_true_eq]; exact hlt
                  have xc := XC.out k (by omega)
                  obtain ⟨g, e, hz, ac⟩ := AC.out k hlt
                  subst e
                  go_wp2
                  go_round
                  case rel => exact ⟨k + 1, by omega, by go_num⟩
                  case measure => simp [intOf]; omega
                · have hki : (R1.length : Int) ≤ (k : Int) := by omega
                  have hki2 : (k : Int) < (R1.length : Int) + 70 := by omega
                  have d1 : decide (k < R1.length) = false := by rw [decide_eq_false_iff_not]; omega
                  have xc := XC.out k hlt
                  go_wp2
                  go_round
                  case rel => exact ⟨k + 1, by omega, by go_num⟩
                  case measure => simp [intOf]; omega
                · clear hk XC AC
                  go_wp2
                  go_loop [142] (fun i => ∃ k : Nat, k ≤ R2.length + 70 ∧ i = .int .i64 k) (fun i => R2.length + 70 - (intOf i).toNat)
                  case atStart => exact ⟨0, Nat.zero_le _, rfl⟩
                  case round =>
                    obtain ⟨k, hk, rfl⟩ := hrel
                    rcases (show k < R2.length ∨ (R2.length ≤ k ∧ k < R2.length + 70) ∨ k = R2.length + 70 by omega) with hlt | ⟨hge, hlt⟩ | rfl
                    · have hki : (k : Int) < (R2.length : Int) := by omega
                      have hki2 : (k : Int) < (R2.length : Int) + 70 := by omega
                      have d1 : decide (k < R2.length) = true := by rw [decide_eq_true_eq]; exact hlt
                      have xc := YC.out k (by omega)
                      obtain ⟨g, e, hz, ac⟩ := CC.out k hlt
                      subst e
                      go_wp2
                      go_round
                      case rel => exact ⟨k + 1, by omega, by go_num⟩
                      case measure => simp [intOf]; omega
                    · have hki : (R2.length : Int) ≤ (k : Int) := by omega
                      have hki2 : (k : Int) < (R2.length : Int) + 70 := by omega
                      have d1 : decide (k < R2.length) = false := by rw [decide_eq_false_iff_not]; omega
                      have xc := YC.out k hlt
                      go_wp2
                      go_round
                      case rel => exact ⟨k + 1, by omega, by go_num⟩
                      case measure => simp [intOf]; omega
                    · clear hk YC CC
                      have HBF := Lib.hid (show OffsAt wr pb R1 by obtain ⟨p, c, e, h⟩ := offs_row OBF.out; injection e with e1 _ _; subst e1; exact h)
                      go_wp2_with fail
                      refine (same_Offsets_any _ _ _ _ R1 _ hl1' HBF.out (HW5.out.later CWF.out (Nat.le_refl _))).mono ?_
                      rintro e wf ⟨rfl, hbf⟩
                      have CF := Lib.hid (below_via hbf CWF.out)
                      clear hbf HBF OBF CWF
                      go_wp2_with fail
                      refine (keptOffsets_any _ pf cf _ O _ (HLO.out.later CF.out) (HF.out.later (below_via CF.out B5) (Nat.le_refl _))).mono ?_
                      rintro e wg ⟨rfl, hbg⟩
                      have CG := Lib.hid (below_via hbg CF.out)
                      clear hbg CF
                      go_wp2_with fail
                      refine (law_works _).mono ?_
                      rintro e wh ⟨rfl, hbh⟩
                      have BH := below_via (below_via hbh CG.out) B5
                      clear hbh CG
                      go_wp2
                      go_ret
                      exact ⟨rfl, BH⟩
end Go.Proofs.Ytegdokchkblpiaa
