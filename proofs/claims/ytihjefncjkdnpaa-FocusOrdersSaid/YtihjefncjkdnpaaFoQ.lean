/- The walk of FocusOrders. -/
import Derived.Test.YtihjefncjkdnpaaRoZ
import Derived.Test.YtihjefncjkdnpaaLntD
import Derived.Test.YtihjefncjkdnpaaLntT
import Derived.Test.YtihjefncjkdnpaaMark
namespace Go.Proofs.Ytihjefncjkdnpaa
open Go.RowKit Go.Deep
set_option linter.unusedVariables false
set_option linter.unusedSimpArgs false

/-- a row of ints of the call's own, as a value -/
theorem ints_form {w : World} {B : Nat} {v : Value} {L : List Int} (h : w.ownsRow B 3 1 v L.length (L.map (Value.int .i64))) : ∃ p c, v = .slice p L.length c ∧ IntsAt w v L := by
  have hr := row_ints h
  obtain ⟨p, c, e, _⟩ := hr
  exact ⟨p, c, e, row_ints h⟩
def oneL (L : List Int) : List (List Value) := L.map fun v => [.int .i64 v]
theorem oneL_flat : ∀ (L : List Int), (oneL L).flatten = L.map (Value.int .i64)
  | [] => rfl
  | a :: L => by
    have := oneL_flat L
    unfold oneL at this ⊢
    rw [List.map_cons, List.flatten_cons, this]; rfl
theorem oneL_len (L : List Int) : (oneL L).length = L.length := by simp [oneL]
theorem oneL_all (L : List Int) : ∀ a ∈ oneL L, a.length = 1 := fun a ha => by
  obtain ⟨v, _, rfl⟩ := List.mem_map.1 ha
  rfl
theorem row_at1 {w : World} {base : Nat} {t : TypeId} {k g n c m : Nat} {xs : List Value} (h : w.ownsRow base t k (.slice (some ⟨g, 0, none⟩) m c) n xs) (i : Nat) (hi : i < n * k) : (∃ v, w.cell? ⟨g, i, none⟩ = some v) ∧ w.frozen? ⟨g, i, none⟩ = false := by
  have hc := row_cells h
  have hl : i < xs.length := by rw [h.1]; exact hi
  refine ⟨⟨xs[i], ?_⟩, ?_⟩
  · have := hc i _ (List.getElem?_eq_getElem hl)
    rwa [Nat.zero_add] at this
  · obtain ⟨_, ⟨e, _⟩ | ⟨g', cap, cur, e, _, hh, _⟩⟩ := h
    · cases e
    · injection e with e1 _ _
      injection e1 with e1
      injection e1 with e1
      subst e1
      exact frozen_of_row _ _ _ _ _ hh
def m11 : List Value := [.int .i64 (-11)]
def m22 : List Value := [.int .i64 (-22)]
section
variable {P : Program} {ops : Array Oper} {md : Region.Mode} {Q : Exit → Act → World → Prop} {S : World → Prop}
theorem wpOp_call {i fuel : Nat} {listed : Array Bool} {o : Oper} {a : Act} {w : World} {f : FuncId} {args : Array Value} (h0 : ops[i]? = some o) (hw : Region.wanted o (yielded ops a.tmps) = true) (he : (execOp a.eval o).run P w = .ok (.enter f args) w) (hc : Calls P f args w fun e w' => ∃ v, e = .returned v ∧ S w' ∧ wpAnyH P md ops Q S fuel listed (a.put o.dst v) w') : wpOp P ops Q i (fun a' w' => S w' ∧ wpAnyH P md ops Q S fuel listed a' w') a w := by
  unfold wpOp
  simp only [h0, hw, if_true]
  refine .inl ?_
  unfold Oper.wp
  rw [he]
  refine hc.mono fun e w' h => ?_
  obtain ⟨v, rfl, h1, h2⟩ := h
  exact ⟨h1, h2⟩
end
theorem fosL_4096 (T : List Nd) : (fosL T).length ≤ 4096 := by
  have := List.length_filter_le (fun n => canT T n) (ordL T)
  have := stepO_len T
  unfold fosL
  omega
set_option maxRecDepth 100000 in
set_option maxHeartbeats 32000000 in
theorem FocusOrders_walk (p q : Option Addr) (c d : Nat) (T U : List Nd) (na nb : Int) (w : World) (ht : TreeAt w (.slice p T.length c) T) (hu : TreeAt w (.slice q U.length d) U) (hN : T.length * 288 ≤ 140737488351232) (hK : ∀ x ∈ T, x.kids.length * 8 ≤ 140737488351232 ∧ x.cols.length * 40 ≤ 140737488351232) : Calls Try.prog 3 #[.agg #[.slice p T.length c], .agg #[.slice q U.length d], .int .i64 na, .int .i64 nb] w fun e w' => e = .returned (.bool true) ∧ Below w.heap.size w w' := by
  have HT := Lib.hid ht
  have HU := Lib.hid hu
  have HK := Lib.hid hK
  have HS := Lib.hid hN
  clear ht hu hK hN
  go_enter Try.func3, Try.ntmps3
  go_wp2_with fail
  obtain ⟨R1, hR1⟩ : ∃ R, R = fosL T := ⟨_, rfl⟩
  have HR1 := Lib.hid hR1
  have hl1 : R1.length ≤ 4096 := by rw [hR1]; exact fosL_4096 _
  obtain ⟨R2, hR2⟩ : ∃ R, R = fosL U := ⟨_, rfl⟩
  have HR2 := Lib.hid hR2
  have hl2 : R2.length ≤ 4096 := by rw [hR2]; exact fosL_4096 _
  clear hR1 hR2
  obtain ⟨W1, hW1⟩ : ∃ W1, W1 = (w.alloc (.cells #[.slice p T.length c] 24)).alloc (.cells #[.slice q U.length d] 24) := ⟨_, rfl⟩
  have C1 : Below w.heap.size w W1 := by rw [hW1]; exact below_al (below_al (Below.refl _ _) _) _
  have a1 : W1.heap[w.heap.size]? = some (.cells #[.slice p T.length c] 24 (0, 0)) := by rw [hW1]; exact (heap_alloc_old _ _ (by simp)).trans (heap_alloc_new _ _)
  have b1 : W1.heap[w.heap.size + 1]? = some (.cells #[.slice q U.length d] 24 (0, 0)) := by
    rw [hW1]
    have := heap_alloc_new (w.alloc (.cells #[.slice p T.length c] 24)) (.cells #[.slice q U.length d] 24)
    rwa [World.size_alloc] at this
  rw [← hW1]
  have HA1 := Lib.hid a1
  have HB1 := Lib.hid b1
  have HC1 := Lib.hid C1
  clear hW1 a1 b1 C1
  refine (ref_focus_Order_any p c T W1 (HT.out.later HC1.out)).mono ?_
  rw [← HR1.out]
  rintro e w1 ⟨v1, rfl, own1, hb1⟩
  have x1 := cell_of_one ((hb1.block _ (lt_of_block HB1.out)).trans HB1.out)
  have s1 : w.heap.size + 1 < w1.heap.size := by have := lt_of_block HB1.out; have := hb1.size; omega
  have D1 := Lib.hid hb1
  have HW := Lib.hid (row_ints own1)
  clear hb1 own1
  go_wp2_with fail
  refine (ref_focus_Order_any q d U w1 (HU.out.later (below_via D1.out HC1.out))).mono ?_
  rw [← HR2.out]
  rintro e w2 ⟨v2, rfl, own2, hb2⟩
  have D2 := Lib.hid (below_via hb2 D1.out)
  have x2 := cell_of_one ((D2.out.block _ (lt_of_block HA1.out)).trans HA1.out)
  have s2 : w.heap.size < w2.heap.size := by have := hb2.size; omega
  have HW2 := Lib.hid (HW.out.later hb2 (Nat.le_refl _))
  have HM2 := Lib.hid (row_ints own2)
  clear hb2 own2 HW x1 s1 D1
  go_wp2_with fail
  refine (lent_any p c T _ (HT.out.later (below_via D2.out HC1.out)) HS.out HK.out).mono ?_
  rintro e w3 ⟨v3, rfl, LA, hb3⟩
  have HLA := Lib.hid LA
  obtain ⟨ga, cga, rfl⟩ : ∃ g cg, v3 = .slice (some ⟨g, 0, none⟩) T.length cg := by obtain ⟨g, c, _, e, _⟩ := LA; exact ⟨g, c, e⟩
  have D3 := Lib.hid (below_via hb3 D2.out)
  have HW3 := Lib.hid (HW2.out.later hb3 (Nat.le_refl _))
  have HM3 := Lib.hid (HM2.out.later hb3 (Nat.le_refl _))
  clear HW2 HM2 hb3 LA x2 s2
  go_wp2_with fail
  obtain ⟨b3, hb3⟩ : ∃ b, b = w3.heap.size := ⟨_, rfl⟩
  rw [← hb3]
  obtain ⟨w5, hw5⟩ : ∃ w5, w5 = w3.alloc (.cells #[.slice (some ⟨ga, 0, none⟩) T.length cga] 24) := ⟨_, rfl⟩
  rw [← hw5]
  have C5 : Below w3.heap.size w3 w5 := by rw [hw5]; exact below_al (Below.refl _ _) _
  have a5 : w5.heap[b3]? = some (.cells #[.slice (some ⟨ga, 0, none⟩) T.length cga] 24 (0, 0)) := by rw [hw5, hb3]; exact heap_alloc_new _ _
  have D5 := Lib.hid (below_via C5 D3.out)
  have B5 := below_via D5.out HC1.out
  have HW5 := Lib.hid (HW3.out.later C5 (Nat.le_refl _))
  have HM5 := Lib.hid (HM3.out.later C5 (Nat.le_refl _))
  have HLA5 := Lib.hid (HLA.out.later C5)
  have HTA := Lib.hid (HLA5.out.tree HT.out.ok HT.out.len)
  have HT5 := Lib.hid (HT.out.later B5)
  have HU5 := Lib.hid (HU.out.later B5)
  have HA5 := Lib.hid a5
  have HF := Lib.hid (fun w' (h : Below w5.heap.size w5 w') => show (w'.cell? ⟨w.heap.size, 0, none⟩ = some (.slice p T.length c) ∧ w'.cell? ⟨w.heap.size + 1, 0, none⟩ = some (.slice q U.length d) ∧ w'.cell? ⟨b3, 0, none⟩ = some (.slice (some ⟨ga, 0, none⟩) T.length cga)) ∧ (w.heap.size < w'.heap.size ∧ w.heap.size + 1 < w'.heap.size ∧ b3 < w'.heap.size) from by
    have ya := (D5.out.block _ (lt_of_block HA1.out)).trans HA1.out
    have yb := (D5.out.block _ (lt_of_block HB1.out)).trans HB1.out
    have h1 := lt_of_block ya
    have h2 := lt_of_block yb
    have h3 := lt_of_block HA5.out
    have h4 := h.size
    exact ⟨⟨cell_of_one ((h.block _ h1).trans ya), cell_of_one ((h.block _ h2).trans yb), cell_of_one ((h.block _ h3).trans HA5.out)⟩, by omega, by omega, by omega⟩)
  clear HW3 HM3 HLA hw5 C5 hb3 a5 D2 D3
  obtain ⟨⟨x0, xu, x2⟩, s0, su, s2⟩ := HF.out w5 (Below.refl _ _)
  refine (focus_Order_any _ cga T _ HTA.out).mono ?_
  rw [← HR1.out]
  rintro e w6 ⟨va, rfl, own6, hb6⟩
  have OA := Lib.hid own6
  have HTA6 := Lib.hid (HTA.out.later hb6)
  have C56 := hb6
  clear own6 hb6 x0 xu x2 s0 su s2
  obtain ⟨⟨x0, xu, x2⟩, s0, su, s2⟩ := HF.out w6 C56
  go_wp2_with fail
  refine (focus_Order_any _ cga T _ HTA6.out).mono ?_
  rw [← HR1.out]
  rintro e w7 ⟨vb, rfl, own7, hb7⟩
  have OB := Lib.hid own7
  have OA7 := Lib.hid (row_later OA.out hb7)
  have LTA := Lib.hid (fun g hg => (row_lt OA.out g hg))
  have C67 := hb7
  have C57 := below_via hb7 C56
  clear own7 hb7 OA HTA6 x0 xu x2 s0 su s2
  obtain ⟨⟨x0, xu, x2⟩, s0, su, s2⟩ := HF.out w7 C57
  go_wp2_with fail
  refine (focus_Order_any q d U _ (HU5.out.later C57)).mono ?_
  rw [← HR2.out]
  rintro e w8 ⟨vc, rfl, own8, hb8⟩
  have OC := Lib.hid own8
  have OA8 := Lib.hid (row_later OA7.out hb8)
  have OB8 := Lib.hid (row_later OB.out hb8)
  have LTB := Lib.hid (fun g hg => (row_lt OB.out g hg))
  have C78 := hb8
  have C58 := Lib.hid (below_via C78 C57)
  have SZ := Lib.hid (show w5.heap.size ≤ w6.heap.size ∧ w6.heap.size ≤ w7.heap.size ∧ w7.heap.size ≤ w8.heap.size from ⟨C56.size, C67.size, C78.size⟩)
  clear own8 hb8 OA7 OB C56 C67 C78 C57 x0 xu x2 s0 su s2
  obtain ⟨pa, ca, rfl, hata⟩ := ints_form OA8.out
  obtain ⟨pb, cb, rfl, hatb⟩ := ints_form OB8.out
  obtain ⟨pc, cc, rfl, hatc⟩ := ints_form OC.out
  have HA8 := Lib.hid hata
  have HB8 := Lib.hid hatb
  have HC8 := Lib.hid hatc
  clear hata hatb hatc
  have B8 := Lib.hid (below_via C58.out B5)
  have HF8 := Lib.hid (fun w' (h : Below w8.heap.size w8 w') => (HF.out w' (below_via h C58.out)).1)
  obtain ⟨rn, hrn⟩ : ∃ r, r = nextR R1 na nb := ⟨_, rfl⟩
  have HRN := Lib.hid hrn
  have HN1 := Lib.hid (fun w' (h : Below w8.heap.size w8 w') => show Calls Try.prog 14 #[.agg #[.slice (some ⟨ga, 0, none⟩) T.length cga], .int .i64 na, .int .i64 nb] w' (fun e w'' => e = .returned (.int .i64 rn) ∧ Below w'.heap.size w' w'') from by
    have := focus_Next_any (some ⟨ga, 0, none⟩) cga T na nb w' (HTA.out.later (below_via h C58.out))
    unfold RetN at this
    rwa [← HR1.out, ← HRN.out] at this)
  have HN2 := Lib.hid (fun w' (h : Below w8.heap.size w8 w') => show Calls Try.prog 15 #[.agg #[.slice p T.length c], .int .i64 na, .int .i64 nb] w' (fun e w'' => e = .returned (.int .i64 rn) ∧ Below w'.heap.size w' w'') from by
    have := ref_Next_any p c T na nb w' (HT5.out.later (below_via h C58.out))
    unfold RetN at this
    rwa [← HR1.out, ← HRN.out] at this)
  have H8 := Lib.hid (Below.drew (Below.refl w8.heap.size w8))
  clear hrn
  go_upto_region 7 with (fail)
  refine wp_region_noPanic ?_
  refine wp_region_held (S := fun w' => Below w8.heap.size w8 w') (by kernel_rfl) ?_
  change wpAnyH _ _ _ _ _ 33 (Array.replicate 33 false) _ _
  refine wpAnyH_take (i := 0) (v := ?v0) (by simp only [List.getElem?_toArray, List.getElem?_cons_succ, List.getElem?_cons_zero]; rfl) (by kernel_rfl) (by kernel_rfl) (by kernel_rfl) (fun _ _ _ h => h) (.inl ⟨by rfl, ?t0⟩) ?s0 ?_
  case t0 => (intro w' h; clear h; go_simp; try rfl)
  case s0 => exact H8.out
  (try simp only [Act.put, List.setIfInBounds_toArray, List.set_cons_zero, List.set_cons_succ])
  refine wpAnyH_take (i := 1) (v := ?v1) (by simp only [List.getElem?_toArray, List.getElem?_cons_succ, List.getElem?_cons_zero]; rfl) (by kernel_rfl) (by kernel_rfl) (by kernel_rfl) (fun _ _ _ h => h) (.inl ⟨by rfl, ?t1⟩) ?s1 ?_
  case t1 => (intro w' h; clear h; go_simp; try rfl)
  case s1 => exact H8.out
  (try simp only [Act.put, List.setIfInBounds_toArray, List.set_cons_zero, List.set_cons_succ])
  refine wpAnyH_one (i := 2) (by kernel_rfl) ?_
  refine wpOp_call (by simp only [List.getElem?_toArray, List.getElem?_cons_succ, List.getElem?_cons_zero]; rfl) (by rfl) (by go_simp; first | exact ⟨rfl, rfl⟩ | rfl) ?_
  refine (same_Ints_any _ _ R1 _ (HA8.out.later H8.out (Nat.le_refl _)) (HW5.out.later (below_via H8.out C58.out) (Nat.le_refl _))).mono ?_
  rintro e w9 ⟨rfl, hb⟩
  have H9 := Lib.hid (below_via hb H8.out)
  clear hb
  refine ⟨_, rfl, H9.out, ?_⟩
  (try simp only [Act.put, List.setIfInBounds_toArray, List.set_cons_zero, List.set_cons_succ])
  refine wpAnyH_take (i := 3) (v := ?v3) (by simp only [List.getElem?_toArray, List.getElem?_cons_succ, List.getElem?_cons_zero]; rfl) (by kernel_rfl) (by kernel_rfl) (by kernel_rfl) (fun _ _ _ h => h) (.inl ⟨by rfl, ?t3⟩) ?s3 ?_
  case t3 => (intro w' h; clear h; go_simp; try rfl)
  case s3 => exact H9.out
  (try simp only [Act.put, List.setIfInBounds_toArray, List.set_cons_zero, List.set_cons_succ])
  refine wpAnyH_take (i := 4) (v := ?v4) (by simp only [List.getElem?_toArray, List.getElem?_cons_succ, List.getElem?_cons_zero]; rfl) (by kernel_rfl) (by kernel_rfl) (by kernel_rfl) (fun _ _ _ h => h) (.inl ⟨by rfl, ?t4⟩) ?s4 ?_
  case t4 => (intro w' h; clear h; go_simp; try rfl)
  case s4 => exact H9.out
  (try simp only [Act.put, List.setIfInBounds_toArray, List.set_cons_zero, List.set_cons_succ])
  refine wpAnyH_take (i := 5) (v := ?v5) (by simp only [List.getElem?_toArray, List.getElem?_cons_succ, List.getElem?_cons_zero]; rfl) (by kernel_rfl) (by kernel_rfl) (by kernel_rfl) (fun _ _ _ h => h) (.inl ⟨by rfl, ?t5⟩) ?s5 ?_
  case t5 => (intro w' h; clear h; go_simp; try rfl)
  case s5 => exact H9.out
  (try simp only [Act.put, List.setIfInBounds_toArray, List.set_cons_zero, List.set_cons_succ])
  refine wpAnyH_take (i := 6) (v := ?v6) (by simp only [List.getElem?_toArray, List.getElem?_cons_succ, List.getElem?_cons_zero]; rfl) (by kernel_rfl) (by kernel_rfl) (by kernel_rfl) (fun _ _ _ h => h) (.inl ⟨by rfl, ?t6⟩) ?s6 ?_
  case t6 => (intro w' h; clear h; go_simp; try rfl)
  case s6 => exact H9.out
  (try simp only [Act.put, List.setIfInBounds_toArray, List.set_cons_zero, List.set_cons_succ])
  refine wpAnyH_one (i := 7) (by kernel_rfl) ?_
  refine wpOp_call (by simp only [List.getElem?_toArray, List.getElem?_cons_succ, List.getElem?_cons_zero]; rfl) (by rfl) (by go_simp; first | exact ⟨rfl, rfl⟩ | rfl) ?_
  refine (same_Ints_any _ _ R1 _ (HB8.out.later H9.out (Nat.le_refl _)) (HW5.out.later (below_via H9.out C58.out) (Nat.le_refl _))).mono ?_
  rintro e w10 ⟨rfl, hb⟩
  have H10 := Lib.hid (below_via hb H9.out)
  clear hb
  refine ⟨_, rfl, H10.out, ?_⟩
  (try simp only [Act.put, List.setIfInBounds_toArray, List.set_cons_zero, List.set_cons_succ])
  refine wpAnyH_take (i := 8) (v := ?v8) (by simp only [List.getElem?_toArray, List.getElem?_cons_succ, List.getElem?_cons_zero]; rfl) (by kernel_rfl) (by kernel_rfl) (by kernel_rfl) (fun _ _ _ h => h) (.inl ⟨by rfl, ?t8⟩) ?s8 ?_
  case t8 => (intro w' h; clear h; go_simp; try rfl)
  case s8 => exact H10.out
  (try simp only [Act.put, List.setIfInBounds_toArray, List.set_cons_zero, List.set_cons_succ])
  refine wpAnyH_take (i := 9) (v := ?v9) (by simp only [List.getElem?_toArray, List.getElem?_cons_succ, List.getElem?_cons_zero]; rfl) (by kernel_rfl) (by kernel_rfl) (by kernel_rfl) (fun _ _ _ h => h) (.inl ⟨by rfl, ?t9⟩) ?s9 ?_
  case t9 => (intro w' h; clear h; go_simp; try rfl)
  case s9 => exact H10.out
  (try simp only [Act.put, List.setIfInBounds_toArray, List.set_cons_zero, List.set_cons_succ])
  refine wpAnyH_take (i := 10) (v := ?v10) (by simp only [List.getElem?_toArray, List.getElem?_cons_succ, List.getElem?_cons_zero]; rfl) (by kernel_rfl) (by kernel_rfl) (by kernel_rfl) (fun _ _ _ h => h) (.inl ⟨by rfl, ?t10⟩) ?s10 ?_
  case t10 => (intro w' h; clear h; go_simp; try rfl)
  case s10 => exact H10.out
  (try simp only [Act.put, List.setIfInBounds_toArray, List.set_cons_zero, List.set_cons_succ])
  refine wpAnyH_take (i := 11) (v := ?v11) (by simp only [List.getElem?_toArray, List.getElem?_cons_succ, List.getElem?_cons_zero]; rfl) (by kernel_rfl) (by kernel_rfl) (by kernel_rfl) (fun _ _ _ h => h) (.inl ⟨by rfl, ?t11⟩) ?s11 ?_
  case t11 => (intro w' h; clear h; go_simp; try rfl)
  case s11 => exact H10.out
  (try simp only [Act.put, List.setIfInBounds_toArray, List.set_cons_zero, List.set_cons_succ])
  refine wpAnyH_take (i := 12) (v := ?v12) (by simp only [List.getElem?_toArray, List.getElem?_cons_succ, List.getElem?_cons_zero]; rfl) (by kernel_rfl) (by kernel_rfl) (by kernel_rfl) (fun _ _ _ h => h) (.inl ⟨by rfl, ?t12⟩) ?s12 ?_
  case t12 => (intro w' h; clear h; go_simp; try rfl)
  case s12 => exact H10.out
  (try simp only [Act.put, List.setIfInBounds_toArray, List.set_cons_zero, List.set_cons_succ])
  refine wpAnyH_one (i := 13) (by kernel_rfl) ?_
  refine wpOp_call (by simp only [List.getElem?_toArray, List.getElem?_cons_succ, List.getElem?_cons_zero]; rfl) (by rfl) (by go_simp; first | exact ⟨rfl, rfl⟩ | rfl) ?_
  refine (same_Ints_any _ _ R2 _ (HC8.out.later H10.out (Nat.le_refl _)) (HM5.out.later (below_via H10.out C58.out) (Nat.le_refl _))).mono ?_
  rintro e w11 ⟨rfl, hb⟩
  have H11 := Lib.hid (below_via hb H10.out)
  clear hb
  refine ⟨_, rfl, H11.out, ?_⟩
  (try simp only [Act.put, List.setIfInBounds_toArray, List.set_cons_zero, List.set_cons_succ])
  refine wpAnyH_take (i := 14) (v := ?v14) (by simp only [List.getElem?_toArray, List.getElem?_cons_succ, List.getElem?_cons_zero]; rfl) (by kernel_rfl) (by kernel_rfl) (by kernel_rfl) (fun _ _ _ h => h) (.inl ⟨by rfl, ?t14⟩) ?s14 ?_
  case t14 => (intro w' h; clear h; go_simp; try rfl)
  case s14 => exact H11.out
  (try simp only [Act.put, List.setIfInBounds_toArray, List.set_cons_zero, List.set_cons_succ])
  refine wpAnyH_take (i := 15) (v := ?v15) (by simp only [List.getElem?_toArray, List.getElem?_cons_succ, List.getElem?_cons_zero]; rfl) (by kernel_rfl) (by kernel_rfl) (by kernel_rfl) (fun _ _ _ h => h) (.inl ⟨by rfl, ?t15⟩) ?s15 ?_
  case t15 => (intro w' h; clear h; go_simp; try rfl)
  case s15 => exact H11.out
  (try simp only [Act.put, List.setIfInBounds_toArray, List.set_cons_zero, List.set_cons_succ])
  refine wpAnyH_take (i := 16) (v := ?v16) (by simp only [List.getElem?_toArray, List.getElem?_cons_succ, List.getElem?_cons_zero]; rfl) (by kernel_rfl) (by kernel_rfl) (by kernel_rfl) (fun _ _ _ h => h) (.inl ⟨by rfl, ?t16⟩) ?s16 ?_
  case t16 => (intro w' h; clear h; go_simp; try rfl)
  case s16 => exact H11.out
  (try simp only [Act.put, List.setIfInBounds_toArray, List.set_cons_zero, List.set_cons_succ])
  refine wpAnyH_take (i := 17) (v := ?v17) (by simp only [List.getElem?_toArray, List.getElem?_cons_succ, List.getElem?_cons_zero]; rfl) (by kernel_rfl) (by kernel_rfl) (by kernel_rfl) (fun _ _ _ h => h) (.inl ⟨by rfl, ?t17⟩) ?s17 ?_
  case t17 => (intro w' h; have FK := HF8.out w' h; clear h; go_split_ands; go_simp; try rfl)
  case s17 => exact H11.out
  (try simp only [Act.put, List.setIfInBounds_toArray, List.set_cons_zero, List.set_cons_succ])
  refine wpAnyH_take (i := 18) (v := ?v18) (by simp only [List.getElem?_toArray, List.getElem?_cons_succ, List.getElem?_cons_zero]; rfl) (by kernel_rfl) (by kernel_rfl) (by kernel_rfl) (fun _ _ _ h => h) (.inl ⟨by rfl, ?t18⟩) ?s18 ?_
  case t18 => (intro w' h; clear h; go_simp; try rfl)
  case s18 => exact H11.out
  (try simp only [Act.put, List.setIfInBounds_toArray, List.set_cons_zero, List.set_cons_succ])
  refine wpAnyH_take (i := 19) (v := ?v19) (by simp only [List.getElem?_toArray, List.getElem?_cons_succ, List.getElem?_cons_zero]; rfl) (by kernel_rfl) (by kernel_rfl) (by kernel_rfl) (fun _ _ _ h => h) (.inl ⟨by rfl, ?t19⟩) ?s19 ?_
  case t19 => (intro w' h; clear h; go_simp; try rfl)
  case s19 => exact H11.out
  (try simp only [Act.put, List.setIfInBounds_toArray, List.set_cons_zero, List.set_cons_succ])
  refine wpAnyH_take (i := 21) (v := ?v21) (by simp only [List.getElem?_toArray, List.getElem?_cons_succ, List.getElem?_cons_zero]; rfl) (by kernel_rfl) (by kernel_rfl) (by kernel_rfl) (fun _ _ _ h => h) (.inl ⟨by rfl, ?t21⟩) ?s21 ?_
  case t21 => (intro w' h; have FK := HF8.out w' h; clear h; go_split_ands; go_simp; try rfl)
  case s21 => exact H11.out
  (try simp only [Act.put, List.setIfInBounds_toArray, List.set_cons_zero, List.set_cons_succ])
  refine wpAnyH_take (i := 22) (v := ?v22) (by simp only [List.getElem?_toArray, List.getElem?_cons_succ, List.getElem?_cons_zero]; rfl) (by kernel_rfl) (by kernel_rfl) (by kernel_rfl) (fun _ _ _ h => h) (.inl ⟨by rfl, ?t22⟩) ?s22 ?_
  case t22 => (intro w' h; clear h; go_simp; try rfl)
  case s22 => exact H11.out
  (try simp only [Act.put, List.setIfInBounds_toArray, List.set_cons_zero, List.set_cons_succ])
  refine wpAnyH_take (i := 23) (v := ?v23) (by simp only [List.getElem?_toArray, List.getElem?_cons_succ, List.getElem?_cons_zero]; rfl) (by kernel_rfl) (by kernel_rfl) (by kernel_rfl) (fun _ _ _ h => h) (.inl ⟨by rfl, ?t23⟩) ?s23 ?_
  case t23 => (intro w' h; clear h; go_simp; try rfl)
  case s23 => exact H11.out
  (try simp only [Act.put, List.setIfInBounds_toArray, List.set_cons_zero, List.set_cons_succ])
  refine wpAnyH_one (i := 20) (by kernel_rfl) ?_
  refine wpOp_call (by simp only [List.getElem?_toArray, List.getElem?_cons_succ, List.getElem?_cons_zero]; rfl) (by rfl) (by go_simp; first | exact ⟨rfl, rfl⟩ | rfl) ?_
  refine (HN1.out _ H11.out).mono ?_
  rintro e w11a ⟨rfl, hb⟩
  have H11a := Lib.hid (below_via hb H11.out)
  clear hb
  refine ⟨_, rfl, H11a.out, ?_⟩
  (try simp only [Act.put, List.setIfInBounds_toArray, List.set_cons_zero, List.set_cons_succ])
  refine wpAnyH_one (i := 24) (by kernel_rfl) ?_
  refine wpOp_call (by simp only [List.getElem?_toArray, List.getElem?_cons_succ, List.getElem?_cons_zero]; rfl) (by rfl) (by go_simp; first | exact ⟨rfl, rfl⟩ | rfl) ?_
  refine (HN2.out _ H11a.out).mono ?_
  rintro e w11b ⟨rfl, hb⟩
  have H11b := Lib.hid (below_via hb H11a.out)
  clear hb
  refine ⟨_, rfl, H11b.out, ?_⟩
  (try simp only [Act.put, List.setIfInBounds_toArray, List.set_cons_zero, List.set_cons_succ])
  refine wpAnyH_take (i := 25) (v := ?v25) (by simp only [List.getElem?_toArray, List.getElem?_cons_succ, List.getElem?_cons_zero]; rfl) (by kernel_rfl) (by kernel_rfl) (by kernel_rfl) (fun _ _ _ h => h) (.inl ⟨by rfl, ?t25⟩) ?s25 ?_
  case t25 => (intro w' h; clear h; go_simp; try rfl)
  case s25 => exact H11b.out
  (try simp only [Act.put, List.setIfInBounds_toArray, List.set_cons_zero, List.set_cons_succ])
  refine wpAnyH_take (i := 26) (v := ?v26) (by simp only [List.getElem?_toArray, List.getElem?_cons_succ, List.getElem?_cons_zero]; rfl) (by kernel_rfl) (by kernel_rfl) (by kernel_rfl) (fun _ _ _ h => h) (.inl ⟨by rfl, ?t26⟩) ?s26 ?_
  case t26 => (intro w' h; clear h; go_simp; try rfl)
  case s26 => exact H11b.out
  (try simp only [Act.put, List.setIfInBounds_toArray, List.set_cons_zero, List.set_cons_succ])
  refine wpAnyH_take (i := 27) (v := ?v27) (by simp only [List.getElem?_toArray, List.getElem?_cons_succ, List.getElem?_cons_zero]; rfl) (by kernel_rfl) (by kernel_rfl) (by kernel_rfl) (fun _ _ _ h => h) (.inl ⟨by rfl, ?t27⟩) ?s27 ?_
  case t27 => (intro w' h; clear h; go_simp; try rfl)
  case s27 => exact H11b.out
  (try simp only [Act.put, List.setIfInBounds_toArray, List.set_cons_zero, List.set_cons_succ])
  refine wpAnyH_take (i := 28) (v := ?v28) (by simp only [List.getElem?_toArray, List.getElem?_cons_succ, List.getElem?_cons_zero]; rfl) (by kernel_rfl) (by kernel_rfl) (by kernel_rfl) (fun _ _ _ h => h) (.inl ⟨by rfl, ?t28⟩) ?s28 ?_
  case t28 => (intro w' h; have FK := HF8.out w' h; clear h; go_split_ands; go_simp; try rfl)
  case s28 => exact H11b.out
  (try simp only [Act.put, List.setIfInBounds_toArray, List.set_cons_zero, List.set_cons_succ])
  refine wpAnyH_take (i := 29) (v := ?v29) (by simp only [List.getElem?_toArray, List.getElem?_cons_succ, List.getElem?_cons_zero]; rfl) (by kernel_rfl) (by kernel_rfl) (by kernel_rfl) (fun _ _ _ h => h) (.inl ⟨by rfl, ?t29⟩) ?s29 ?_
  case t29 => (intro w' h; have FK := HF8.out w' h; clear h; go_split_ands; go_simp; try rfl)
  case s29 => exact H11b.out
  (try simp only [Act.put, List.setIfInBounds_toArray, List.set_cons_zero, List.set_cons_succ])
  refine wpAnyH_one (i := 30) (by kernel_rfl) ?_
  refine wpOp_call (by simp only [List.getElem?_toArray, List.getElem?_cons_succ, List.getElem?_cons_zero]; rfl) (by rfl) (by go_simp; first | exact ⟨rfl, rfl⟩ | rfl) ?_
  refine (kept_any _ p c T _ _ (HLA5.out.later (below_via H11b.out C58.out)) (HT5.out.later (below_via H11b.out C58.out))).mono ?_
  rintro e w12 ⟨rfl, hb⟩
  have H12 := Lib.hid (below_via hb H11b.out)
  clear hb
  refine ⟨_, rfl, H12.out, ?_⟩
  (try simp only [Act.put, List.setIfInBounds_toArray, List.set_cons_zero, List.set_cons_succ])
  refine wpAnyH_take (i := 31) (v := ?v31) (by simp only [List.getElem?_toArray, List.getElem?_cons_succ, List.getElem?_cons_zero]; rfl) (by kernel_rfl) (by kernel_rfl) (by kernel_rfl) (fun _ _ _ h => h) (.inl ⟨by rfl, ?t31⟩) ?s31 ?_
  case t31 => (intro w' h; clear h; go_simp; try rfl)
  case s31 => exact H12.out
  (try simp only [Act.put, List.setIfInBounds_toArray, List.set_cons_zero, List.set_cons_succ])
  refine wpAnyH_take (i := 32) (v := ?v32) (by simp only [List.getElem?_toArray, List.getElem?_cons_succ, List.getElem?_cons_zero]; rfl) (by kernel_rfl) (by kernel_rfl) (by kernel_rfl) (fun _ _ _ h => h) (.inl ⟨by rfl, ?t32⟩) ?s32 ?_
  case t32 => (intro w' h; clear h; go_simp; try rfl)
  case s32 => exact H12.out
  (try simp only [Act.put, List.setIfInBounds_toArray, List.set_cons_zero, List.set_cons_succ])
  refine wpAnyH_done (by kernel_rfl) (NoPanic.normal ?_) _
  have C12 := H12.out
  clear H8 H9 H10 H11 H11a H11b H12 HN1 HN2 HF8
  have OAW := Lib.hid (row_later OA8.out C12)
  have OBW := Lib.hid (row_later OB8.out C12)
  have OCW := Lib.hid (row_later OC.out C12)
  have LTC := Lib.hid (fun g hg => (row_lt OC.out g hg))
  have W712 := Lib.hid (show w7.heap.size ≤ w12.heap.size by have := SZ.out; have := C12.size; omega)
  obtain ⟨i0, hi, hz0, hz1, hz2⟩ := info_parts infoInt_
  have HI := Lib.hid (And.intro hi (And.intro hz0 (And.intro hz1 hz2)))
  clear hi hz0 hz1 hz2
  have CW5 := Lib.hid (below_via C12 C58.out)
  have hac : RowKit.Hid (∀ g, (Value.slice pa R1.length ca).ownBlock = some g → (Value.slice pc R2.length cc).ownBlock ≠ some g) := Lib.hid (fun g h1 h2 => by have := (LTA.out g h1).1; have := (LTC.out g h2).2; have := SZ.out; omega)
  have hab : RowKit.Hid (∀ g, (Value.slice pb R1.length cb).ownBlock = some g → (Value.slice pa R1.length ca).ownBlock ≠ some g ∧ (Value.slice pc R2.length cc).ownBlock ≠ some g) := Lib.hid (fun g h1 => ⟨fun h2 => by have := (LTA.out g h2).1; have := (LTB.out g h1).2; omega, fun h2 => by have := (LTB.out g h1).1; have := (LTC.out g h2).2; omega⟩)
  have hlW : RowKit.Hid (∀ g, ((Value.slice pa R1.length ca).ownBlock = some g ∨ (Value.slice pc R2.length cc).ownBlock = some g) → w5.heap.size ≤ g ∧ g < w12.heap.size) := Lib.hid (fun g h => by
    have := SZ.out
    have := C12.size
    rcases h with h | h
    · have := LTA.out g h; omega
    · have := LTC.out g h; omega)
  clear HA8 HB8 HC8 OA8 OB8 OC C58 C12 B8 LTA LTB LTC HM5 HK HS HR1 HR2 HTA HU5 HU HRN
  go_wp2
  go_loopw [68] (fun i wr => ∃ k : Nat, k ≤ R1.length ∧ i = .int .i64 k ∧ RowKit.Hid (wr.ownsRow w5.heap.size 3 1 (.slice pa R1.length ca) R1.length (half k m11 (oneL R1))) ∧ RowKit.Hid (Grown2 w12 wr (Value.slice pa R1.length ca).ownBlock (Value.slice pc R2.length cc).ownBlock) ∧ RowKit.Hid (wr.ownsRow w7.heap.size 3 1 (.slice pc R2.length cc) R2.length (R2.map (Value.int .i64)))) (fun i _ => R1.length - (intOf i).toNat)
  case atStart => exact ⟨0, Nat.zero_le _, rfl, Lib.hid (by rw [half_zero, oneL_flat]; exact OAW.out), Lib.hid (Grown2.refl _ _ _), OCW⟩
  case round =>
    clear OAW OCW
    obtain ⟨k, hk, rfl, OW, GW, OCW⟩ := hrel
    by_cases hlt : k < R1.length
    · have hki : (k : Int) < (R1.length : Int) := by omega
      have hform := row_form OW.out
      rcases hform with ⟨_, h0, _⟩ | ⟨g, c, e, _, _, hz, _⟩
      · omega
      · injection e with e1 _ e3
        subst e1 e3
        obtain ⟨⟨u0, h0⟩, f0⟩ := row_at1 OW.out k (by omega)
        have OW' := Lib.hid (show (wr.setCell ⟨g, k, none⟩ (.int .i64 (-11))).ownsRow w5.heap.size 3 1 (.slice (some ⟨g, 0, none⟩) R1.length ca) R1.length (half (k + 1) m11 (oneL R1)) by
          have := row_set OW.out k (.int .i64 (-11))
          rwa [show (half k m11 (oneL R1)).set k (.int .i64 (-11)) = half (k + 1) m11 (oneL R1) from half_set1 (oneL_all R1) (by rw [oneL_len]; exact hlt)] at this)
        have GW' := Lib.hid (GW.out.step (setCell_grown_ wr ⟨g, k, none⟩ (.int .i64 (-11))) (fun k' hk' => .inr (.inl hk')))
        have hne : (Value.slice pc R2.length cc).ownBlock = none ∨ (Value.slice pc R2.length cc).ownBlock ≠ some g := .inr (hac.out g rfl)
        have OC' := Lib.hid (OCW.out.kept (setCell_grown_ wr ⟨g, k, none⟩ (.int .i64 (-11))) hne)
        clear OW GW OCW hne
        go_wp2
        go_roundw
        case rel => exact ⟨k + 1, by omega, by go_num, OW', GW', OC'⟩
        case measure => simp [intOf]; omega
    · obtain rfl : k = R1.length := by omega
      have OA1 := Lib.hid (show wr.ownsRow w5.heap.size 3 1 (.slice pa R1.length ca) R1.length (reps R1.length m11) by have := OW.out; rwa [show half R1.length m11 (oneL R1) = reps R1.length m11 by have := half_all m11 (oneL R1); rwa [oneL_len] at this] at this)
      have GW1 := GW
      have OCW1 := OCW
      clear OW GW OCW hlt hk
      go_wp2
      obtain ⟨wa, rfl⟩ : ∃ wo : World, wo = wr := ⟨_, rfl⟩
      go_loopw [77] (fun i wr => ∃ k : Nat, k ≤ R2.length ∧ i = .int .i64 k ∧ RowKit.Hid (wr.ownsRow w7.heap.size 3 1 (.slice pc R2.length cc) R2.length (half k m22 (oneL R2))) ∧ RowKit.Hid (Grown2 w12 wr (Value.slice pa R1.length ca).ownBlock (Value.slice pc R2.length cc).ownBlock) ∧ RowKit.Hid (wr.ownsRow w5.heap.size 3 1 (.slice pa R1.length ca) R1.length (reps R1.length m11))) (fun i _ => R2.length - (intOf i).toNat)
      case atStart => exact ⟨0, Nat.zero_le _, rfl, Lib.hid (by rw [half_zero, oneL_flat]; exact OCW1.out), GW1, OA1⟩
      case round =>
        clear OA1 GW1 OCW1
        obtain ⟨k, hk, rfl, OW, GW, OAW⟩ := hrel
        by_cases hlt : k < R2.length
        · have hki : (k : Int) < (R2.length : Int) := by omega
          have hform := row_form OW.out
          rcases hform with ⟨_, h0, _⟩ | ⟨g, c, e, _, _, hz, _⟩
          · omega
          · injection e with e1 _ e3
            subst e1 e3
            obtain ⟨⟨u0, h0⟩, f0⟩ := row_at1 OW.out k (by omega)
            have OW' := Lib.hid (show (wr.setCell ⟨g, k, none⟩ (.int .i64 (-22))).ownsRow w7.heap.size 3 1 (.slice (some ⟨g, 0, none⟩) R2.length cc) R2.length (half (k + 1) m22 (oneL R2)) by
              have := row_set OW.out k (.int .i64 (-22))
              rwa [show (half k m22 (oneL R2)).set k (.int .i64 (-22)) = half (k + 1) m22 (oneL R2) from half_set1 (oneL_all R2) (by rw [oneL_len]; exact hlt)] at this)
            have GW' := Lib.hid (GW.out.step (setCell_grown_ wr ⟨g, k, none⟩ (.int .i64 (-22))) (fun k' hk' => .inr (.inr hk')))
            have hne : (Value.slice pa R1.length ca).ownBlock = none ∨ (Value.slice pa R1.length ca).ownBlock ≠ some g := .inr (fun e => hac.out g e rfl)
            have OA' := Lib.hid (OAW.out.kept (setCell_grown_ wr ⟨g, k, none⟩ (.int .i64 (-22))) hne)
            clear OW GW OAW hne
            go_wp2
            go_roundw
            case rel => exact ⟨k + 1, by omega, by go_num, OW', GW', OA'⟩
            case measure => simp [intOf]; omega
        · obtain rfl : k = R2.length := by omega
          have HT0 : RowKit.Hid (TwoM w12 wr 3 1 (.slice pa R1.length ca) (.slice pc R2.length cc) (.slice pa R1.length ca) (.slice pc R2.length cc) w5.heap.size w7.heap.size R1.length R2.length (R1.length + 0) (R2.length + 0) m11 m22) := Lib.hid (by
            have hc := OW.out
            rw [show half R2.length m22 (oneL R2) = reps R2.length m22 by have := half_all m22 (oneL R2); rwa [oneL_len] at this] at hc
            exact ⟨GW.out, .start OAW.out, .start hc, .inl rfl, .inl rfl, hac.out, fun g hg => ⟨(hlW.out g (.inl hg)).2, hac.out g hg⟩, fun g hg => (hlW.out g (.inr hg)).2⟩)
          clear OW GW OAW hlt hk
          go_wp2
          obtain ⟨wb, rfl⟩ : ∃ wo : World, wo = wr := ⟨_, rfl⟩
          go_loopw [86, 17, 18] (fun i vx vy wr => ∃ k : Nat, k ≤ 70 ∧ i = .int .i64 k ∧ RowKit.Hid (TwoM w12 wr 3 1 (.slice pa R1.length ca) (.slice pc R2.length cc) vx vy w5.heap.size w7.heap.size R1.length R2.length (R1.length + k) (R2.length + k) m11 m22)) (fun i _ _ _ => 70 - (intOf i).toNat)
          case atStart => exact ⟨0, by omega, rfl, HT0⟩
          case round =>
            clear HT0
            obtain ⟨k, hk, rfl, HT⟩ := hrel
            rcases (show k < 70 ∨ k = 70 by omega) with hlt | rfl
            · have hki : (k : Int) < 70 := by omega
              have hw5 : w5.heap.size ≤ wr.heap.size := by have := CW5.out.size; have := HT.out.gr.size; omega
              have hw7 : w7.heap.size ≤ wr.heap.size := by have := CW5.out.size; have := HT.out.gr.size; have := W712.out; omega
              have HTA := Lib.hid (HT.out.alloc (.cells #[.int .i64 (-11)] 3))
              have hone : ∀ a : Int, ∀ u ∈ [Value.int .i64 a], u.oneCell' = true := fun a u hu => by simp at hu; rcases hu with rfl; rfl
              have HON := Lib.hid hone
              have hx1 : R1.length + k + 1 ≤ maxLen := by unfold maxLen; omega
              have hx2 : R2.length + k + 1 ≤ maxLen := by unfold maxLen; omega
              clear hone
              go_wp2_with (at_builtin; go_must (refine append_keep rfl (.tmp 88) (.tmp 89) 25 rfl w5.heap.size 3 i0 _ 1 8 Try.underlying25 HI.out.1 HI.out.2.1 HI.out.2.2.1 HI.out.2.2.2 rfl (by decide) _ (R1.length + k) _ rfl HTA.out.x.own ⟨wr.heap.size, 0, none⟩ 1 1 [.int .i64 (-11)] rfl rfl ?n1 (HON.out _) hx1 ?n2 ?n3 ?_))
              case n1 => exact World.news_of_block (cs := #[.int .i64 (-11)]) (t := 3) (fr := (0, 0)) (heap_alloc_new wr _)
              case n2 => omega
              case n3 => first | omega | (simp; omega)
              intro vx' wx ownx grx plx
              have HT1 := Lib.hid (HTA.out.appX ownx grx (by simpa using plx))
              have hwx : wr.heap.size ≤ wx.heap.size := by have := grx.size; simp at this; omega
              have HTC := Lib.hid ((HT1.out.alloc (.cells #[.int .i64 (-22)] 3)).swap)
              clear ownx grx plx HTA HT
              go_wp2_with (at_builtin; go_must (refine append_keep rfl (.tmp 91) (.tmp 92) 25 rfl w7.heap.size 3 i0 _ 1 8 Try.underlying25 HI.out.1 HI.out.2.1 HI.out.2.2.1 HI.out.2.2.2 rfl (by decide) _ (R2.length + k) _ rfl HTC.out.x.own ⟨wx.heap.size, 0, none⟩ 1 1 [.int .i64 (-22)] rfl rfl ?m1 (HON.out _) hx2 ?m2 ?m3 ?_))
              case m1 => exact World.news_of_block (cs := #[.int .i64 (-22)]) (t := 3) (fr := (0, 0)) (heap_alloc_new wx _)
              case m2 => omega
              case m3 => first | omega | (simp; omega)
              intro vy' wy owny gry ply
              have HT2 := Lib.hid ((HTC.out.appX owny gry (by simpa using ply)).swap)
              clear owny gry ply HTC HT1 HON
              go_wp2
              go_roundw
              case rel => exact ⟨k + 1, by omega, by go_num, HT2⟩
              case measure => simp [intOf]; omega
            · clear hk
              have HX := Lib.hid HT.out.x
              have HY := Lib.hid HT.out.y
              have CWF := Lib.hid (show Below w5.heap.size w5 wr from HT.out.gr.below CW5.out CW5.out.size (fun g hg => (hlW.out g (.inl hg)).1) (fun g hg => (hlW.out g (.inr hg)).1))
              have nf : ∀ v : Value, v.ownBlock = none ∨ ∃ g, v.ownBlock = some g := fun v => by cases v.ownBlock <;> simp
              have OBF := Lib.hid (HT.out.gr.row OBW.out ((nf (Value.slice pb R1.length cb)).imp id (fun ⟨g, hg⟩ e => (hab.out g hg).1 (e.symm.trans hg))) ((nf (Value.slice pb R1.length cb)).imp id (fun ⟨g, hg⟩ e => (hab.out g hg).2 (e.symm.trans hg))))
              clear HT nf OBW
              rcases row_form HX.out.own with ⟨_, h0, _⟩ | ⟨gx, cx, rfl, _, _, hzx, _⟩
              · omega
              rcases row_form HY.out.own with ⟨_, h0, _⟩ | ⟨gy, cy, rfl, _, _, hzy, _⟩
              · omega
              have XC := Lib.hid (fun i (hi : i < R1.length + 70) => show wr.cell? ⟨gx, i, none⟩ = some (.int .i64 (-11)) by
                have := row_cells HX.out.own (i * 1 + 0) (.int .i64 (-11)) (by have := reps_get (R1.length + 70) m11 i 0 hi (by decide); exact this)
                rwa [Nat.zero_add, Nat.add_zero, Nat.mul_one] at this)
              have YC := Lib.hid (fun i (hi : i < R2.length + 70) => show wr.cell? ⟨gy, i, none⟩ = some (.int .i64 (-22)) by
                have := row_cells HY.out.own (i * 1 + 0) (.int .i64 (-22)) (by have := reps_get (R2.length + 70) m22 i 0 hi (by decide); exact this)
                rwa [Nat.zero_add, Nat.add_zero, Nat.mul_one] at this)
              have AC := Lib.hid (fun i (hi : i < R1.length) => show ∃ g, pa = some ⟨g, 0, none⟩ ∧ g < wr.heap.size ∧ wr.cell? ⟨g, i, none⟩ = some (.int .i64 (-11)) by
                rcases HX.out.rd with h0 | ⟨g, c, e, hz, hc⟩
                · omega
                · injection e with e _ _
                  refine ⟨g, e, hz, ?_⟩
                  have := hc (i * 1 + 0) (.int .i64 (-11)) (by have := reps_get R1.length m11 i 0 hi (by decide); exact this)
                  rwa [Nat.zero_add, Nat.add_zero, Nat.mul_one] at this)
              have CC := Lib.hid (fun i (hi : i < R2.length) => show ∃ g, pc = some ⟨g, 0, none⟩ ∧ g < wr.heap.size ∧ wr.cell? ⟨g, i, none⟩ = some (.int .i64 (-22)) by
                rcases HY.out.rd with h0 | ⟨g, c, e, hz, hc⟩
                · omega
                · injection e with e _ _
                  refine ⟨g, e, hz, ?_⟩
                  have := hc (i * 1 + 0) (.int .i64 (-22)) (by have := reps_get R2.length m22 i 0 hi (by decide); exact this)
                  rwa [Nat.zero_add, Nat.add_zero, Nat.mul_one] at this)
              clear HX HY hac hab hlW W712
              go_wp2
              go_loop [97] (fun i => ∃ k : Nat, k ≤ R1.length + 70 ∧ i = .int .i64 k) (fun i => R1.length + 70 - (intOf i).toNat)
              case atStart => exact ⟨0, Nat.zero_le _, rfl⟩
              case round =>
                obtain ⟨k, hk, rfl⟩ := hrel
                rcases (show k < R1.length ∨ (R1.length ≤ k ∧ k < R1.length + 70) ∨ k = R1.length + 70 by omega) with hlt | ⟨hge, hlt⟩ | rfl
                · have hki : (k : Int) < (R1.length : Int) := by omega
                  have hki2 : (k : Int) < (R1.length : Int) + 70 := by omega
                  have d1 : decide (k < R1.length) = true := by rw [decide_eq_true_eq]; exact hlt
                  have xc := XC.out k (by omega)
                  obtain ⟨g, e, hz, ac⟩ := AC.out k hlt
                  subst e
                  go_wp2
                  go_round
                  case rel => exact ⟨k + 1, by omega, by go_num⟩
                  case measure => simp [intOf]; omega
                · have hki : (R1.length : Int) ≤ (k : Int) := by omega
                  have hki2 : (k : Int) < (R1.length : Int) + 70 := by omega
                  have d1 : decide (k < R1.length) = false := by rw [decide_eq_false_iff_not]; omega
                  have xc := XC.out k hlt
                  go_wp2
                  go_round
                  case rel => exact ⟨k + 1, by omega, by go_num⟩
                  case measure => simp [intOf]; omega
                · clear hk XC AC
                  go_wp2
                  go_loop [121] (fun i => ∃ k : Nat, k ≤ R2.length + 70 ∧ i = .int .i64 k) (fun i => R2.length + 70 - (intOf i).toNat)
                  case atStart => exact ⟨0, Nat.zero_le _, rfl⟩
                  case round =>
                    obtain ⟨k, hk, rfl⟩ := hrel
                    rcases (show k < R2.length ∨ (R2.length ≤ k ∧ k < R2.length + 70) ∨ k = R2.length + 70 by omega) with hlt | ⟨hge, hlt⟩ | rfl
                    · have hki : (k : Int) < (R2.length : Int) := by omega
                      have hki2 : (k : Int) < (R2.length : Int) + 70 := by omega
                      have d1 : decide (k < R2.length) = true := by rw [decide_eq_true_eq]; exact hlt
                      have xc := YC.out k (by omega)
                      obtain ⟨g, e, hz, ac⟩ := CC.out k hlt
                      subst e
                      go_wp2
                      go_round
                      case rel => exact ⟨k + 1, by omega, by go_num⟩
                      case measure => simp [intOf]; omega
                    · have hki : (R2.length : Int) ≤ (k : Int) := by omega
                      have hki2 : (k : Int) < (R2.length : Int) + 70 := by omega
                      have d1 : decide (k < R2.length) = false := by rw [decide_eq_false_iff_not]; omega
                      have xc := YC.out k hlt
                      go_wp2
                      go_round
                      case rel => exact ⟨k + 1, by omega, by go_num⟩
                      case measure => simp [intOf]; omega
                    · clear hk YC CC
                      have HBF := Lib.hid (row_ints OBF.out)
                      go_wp2_with fail
                      refine (same_Ints_any _ _ R1 _ HBF.out (HW5.out.later CWF.out (Nat.le_refl _))).mono ?_
                      rintro e wf ⟨rfl, hbf⟩
                      have CF := Lib.hid (below_via hbf CWF.out)
                      clear hbf HBF OBF CWF
                      obtain ⟨⟨x0, xu, x2⟩, s0, su, s2⟩ := HF.out wf CF.out
                      go_wp2_with fail
                      refine (kept_any _ p c T _ _ (HLA5.out.later CF.out) (HT5.out.later CF.out)).mono ?_
                      rintro e wg ⟨rfl, hbg⟩
                      have CG := Lib.hid (below_via hbg CF.out)
                      clear hbg x0 xu x2 s0 su s2
                      go_wp2_with fail
                      refine (works_any _).mono ?_
                      rintro e wh ⟨rfl, hbh⟩
                      have BH := below_via (below_via hbh CG.out) B5
                      clear hbh CF CG
                      go_wp2
                      go_ret
                      exact ⟨rfl, BH⟩
end Go.Proofs.Ytihjefncjkdnpaa
