/- The walk of ScrollAbove. -/
import Derived.Test.YtegdokchkblpiaaDwv
import Derived.Test.YtegdokchkblpiaaLntD
import Derived.Test.YtegdokchkblpiaaLntT
import Derived.Test.YtegdokchkblpiaaTreS
import Derived.Test.YtegdokchkblpiaaMark
namespace Go.Proofs.Ytegdokchkblpiaa
open Go.RowKit Go.Deep
set_option linter.unusedVariables false
set_option linter.unusedSimpArgs false

theorem aboveR_4096 (T : List Nd) (nd : Int) : (aboveR T nd).length ≤ 4096 := by
  obtain ⟨_, h2, h3, _⟩ := parL_low T
  unfold aboveR
  split
  · have := upL_len T (parL T) T.length ((parL T).getD nd.toNat 0)
    have := h3 (by omega)
    omega
  · simp
/-- a row of ints of the call's own, as a value -/
theorem ints_form {w : World} {B : Nat} {v : Value} {L : List Int} (h : w.ownsRow B 3 1 v L.length (L.map (Value.int .i64))) : ∃ p c, v = .slice p L.length c ∧ IntsAt w v L := by
  have hr := row_ints h
  obtain ⟨p, c, e, _⟩ := hr
  exact ⟨p, c, e, row_ints h⟩
def oneL (L : List Int) : List (List Value) := L.map fun v => [.int .i64 v]
theorem oneL_flat : ∀ (L : List Int), (oneL L).flatten = L.map (Value.int .i64)
  | [] => rfl
  | a :: L => by
    have := oneL_flat L
    unfold oneL at this ⊢
    rw [List.map_cons, List.flatten_cons, this]; rfl
theorem oneL_len (L : List Int) : (oneL L).length = L.length := by simp [oneL]
theorem oneL_all (L : List Int) : ∀ a ∈ oneL L, a.length = 1 := fun a ha => by
  obtain ⟨v, _, rfl⟩ := List.mem_map.1 ha
  rfl
theorem row_at1 {w : World} {base : Nat} {t : TypeId} {k g n c m : Nat} {xs : List Value} (h : w.ownsRow base t k (.slice (some ⟨g, 0, none⟩) m c) n xs) (i : Nat) (hi : i < n * k) : (∃ v, w.cell? ⟨g, i, none⟩ = some v) ∧ w.frozen? ⟨g, i, none⟩ = false := by
  have hc := row_cells h
  have hl : i < xs.length := by rw [h.1]; exact hi
  refine ⟨⟨xs[i], ?_⟩, ?_⟩
  · have := hc i _ (List.getElem?_eq_getElem hl)
    rwa [Nat.zero_add] at this
  · obtain ⟨_, ⟨e, _⟩ | ⟨g', cap, cur, e, _, hh, _⟩⟩ := h
    · cases e
    · injection e with e1 _ _
      injection e1 with e1
      injection e1 with e1
      subst e1
      exact frozen_of_row _ _ _ _ _ hh
def m11 : List Value := [.int .i64 (-11)]
def m22 : List Value := [.int .i64 (-22)]
set_option maxRecDepth 100000 in
set_option maxHeartbeats 32000000 in
theorem ScrollAbove_walk (p : Option Addr) (c : Nat) (T : List Nd) (na nb : Int) (w : World) (ht : TreeAt w (.slice p T.length c) T) (hN : T.length * 288 ≤ 140737488351232) (hK : ∀ x ∈ T, x.kids.length * 8 ≤ 140737488351232 ∧ x.cols.length * 40 ≤ 140737488351232) : Calls Try.prog 9 #[.agg #[.slice p T.length c], .int .i64 na, .int .i64 nb] w fun e w' => e = .returned (.bool true) ∧ Below w.heap.size w w' := by
  have HT := Lib.hid ht
  have HK := Lib.hid hK
  have HS := Lib.hid hN
  clear ht hK hN
  go_enter Try.func9, Try.ntmps9
  go_wp2_with fail
  obtain ⟨R1, hR1⟩ : ∃ R, R = aboveR T na := ⟨_, rfl⟩
  have HR1 := Lib.hid hR1
  have hl1 : R1.length ≤ 4096 := by rw [hR1]; exact aboveR_4096 _ _
  obtain ⟨R2, hR2⟩ : ∃ R, R = aboveR T nb := ⟨_, rfl⟩
  have HR2 := Lib.hid hR2
  have hl2 : R2.length ≤ 4096 := by rw [hR2]; exact aboveR_4096 _ _
  clear hR1 hR2
  refine (ref_Above_any p c T na _ (HT.out.later (by go_grown))).mono ?_
  rw [← HR1.out]
  rintro e w1 ⟨v1, rfl, own1, hb1⟩
  have B1 : Below w.heap.size w w1 := below_via hb1 (by go_grown)
  have t1 := (hb1.block w.heap.size (by simp)).trans (heap_alloc_new _ _)
  have x0 := cell_of_one t1
  have s0 := lt_of_block t1
  have HW := Lib.hid (row_ints own1)
  clear hb1 own1 t1
  go_wp2_with fail
  refine (ref_Above_any p c T nb _ (HT.out.later B1)).mono ?_
  rw [← HR2.out]
  rintro e w2 ⟨v2, rfl, own2, hb2⟩
  have B2 := below_via hb2 B1
  have HW2 := Lib.hid (HW.out.later hb2 (Nat.le_refl _))
  have HM2 := Lib.hid (row_ints own2)
  have y0 : w2.cell? ⟨w.heap.size, 0, none⟩ = some (.slice p T.length c) := by rw [(bcell hb2).1 _ _ s0]; exact x0
  have t0 : w.heap.size < w2.heap.size := by have := hb2.size; omega
  clear hb2 own2 HW B1 x0 s0
  go_wp2_with fail
  refine (lent_any p c T _ (HT.out.later B2) HS.out HK.out).mono ?_
  rintro e w3 ⟨v3, rfl, LA, hb3⟩
  have HLA := Lib.hid LA
  obtain ⟨ga, cga, rfl⟩ : ∃ g cg, v3 = .slice (some ⟨g, 0, none⟩) T.length cg := by obtain ⟨g, c, _, e, _⟩ := LA; exact ⟨g, c, e⟩
  have s0 : w.heap.size < w3.heap.size := by have := hb3.size; omega
  have x0 : w3.cell? ⟨w.heap.size, 0, none⟩ = some (.slice p T.length c) := by rw [(bcell hb3).1 _ _ t0]; exact y0
  have B3 := below_via hb3 B2
  have HW3 := Lib.hid (HW2.out.later hb3 (Nat.le_refl _))
  have HM3 := Lib.hid (HM2.out.later hb3 (Nat.le_refl _))
  clear HW2 HM2 hb3 LA B2 y0 t0
  go_wp2_with fail
  obtain ⟨b3, hb3⟩ : ∃ b, b = w3.heap.size := ⟨_, rfl⟩
  rw [← hb3]
  generalize hw5 : World.alloc w3 _ = w5
  have C5 : Below w3.heap.size w3 w5 := by rw [← hw5]; exact below_al (Below.refl _ _) _
  have B5 := below_via C5 B3
  have F5 : w.heap.size < w5.heap.size ∧ b3 < w5.heap.size ∧ w5.cell? ⟨w.heap.size, 0, none⟩ = some (.slice p T.length c) ∧ w5.cell? ⟨b3, 0, none⟩ = some (.slice (some ⟨ga, 0, none⟩) T.length cga) := by
    have hz : w5.heap.size = w3.heap.size + 1 := by rw [← hw5]; simp
    refine ⟨by omega, by omega, by rw [(bcell C5).1 _ _ s0]; exact x0, ?_⟩
    rw [← hw5, hb3]; simp [go_sem]
  have HW5 := Lib.hid (HW3.out.later C5 (Nat.le_refl _))
  have HM5 := Lib.hid (HM3.out.later C5 (Nat.le_refl _))
  have HLA5 := Lib.hid (HLA.out.later C5)
  have HTA := Lib.hid (HLA5.out.tree HT.out.ok HT.out.len)
  clear HW3 HM3 HLA hw5 C5 B3 x0 s0 hb3
  obtain ⟨s0, s2, x0, x2⟩ := F5
  refine (scroll_Above_any _ cga T na _ HTA.out).mono ?_
  rw [← HR1.out]
  rintro e w6 ⟨va, rfl, own6, hb6⟩
  have F6 : w.heap.size < w6.heap.size ∧ b3 < w6.heap.size ∧ w6.cell? ⟨w.heap.size, 0, none⟩ = some (.slice p T.length c) ∧ w6.cell? ⟨b3, 0, none⟩ = some (.slice (some ⟨ga, 0, none⟩) T.length cga) := by
    have hz := hb6.size
    exact ⟨by omega, by omega, by rw [(bcell hb6).1 _ _ s0]; exact x0, by rw [(bcell hb6).1 _ _ s2]; exact x2⟩
  have OA := Lib.hid own6
  have HTA6 := Lib.hid (HTA.out.later hb6)
  have C56 := hb6
  clear own6 hb6 x0 x2 s0 s2
  obtain ⟨s0, s2, x0, x2⟩ := F6
  go_wp2_with fail
  refine (scroll_Above_any _ cga T na _ HTA6.out).mono ?_
  rw [← HR1.out]
  rintro e w7 ⟨vb, rfl, own7, hb7⟩
  have F7 : w.heap.size < w7.heap.size ∧ b3 < w7.heap.size ∧ w7.cell? ⟨w.heap.size, 0, none⟩ = some (.slice p T.length c) ∧ w7.cell? ⟨b3, 0, none⟩ = some (.slice (some ⟨ga, 0, none⟩) T.length cga) := by
    have hz := hb7.size
    exact ⟨by omega, by omega, by rw [(bcell hb7).1 _ _ s0]; exact x0, by rw [(bcell hb7).1 _ _ s2]; exact x2⟩
  have OB := Lib.hid own7
  have OA7 := Lib.hid (row_later OA.out hb7)
  have HTA7 := Lib.hid (HTA6.out.later hb7)
  have LTA := Lib.hid (fun g hg => (row_lt OA.out g hg))
  have C67 := hb7
  clear own7 hb7 OA HTA6 x0 x2 s0 s2
  obtain ⟨s0, s2, x0, x2⟩ := F7
  go_wp2_with fail
  refine (scroll_Above_any _ cga T nb _ HTA7.out).mono ?_
  rw [← HR2.out]
  rintro e w8 ⟨vc, rfl, own8, hb8⟩
  have F8 : w.heap.size < w8.heap.size ∧ b3 < w8.heap.size ∧ w8.cell? ⟨w.heap.size, 0, none⟩ = some (.slice p T.length c) ∧ w8.cell? ⟨b3, 0, none⟩ = some (.slice (some ⟨ga, 0, none⟩) T.length cga) := by
    have hz := hb8.size
    exact ⟨by omega, by omega, by rw [(bcell hb8).1 _ _ s0]; exact x0, by rw [(bcell hb8).1 _ _ s2]; exact x2⟩
  have OC := Lib.hid own8
  have OA8 := Lib.hid (row_later OA7.out hb8)
  have OB8 := Lib.hid (row_later OB.out hb8)
  have LTB := Lib.hid (fun g hg => (row_lt OB.out g hg))
  have C78 := hb8
  have C58 := Lib.hid (below_via C78 (below_via C67 C56))
  have SZ := Lib.hid (show w5.heap.size ≤ w6.heap.size ∧ w6.heap.size ≤ w7.heap.size ∧ w7.heap.size ≤ w8.heap.size from ⟨C56.size, C67.size, C78.size⟩)
  clear own8 hb8 OA7 OB HTA7 HTA C56 C67 C78 x0 x2 s0 s2
  obtain ⟨pa, ca, rfl, hata⟩ := ints_form OA8.out
  obtain ⟨pb, cb, rfl, hatb⟩ := ints_form OB8.out
  obtain ⟨pc, cc, rfl, hatc⟩ := ints_form OC.out
  have HA8 := Lib.hid hata
  have HB8 := Lib.hid hatb
  have HC8 := Lib.hid hatc
  clear hata hatb hatc
  obtain ⟨s0, s2, x0, x2⟩ := F8
  have B8 := Lib.hid (below_via C58.out B5)
  go_wp2_with fail
  refine (same_Ints_any _ _ R1 _ (HA8.out.later (Below.refl w8.heap.size w8) (Nat.le_refl _)) (HW5.out.later (below_via (Below.refl w8.heap.size w8) C58.out) (Nat.le_refl _))).mono ?_
  rintro e w9 ⟨rfl, hb9⟩
  have C9 : Below w8.heap.size w8 w9 := below_via hb9 (Below.refl w8.heap.size w8)
  clear hb9
  have x0w9 : w9.cell? ⟨w.heap.size, 0, none⟩ = some (.slice p T.length c) := by rw [(bcell C9).1 _ _ s0]; exact x0
  have x2w9 : w9.cell? ⟨b3, 0, none⟩ = some (.slice (some ⟨ga, 0, none⟩) T.length cga) := by rw [(bcell C9).1 _ _ s2]; exact x2
  have z0w9 : w.heap.size < w9.heap.size := by have := C9.size; omega
  have z2w9 : b3 < w9.heap.size := by have := C9.size; omega
  go_wp2_with fail
  refine (same_Ints_any _ _ R1 _ (HB8.out.later C9 (Nat.le_refl _)) (HW5.out.later (below_via C9 C58.out) (Nat.le_refl _))).mono ?_
  rintro e w10 ⟨rfl, hb10⟩
  have C10 : Below w8.heap.size w8 w10 := below_via hb10 C9
  clear hb10
  have x0w10 : w10.cell? ⟨w.heap.size, 0, none⟩ = some (.slice p T.length c) := by rw [(bcell C10).1 _ _ s0]; exact x0
  have x2w10 : w10.cell? ⟨b3, 0, none⟩ = some (.slice (some ⟨ga, 0, none⟩) T.length cga) := by rw [(bcell C10).1 _ _ s2]; exact x2
  have z0w10 : w.heap.size < w10.heap.size := by have := C10.size; omega
  have z2w10 : b3 < w10.heap.size := by have := C10.size; omega
  clear x0w9 x2w9 z0w9 z2w9 C9
  go_wp2_with fail
  refine (same_Ints_any _ _ R2 _ (HC8.out.later C10 (Nat.le_refl _)) (HM5.out.later (below_via C10 C58.out) (Nat.le_refl _))).mono ?_
  rintro e w11 ⟨rfl, hb11⟩
  have C11 : Below w8.heap.size w8 w11 := below_via hb11 C10
  clear hb11
  have x0w11 : w11.cell? ⟨w.heap.size, 0, none⟩ = some (.slice p T.length c) := by rw [(bcell C11).1 _ _ s0]; exact x0
  have x2w11 : w11.cell? ⟨b3, 0, none⟩ = some (.slice (some ⟨ga, 0, none⟩) T.length cga) := by rw [(bcell C11).1 _ _ s2]; exact x2
  have z0w11 : w.heap.size < w11.heap.size := by have := C11.size; omega
  have z2w11 : b3 < w11.heap.size := by have := C11.size; omega
  clear x0w10 x2w10 z0w10 z2w10 C10
  go_wp2_with fail
  refine (kept_any _ p c T _ _ (HLA5.out.later (below_via C11 C58.out)) (HT.out.later (below_via C11 B8.out))).mono ?_
  rintro e w12 ⟨rfl, hb12⟩
  have C12 : Below w8.heap.size w8 w12 := below_via hb12 C11
  clear hb12
  clear x0w11 x2w11 z0w11 z2w11 C11
  have OAW := Lib.hid (row_later OA8.out C12)
  have OBW := Lib.hid (row_later OB8.out C12)
  have OCW := Lib.hid (row_later OC.out C12)
  have LTC := Lib.hid (fun g hg => (row_lt OC.out g hg))
  have W712 := Lib.hid (show w7.heap.size ≤ w12.heap.size by have := SZ.out; have := C12.size; omega)
  obtain ⟨i0, hi, hz0, hz1, hz2⟩ := info_parts infoInt_
  have HI := Lib.hid (And.intro hi (And.intro hz0 (And.intro hz1 hz2)))
  clear hi hz0 hz1 hz2
  have CW5 := Lib.hid (below_via C12 C58.out)
  have hac : RowKit.Hid (∀ g, (Value.slice pa R1.length ca).ownBlock = some g → (Value.slice pc R2.length cc).ownBlock ≠ some g) := Lib.hid (fun g h1 h2 => by have := (LTA.out g h1).1; have := (LTC.out g h2).2; have := SZ.out; omega)
  have hab : RowKit.Hid (∀ g, (Value.slice pb R1.length cb).ownBlock = some g → (Value.slice pa R1.length ca).ownBlock ≠ some g ∧ (Value.slice pc R2.length cc).ownBlock ≠ some g) := Lib.hid (fun g h1 => ⟨fun h2 => by have := (LTA.out g h2).1; have := (LTB.out g h1).2; omega, fun h2 => by have := (LTB.out g h1).1; have := (LTC.out g h2).2; omega⟩)
  have hlW : RowKit.Hid (∀ g, ((Value.slice pa R1.length ca).ownBlock = some g ∨ (Value.slice pc R2.length cc).ownBlock = some g) → w5.heap.size ≤ g ∧ g < w12.heap.size) := Lib.hid (fun g h => by
    have := SZ.out
    have := C12.size
    rcases h with h | h
    · have := LTA.out g h; omega
    · have := LTC.out g h; omega)
  clear HA8 HB8 HC8 OA8 OB8 OC C58 C12 x0 x2 s0 s2 B8 LTA LTB LTC HLA5 HM5 HK HS HT HR1 HR2
  go_wp2
  go_loopw [60] (fun i wr => ∃ k : Nat, k ≤ R1.length ∧ i = .int .i64 k ∧ RowKit.Hid (wr.ownsRow w5.heap.size 3 1 (.slice pa R1.length ca) R1.length (half k m11 (oneL R1))) ∧ RowKit.Hid (Grown2 w12 wr (Value.slice pa R1.length ca).ownBlock (Value.slice pc R2.length cc).ownBlock) ∧ RowKit.Hid (wr.ownsRow w7.heap.size 3 1 (.slice pc R2.length cc) R2.length (R2.map (Value.int .i64)))) (fun i _ => R1.length - (intOf i).toNat)
  case atStart => exact ⟨0, Nat.zero_le _, rfl, Lib.hid (by rw [half_zero, oneL_flat]; exact OAW.out), Lib.hid (Grown2.refl _ _ _), OCW⟩
  case round =>
    clear OAW OCW
    obtain ⟨k, hk, rfl, OW, GW, OCW⟩ := hrel
    by_cases hlt : k < R1.length
    · have hki : (k : Int) < (R1.length : Int) := by omega
      have hform := row_form OW.out
      rcases hform with ⟨_, h0, _⟩ | ⟨g, c, e, _, _, hz, _⟩
      · omega
      · injection e with e1 _ e3
        subst e1 e3
        obtain ⟨⟨u0, h0⟩, f0⟩ := row_at1 OW.out k (by omega)
        have OW' := Lib.hid (show (wr.setCell ⟨g, k, none⟩ (.int .i64 (-11))).ownsRow w5.heap.size 3 1 (.slice (some ⟨g, 0, none⟩) R1.length ca) R1.length (half (k + 1) m11 (oneL R1)) by
          have := row_set OW.out k (.int .i64 (-11))
          rwa [show (half k m11 (oneL R1)).set k (.int .i64 (-11)) = half (k + 1) m11 (oneL R1) from half_set1 (oneL_all R1) (by rw [oneL_len]; exact hlt)] at this)
        have GW' := Lib.hid (GW.out.step (setCell_grown_ wr ⟨g, k, none⟩ (.int .i64 (-11))) (fun k' hk' => .inr (.inl hk')))
        have hne : (Value.slice pc R2.length cc).ownBlock = none ∨ (Value.slice pc R2.length cc).ownBlock ≠ some g := .inr (hac.out g rfl)
        have OC' := Lib.hid (OCW.out.kept (setCell_grown_ wr ⟨g, k, none⟩ (.int .i64 (-11))) hne)
        clear OW GW OCW hne
        go_wp2
        go_roundw
        case rel => exact ⟨k + 1, by omega, by go_num, OW', GW', OC'⟩
        case measure => simp [intOf]; omega
    · obtain rfl : k = R1.length := by omega
      have OA1 := Lib.hid (show wr.ownsRow w5.heap.size 3 1 (.slice pa R1.length ca) R1.length (reps R1.length m11) by have := OW.out; rwa [show half R1.length m11 (oneL R1) = reps R1.length m11 by have := half_all m11 (oneL R1); rwa [oneL_len] at this] at this)
      have GW1 := GW
      have OCW1 := OCW
      clear OW GW OCW hlt hk
      go_wp2
      obtain ⟨wa, rfl⟩ : ∃ wo : World, wo = wr := ⟨_, rfl⟩
      go_loopw [69] (fun i wr => ∃ k : Nat, k ≤ R2.length ∧ i = .int .i64 k ∧ RowKit.Hid (wr.ownsRow w7.heap.size 3 1 (.slice pc R2.length cc) R2.length (half k m22 (oneL R2))) ∧ RowKit.Hid (Grown2 w12 wr (Value.slice pa R1.length ca).ownBlock (Value.slice pc R2.length cc).ownBlock) ∧ RowKit.Hid (wr.ownsRow w5.heap.size 3 1 (.slice pa R1.length ca) R1.length (reps R1.length m11))) (fun i _ => R2.length - (intOf i).toNat)
      case atStart => exact ⟨0, Nat.zero_le _, rfl, Lib.hid (by rw [half_zero, oneL_flat]; exact OCW1.out), GW1, OA1⟩
      case round =>
        clear OA1 GW1 OCW1
        obtain ⟨k, hk, rfl, OW, GW, OAW⟩ := hrel
        by_cases hlt : k < R2.length
        · have hki : (k : Int) < (R2.length : Int) := by omega
          have hform := row_form OW.out
          rcases hform with ⟨_, h0, _⟩ | ⟨g, c, e, _, _, hz, _⟩
          · omega
          · injection e with e1 _ e3
            subst e1 e3
            obtain ⟨⟨u0, h0⟩, f0⟩ := row_at1 OW.out k (by omega)
            have OW' := Lib.hid (show (wr.setCell ⟨g, k, none⟩ (.int .i64 (-22))).ownsRow w7.heap.size 3 1 (.slice (some ⟨g, 0, none⟩) R2.length cc) R2.length (half (k + 1) m22 (oneL R2)) by
              have := row_set OW.out k (.int .i64 (-22))
              rwa [show (half k m22 (oneL R2)).set k (.int .i64 (-22)) = half (k + 1) m22 (oneL R2) from half_set1 (oneL_all R2) (by rw [oneL_len]; exact hlt)] at this)
            have GW' := Lib.hid (GW.out.step (setCell_grown_ wr ⟨g, k, none⟩ (.int .i64 (-22))) (fun k' hk' => .inr (.inr hk')))
            have hne : (Value.slice pa R1.length ca).ownBlock = none ∨ (Value.slice pa R1.length ca).ownBlock ≠ some g := .inr (fun e => hac.out g e rfl)
            have OA' := Lib.hid (OAW.out.kept (setCell_grown_ wr ⟨g, k, none⟩ (.int .i64 (-22))) hne)
            clear OW GW OAW hne
            go_wp2
            go_roundw
            case rel => exact ⟨k + 1, by omega, by go_num, OW', GW', OA'⟩
            case measure => simp [intOf]; omega
        · obtain rfl : k = R2.length := by omega
          have HT0 : RowKit.Hid (TwoM w12 wr 3 1 (.slice pa R1.length ca) (.slice pc R2.length cc) (.slice pa R1.length ca) (.slice pc R2.length cc) w5.heap.size w7.heap.size R1.length R2.length (R1.length + 0) (R2.length + 0) m11 m22) := Lib.hid (by
            have hc := OW.out
            rw [show half R2.length m22 (oneL R2) = reps R2.length m22 by have := half_all m22 (oneL R2); rwa [oneL_len] at this] at hc
            exact ⟨GW.out, .start OAW.out, .start hc, .inl rfl, .inl rfl, hac.out, fun g hg => ⟨(hlW.out g (.inl hg)).2, hac.out g hg⟩, fun g hg => (hlW.out g (.inr hg)).2⟩)
          clear OW GW OAW hlt hk
          go_wp2
          obtain ⟨wb, rfl⟩ : ∃ wo : World, wo = wr := ⟨_, rfl⟩
          go_loopw [78, 15, 16] (fun i vx vy wr => ∃ k : Nat, k ≤ 70 ∧ i = .int .i64 k ∧ RowKit.Hid (TwoM w12 wr 3 1 (.slice pa R1.length ca) (.slice pc R2.length cc) vx vy w5.heap.size w7.heap.size R1.length R2.length (R1.length + k) (R2.length + k) m11 m22)) (fun i _ _ _ => 70 - (intOf i).toNat)
          case atStart => exact ⟨0, by omega, rfl, HT0⟩
          case round =>
            clear HT0
            obtain ⟨k, hk, rfl, HT⟩ := hrel
            rcases (show k < 70 ∨ k = 70 by omega) with hlt | rfl
            · have hki : (k : Int) < 70 := by omega
              have hw5 : w5.heap.size ≤ wr.heap.size := by have := CW5.out.size; have := HT.out.gr.size; omega
              have hw7 : w7.heap.size ≤ wr.heap.size := by have := CW5.out.size; have := HT.out.gr.size; have := W712.out; omega
              have HTA := Lib.hid (HT.out.alloc (.cells #[.int .i64 (-11)] 3))
              have hone : ∀ a : Int, ∀ u ∈ [Value.int .i64 a], u.oneCell' = true := fun a u hu => by simp at hu; rcases hu with rfl; rfl
              have HON := Lib.hid hone
              have hx1 : R1.length + k + 1 ≤ maxLen := by unfold maxLen; omega
              have hx2 : R2.length + k + 1 ≤ maxLen := by unfold maxLen; omega
              clear hone
              go_wp2_with (at_builtin; go_must (refine append_keep rfl (.tmp 80) (.tmp 81) 54 rfl w5.heap.size 3 i0 _ 1 8 Try.underlying54 HI.out.1 HI.out.2.1 HI.out.2.2.1 HI.out.2.2.2 rfl (by decide) _ (R1.length + k) _ rfl HTA.out.x.own ⟨wr.heap.size, 0, none⟩ 1 1 [.int .i64 (-11)] rfl rfl ?n1 (HON.out _) hx1 ?n2 ?n3 ?_))
              case n1 => exact World.news_of_block (cs := #[.int .i64 (-11)]) (t := 3) (fr := (0, 0)) (heap_alloc_new wr _)
              case n2 => omega
              case n3 => first | omega | (simp; omega)
              intro vx' wx ownx grx plx
              have HT1 := Lib.hid (HTA.out.appX ownx grx (by simpa using plx))
              have hwx : wr.heap.size ≤ wx.heap.size := by have := grx.size; simp at this; omega
              have HTC := Lib.hid ((HT1.out.alloc (.cells #[.int .i64 (-22)] 3)).swap)
              clear ownx grx plx HTA HT
              go_wp2_with (at_builtin; go_must (refine append_keep rfl (.tmp 83) (.tmp 84) 54 rfl w7.heap.size 3 i0 _ 1 8 Try.underlying54 HI.out.1 HI.out.2.1 HI.out.2.2.1 HI.out.2.2.2 rfl (by decide) _ (R2.length + k) _ rfl HTC.out.x.own ⟨wx.heap.size, 0, none⟩ 1 1 [.int .i64 (-22)] rfl rfl ?m1 (HON.out _) hx2 ?m2 ?m3 ?_))
              case m1 => exact World.news_of_block (cs := #[.int .i64 (-22)]) (t := 3) (fr := (0, 0)) (heap_alloc_new wx _)
              case m2 => omega
              case m3 => first | omega | (simp; omega)
              intro vy' wy owny gry ply
              have HT2 := Lib.hid ((HTC.out.appX owny gry (by simpa using ply)).swap)
              clear owny gry ply HTC HT1 HON
              go_wp2
              go_roundw
              case rel => exact ⟨k + 1, by omega, by go_num, HT2⟩
              case measure => simp [intOf]; omega
            · clear hk
              have HX := Lib.hid HT.out.x
              have HY := Lib.hid HT.out.y
              have CWF := Lib.hid (show Below w5.heap.size w5 wr from HT.out.gr.below CW5.out CW5.out.size (fun g hg => (hlW.out g (.inl hg)).1) (fun g hg => (hlW.out g (.inr hg)).1))
              have nf : ∀ v : Value, v.ownBlock = none ∨ ∃ g, v.ownBlock = some g := fun v => by cases v.ownBlock <;> simp
              have OBF := Lib.hid (HT.out.gr.row OBW.out ((nf (Value.slice pb R1.length cb)).imp id (fun ⟨g, hg⟩ e => (hab.out g hg).1 (e.symm.trans hg))) ((nf (Value.slice pb R1.length cb)).imp id (fun ⟨g, hg⟩ e => (hab.out g hg).2 (e.symm.trans hg))))
              clear HT nf OBW
              rcases row_form HX.out.own with ⟨_, h0, _⟩ | ⟨gx, cx, rfl, _, _, hzx, _⟩
              · omega
              rcases row_form HY.out.own with ⟨_, h0, _⟩ | ⟨gy, cy, rfl, _, _, hzy, _⟩
              · omega
              have XC := Lib.hid (fun i (hi : i < R1.length + 70) => show wr.cell? ⟨gx, i, none⟩ = some (.int .i64 (-11)) by
                have := row_cells HX.out.own (i * 1 + 0) (.int .i64 (-11)) (by have := reps_get (R1.length + 70) m11 i 0 hi (by decide); exact this)
                rwa [Nat.zero_add, Nat.add_zero, Nat.mul_one] at this)
              have YC := Lib.hid (fun i (hi : i < R2.length + 70) => show wr.cell? ⟨gy, i, none⟩ = some (.int .i64 (-22)) by
                have := row_cells HY.out.own (i * 1 + 0) (.int .i64 (-22)) (by have := reps_get (R2.length + 70) m22 i 0 hi (by decide); exact this)
                rwa [Nat.zero_add, Nat.add_zero, Nat.mul_one] at this)
              have AC := Lib.hid (fun i (hi : i < R1.length) => show ∃ g, pa = some ⟨g, 0, none⟩ ∧ g < wr.heap.size ∧ wr.cell? ⟨g, i, none⟩ = some (.int .i64 (-11)) by
                rcases HX.out.rd with h0 | ⟨g, c, e, hz, hc⟩
                · omega
                · injection e with e _ _
                  refine ⟨g, e, hz, ?_⟩
                  have := hc (i * 1 + 0) (.int .i64 (-11)) (by have := reps_get R1.length m11 i 0 hi (by decide); exact this)
                  rwa [Nat.zero_add, Nat.add_zero, Nat.mul_one] at this)
              have CC := Lib.hid (fun i (hi : i < R2.length) => show ∃ g, pc = some ⟨g, 0, none⟩ ∧ g < wr.heap.size ∧ wr.cell? ⟨g, i, none⟩ = some (.int .i64 (-22)) by
                rcases HY.out.rd with h0 | ⟨g, c, e, hz, hc⟩
                · omega
                · injection e with e _ _
                  refine ⟨g, e, hz, ?_⟩
                  have := hc (i * 1 + 0) (.int .i64 (-22)) (by have := reps_get R2.length m22 i 0 hi (by decide); exact this)
                  rwa [Nat.zero_add, Nat.add_zero, Nat.mul_one] at this)
              clear HX HY hac hab hlW W712
              go_wp2
              go_loop [89] (fun i => ∃ k : Nat, k ≤ R1.length + 70 ∧ i = .int .i64 k) (fun i => R1.length + 70 - (intOf i).toNat)
              case atStart => exact ⟨0, Nat.zero_le _, rfl⟩
              case round =>
                obtain ⟨k, hk, rfl⟩ := hrel
                rcases (show k < R1.length ∨ (R1.length ≤ k ∧ k < R1.length + 70) ∨ k = R1.length + 70 by omega) with hlt | ⟨hge, hlt⟩ | rfl
                · have hki : (k : Int) < (R1.length : Int) := by omega
                  have hki2 : (k : Int) < (R1.length : Int) + 70 := by omega
                  have d1 : decide (k < R1.length) = true := by rw [decide_eq_true_eq]; exact hlt
                  have xc := XC.out k (by omega)
                  obtain ⟨g, e, hz, ac⟩ := AC.out k hlt
                  subst e
                  go_wp2
                  go_round
                  case rel => exact ⟨k + 1, by omega, by go_num⟩
                  case measure => simp [intOf]; omega
                · have hki : (R1.length : Int) ≤ (k : Int) := by omega
                  have hki2 : (k : Int) < (R1.length : Int) + 70 := by omega
                  have d1 : decide (k < R1.length) = false := by rw [decide_eq_false_iff_not]; omega
                  have xc := XC.out k hlt
                  go_wp2
                  go_round
                  case rel => exact ⟨k + 1, by omega, by go_num⟩
                  case measure => simp [intOf]; omega
                · clear hk XC AC
                  go_wp2
                  go_loop [113] (fun i => ∃ k : Nat, k ≤ R2.length + 70 ∧ i = .int .i64 k) (fun i => R2.length + 70 - (intOf i).toNat)
                  case atStart => exact ⟨0, Nat.zero_le _, rfl⟩
                  case round =>
                    obtain ⟨k, hk, rfl⟩ := hrel
                    rcases (show k < R2.length ∨ (R2.length ≤ k ∧ k < R2.length + 70) ∨ k = R2.length + 70 by omega) with hlt | ⟨hge, hlt⟩ | rfl
                    · have hki : (k : Int) < (R2.length : Int) := by omega
                      have hki2 : (k : Int) < (R2.length : Int) + 70 := by omega
                      have d1 : decide (k < R2.length) = true := by rw [decide_eq_true_eq]; exact hlt
                      have xc := YC.out k (by omega)
                      obtain ⟨g, e, hz, ac⟩ := CC.out k hlt
                      subst e
                      go_wp2
                      go_round
                      case rel => exact ⟨k + 1, by omega, by go_num⟩
                      case measure => simp [intOf]; omega
                    · have hki : (R2.length : Int) ≤ (k : Int) := by omega
                      have hki2 : (k : Int) < (R2.length : Int) + 70 := by omega
                      have d1 : decide (k < R2.length) = false := by rw [decide_eq_false_iff_not]; omega
                      have xc := YC.out k hlt
                      go_wp2
                      go_round
                      case rel => exact ⟨k + 1, by omega, by go_num⟩
                      case measure => simp [intOf]; omega
                    · clear hk YC CC
                      have HBF := Lib.hid (row_ints OBF.out)
                      go_wp2_with fail
                      refine (same_Ints_any _ _ R1 _ HBF.out (HW5.out.later CWF.out (Nat.le_refl _))).mono ?_
                      rintro e wf ⟨rfl, hbf⟩
                      have CF := Lib.hid (below_via hbf CWF.out)
                      clear hbf HBF OBF CWF
                      go_wp2_with fail
                      refine (law_works _).mono ?_
                      rintro e wh ⟨rfl, hbh⟩
                      have BH := below_via (below_via hbh CF.out) B5
                      clear hbh CF
                      go_wp2
                      go_ret
                      exact ⟨rfl, BH⟩
end Go.Proofs.Ytegdokchkblpiaa
