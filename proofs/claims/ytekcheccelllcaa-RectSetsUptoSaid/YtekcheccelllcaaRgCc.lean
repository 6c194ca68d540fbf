/- Layer 07: canonical: the rectangles of a region are canonical. -/
import Derived.Test.YtekcheccelllcaaRgCa
import Derived.Test.YtekcheccelllcaaRgHs
import Derived.Test.YtekcheccelllcaaRctX
import Derived.Test.YtekcheccelllcaaRctY
import Derived.Test.YtekcheccelllcaaHeld
import Derived.BigQuiet
namespace Go.Proofs.Ytekcheccelllcaa
open Go.RowKit
set_option linter.unusedVariables false
set_option linter.unusedSimpArgs false

theorem PlaneR.own {r : R4} (h : PlaneR r) : OwnF r := by
  have h1 := h.x; have h2 := h.y; have h3 := h.w; have h4 := h.h; have h5 := h.xw; have h6 := h.yh
  exact .inr ⟨by omega, by omega, by omega, by omega, by omega, by omega, by omega, by omega⟩
theorem stB_zero (bs : List Bd) : stB bs 0 = 0 := by simp [stB, cntB]
theorem getD_memR {L : List R4} {k : Nat} (h : k < L.length) : L.getD k zR ∈ L := by
  rw [List.getD_eq_getElem?_getD, List.getElem?_eq_getElem h]; exact List.getElem_mem _
/-- the cells of a rectangle of a list, in whatever later world -/
def CellR (w : World) (b off k : Nat) (r : R4) : Prop := w.cell? ⟨b, off + k * 4, none⟩ = some (.int .i64 r.x) ∧ w.cell? ⟨b, off + k * 4 + 1, none⟩ = some (.int .i64 r.y) ∧ w.cell? ⟨b, off + k * 4 + 2, none⟩ = some (.int .i64 r.w) ∧ w.cell? ⟨b, off + k * 4 + 3, none⟩ = some (.int .i64 r.h)
theorem CellR.later {w w' : World} {b off k : Nat} {r : R4} (h : CellR w b off k r) (hb : Below w.heap.size w w') (hl : b < w.heap.size) : CellR w' b off k r := by
  obtain ⟨h0, h1, h2, h3⟩ := h
  have hc := (bcell hb).1
  exact ⟨by rw [hc _ _ hl]; exact h0, by rw [hc _ _ hl]; exact h1, by rw [hc _ _ hl]; exact h2, by rw [hc _ _ hl]; exact h3⟩
set_option maxRecDepth 100000 in
set_option maxHeartbeats 16000000 in
theorem canonical_any (p : Option Addr) (n c : Nat) (bs : List Bd) (L : List R4) (w : World) (hok : RegOk bs) (hL : L = rctsB bs) (hn : n = L.length) (hp : SlAt w p L) : Calls Try.prog 46 #[.slice p n c] w fun e w' => e = .returned (.bool true) ∧ Below w.heap.size w w' := by
  have hlen : n ≤ 1024 := by rw [hn, hL, rctsB_len]; exact hok.few
  have HF := Lib.hid (show ∀ r ∈ L, PlaneR r from by rw [hL]; exact rctsB_own hok.can hok.pl)
  have HSEC := Lib.hid (show ∀ t, t < bs.length → SecF L (stB bs (t - 1)) (stB bs t) (stB bs (t + 1)) from fun t ht => by rw [hL]; exact sec_is hok.can ht)
  have HEND := Lib.hid (show stB bs bs.length = n from by rw [hn, hL]; exact stB_all bs)
  have HN := Lib.hid hn
  have HP := Lib.hid hp
  clear hok hL hn hp
  go_enter Try.func46, Try.ntmps46
  go_wp2
  go_loopw [3, 4] (fun av iv wr => ∃ t i a : Nat, t ≤ bs.length ∧ a = stB bs (t - 1) ∧ i = stB bs t ∧ av = .int .i64 a ∧ iv = .int .i64 i ∧ RowKit.Hid (Below w.heap.size w wr)) (fun _ iv _ => n - (intOf iv).toNat)
  case atStart => exact ⟨0, 0, 0, Nat.zero_le _, (stB_zero bs).symm, (stB_zero bs).symm, rfl, rfl, Lib.hid (Below.refl _ _)⟩
  case round =>
    obtain ⟨wo, rfl⟩ : ∃ wo : World, wo = wr := ⟨_, rfl⟩
    obtain ⟨t, i, a, ht, ha, hi, rfl, rfl, HI⟩ := hrel
    by_cases hlt : t < bs.length
    · have HS := Lib.hid (HSEC.out t hlt)
      rw [← ha, ← hi] at HS
      obtain ⟨e, he⟩ : ∃ e, e = stB bs (t + 1) := ⟨_, rfl⟩
      rw [← he] at HS
      have HT := Lib.hid (And.intro hi he)
      have hie := HS.out.lt
      have hen := HS.out.le
      rw [← HN.out] at hen
      clear ha hi he
      have hin : (i : Int) < (n : Int) := by omega
      obtain ⟨rb, ro, rfl, zr0, hrc0⟩ := HP.out (by rw [← HN.out]; omega)
      have HRC := Lib.hid (show ∀ w' : World, Below w.heap.size w w' → rb < w'.heap.size ∧ ∀ k, k < n → CellR w' rb ro k (L.getD k zR) from fun w' hb => ⟨Nat.lt_of_lt_of_le zr0 hb.size, fun k hk => CellR.later (hrc0 k (by rw [← HN.out]; exact hk)) hb zr0⟩)
      clear hrc0 zr0
      go_wp2
      go_loopw [5] (fun kv wr => ∃ k : Nat, kv = .int .i64 k ∧ i ≤ k ∧ k ≤ e ∧ RowKit.Hid (Below w.heap.size w wr)) (fun kv _ => n - (intOf kv).toNat)
      case atStart => exact ⟨i, rfl, Nat.le_refl _, by omega, HI⟩
      case round =>
        obtain ⟨k, rfl, hik, hke, HW⟩ := hrel
        clear HI
        obtain ⟨zr, hrc⟩ := HRC.out _ HW.out
        by_cases hk : k < e
        · have hkn : (k : Int) < (n : Int) := by omega
          have ck := hrc k (by omega)
          have ci := hrc i (by omega)
          obtain ⟨ey, eh⟩ := HS.out.yh k hik hk
          have hpl : PlaneR (L.getD k zR) := HF.out _ (getD_memR (by rw [← HN.out]; omega))
          have HOW := Lib.hid hpl.own
          have hw0 := hpl.w
          rw [CellR, ey, eh] at ck
          rw [CellR] at ci
          obtain ⟨yi, hyi⟩ : ∃ q, q = (L.getD i zR).y := ⟨_, rfl⟩
          obtain ⟨hi4, hhi⟩ : ∃ q, q = (L.getD i zR).h := ⟨_, rfl⟩
          rw [← hyi, ← hhi] at ck ci
          have eyk : (L.getD k zR).y = yi := ey.trans hyi.symm
          have ehk : (L.getD k zR).h = hi4 := eh.trans hhi.symm
          obtain ⟨xk, hxk⟩ : ∃ q, q = (L.getD k zR).x := ⟨_, rfl⟩
          obtain ⟨wk, hwk⟩ : ∃ q, q = (L.getD k zR).w := ⟨_, rfl⟩
          rw [← hxk, ← hwk] at ck
          rw [← hwk] at hw0
          have HOW2 := Lib.hid (show OwnF ⟨xk, yi, wk, hi4⟩ from by have := HOW.out; rw [hxk, hwk, ← eyk, ← ehk]; exact this)
          obtain ⟨xi, hxi⟩ : ∃ q, q = (L.getD i zR).x := ⟨_, rfl⟩
          obtain ⟨wi, hwi⟩ : ∃ q, q = (L.getD i zR).w := ⟨_, rfl⟩
          rw [← hxi, ← hwi] at ci
          have hwk0 : (wk == 0) = false := by simp; omega
          obtain ⟨k0, k1, k2, k3⟩ := ck
          obtain ⟨i0, i1, i2, i3⟩ := ci
          have HCK := Lib.hid (And.intro k0 (And.intro k1 (And.intro k2 k3)))
          have HCI := Lib.hid (And.intro i0 (And.intro i1 (And.intro i2 i3)))
          have HXK := Lib.hid hxk
          clear k0 k2 k3 i0 i2 i3 hxk hwk hxi hwi hyi hhi ey eh eyk ehk hpl HOW hw0
          go_upto_region 5 with (fail)
          go_quiet (fail)
          go_upto_region 6 with (fail)
          obtain ⟨wj, hwj⟩ : ∃ q : World, q = wr.drewN nq := ⟨_, rfl⟩
          rw [← hwj]
          have HWJ := Lib.hid (show Below w.heap.size w wj from by rw [hwj]; exact below_drewN HW.out _)
          have zj : rb < wj.heap.size := by rw [hwj]; exact zr
          have hcj : ∀ a, wj.cell? a = wr.cell? a := fun a => by rw [hwj]; rfl
          have HC := HCK.out
          have HD := HCI.out
          rw [← hcj, ← hcj, ← hcj, ← hcj] at HC HD
          have HCJ := Lib.hid HC
          have HDJ := Lib.hid HD
          clear HC HD hcj hwj k1 i1
          by_cases hki : k = i
          · subst hki
            have hd : decide ((k : Int) > (k : Int)) = false := by simp
            have HSF := Lib.hid (show ∀ w' : World, Below wj.heap.size wj w' → (w'.cell? ⟨rb, ro + k * 4, none⟩ = some (.int .i64 xk) ∧ w'.cell? ⟨rb, ro + k * 4 + 1, none⟩ = some (.int .i64 yi) ∧ w'.cell? ⟨rb, ro + k * 4 + 2, none⟩ = some (.int .i64 wk) ∧ w'.cell? ⟨rb, ro + k * 4 + 3, none⟩ = some (.int .i64 hi4)) from fun w' hb => ⟨by rw [(bcell hb).1 _ _ zj]; exact HCJ.out.1, by rw [(bcell hb).1 _ _ zj]; exact HCJ.out.2.1, by rw [(bcell hb).1 _ _ zj]; exact HCJ.out.2.2.1, by rw [(bcell hb).1 _ _ zj]; exact HCJ.out.2.2.2⟩)
            refine wp_region_noPanic ?_
            refine wp_region_lexH (fun w' => Below wj.heap.size wj w') (by kernel_rfl) (by kernel_rfl) (fun _ _ _ _ _ h => h) (Below.drew (Below.refl _ _)) ?_
            apply lexH_run (by rfl)
            · (intro w h; clear h; go_simp; try rfl)
            (try simp only [Act.put, List.setIfInBounds_toArray, List.set_cons_zero, List.set_cons_succ])
            apply lexH_run (by rfl)
            · (intro w h; clear h; go_simp; try rfl)
            (try simp only [Act.put, List.setIfInBounds_toArray, List.set_cons_zero, List.set_cons_succ])
            apply lexH_run (by rfl)
            · (intro w h; clear h; go_simp; try rfl)
            (try simp only [Act.put, List.setIfInBounds_toArray, List.set_cons_zero, List.set_cons_succ])
            apply lexH_run (by rfl)
            · (intro w h; have FK := HSF.out w h; clear h; go_split_ands; go_simp; try rfl)
            (try simp only [Act.put, List.setIfInBounds_toArray, List.set_cons_zero, List.set_cons_succ])
            refine lexH_call (by kernel_rfl) (by rfl) (by go_simp; first | exact ⟨rfl, rfl⟩ | rfl) ?_
            intro hS
            refine (own_any _ _ _ _ _ HOW2.out).mono ?_
            rintro e5 w5 ⟨rfl, hb5⟩
            have HB5 := Lib.hid (below_via hb5 hS)
            refine ⟨_, rfl, HB5.out, ?_⟩
            clear hb5 hS
            (try simp only [Act.put, List.setIfInBounds_toArray, List.set_cons_zero, List.set_cons_succ])
            apply lexH_run (by rfl)
            · (intro w h; clear h; go_simp; try rfl)
            (try simp only [Act.put, List.setIfInBounds_toArray, List.set_cons_zero, List.set_cons_succ])
            apply lexH_run (by rfl)
            · (intro w h; clear h; go_simp; try rfl)
            (try simp only [Act.put, List.setIfInBounds_toArray, List.set_cons_zero, List.set_cons_succ])
            apply lexH_run (by rfl)
            · (intro w h; clear h; go_simp; try rfl)
            (try simp only [Act.put, List.setIfInBounds_toArray, List.set_cons_zero, List.set_cons_succ])
            apply lexH_run (by rfl)
            · (intro w h; clear h; go_simp; try rfl)
            (try simp only [Act.put, List.setIfInBounds_toArray, List.set_cons_zero, List.set_cons_succ])
            apply lexH_run (by rfl)
            · (intro w h; clear h; go_simp; try rfl)
            (try simp only [Act.put, List.setIfInBounds_toArray, List.set_cons_zero, List.set_cons_succ])
            apply lexH_run (by rfl)
            · (intro w h; clear h; go_simp; try rfl)
            (try simp only [Act.put, List.setIfInBounds_toArray, List.set_cons_zero, List.set_cons_succ])
            apply lexH_run (by rfl)
            · (intro w h; have FK := HSF.out w h; clear h; go_split_ands; go_simp; try rfl)
            (try simp only [Act.put, List.setIfInBounds_toArray, List.set_cons_zero, List.set_cons_succ])
            apply lexH_run (by rfl)
            · (intro w h; clear h; go_simp; try rfl)
            (try simp only [Act.put, List.setIfInBounds_toArray, List.set_cons_zero, List.set_cons_succ])
            apply lexH_run (by rfl)
            · (intro w h; clear h; go_simp; try rfl)
            (try simp only [Act.put, List.setIfInBounds_toArray, List.set_cons_zero, List.set_cons_succ])
            apply lexH_run (by rfl)
            · (intro w h; clear h; go_simp; try rfl)
            (try simp only [Act.put, List.setIfInBounds_toArray, List.set_cons_zero, List.set_cons_succ])
            apply lexH_run (by rfl)
            · (intro w h; clear h; go_simp; try rfl)
            (try simp only [Act.put, List.setIfInBounds_toArray, List.set_cons_zero, List.set_cons_succ])
            apply lexH_run (by rfl)
            · (intro w h; clear h; go_simp; try rfl)
            (try simp only [Act.put, List.setIfInBounds_toArray, List.set_cons_zero, List.set_cons_succ])
            apply lexH_run (by rfl)
            · (intro w h; clear h; go_simp; try rfl)
            (try simp only [Act.put, List.setIfInBounds_toArray, List.set_cons_zero, List.set_cons_succ])
            apply lexH_run (by rfl)
            · (intro w h; clear h; go_simp; try rfl)
            (try simp only [Act.put, List.setIfInBounds_toArray, List.set_cons_zero, List.set_cons_succ])
            apply lexH_run (by rfl)
            · (intro w h; have FK := HSF.out w h; clear h; go_split_ands; go_simp; try rfl)
            (try simp only [Act.put, List.setIfInBounds_toArray, List.set_cons_zero, List.set_cons_succ])
            apply lexH_run (by rfl)
            · (intro w h; clear h; go_simp; try rfl)
            (try simp only [Act.put, List.setIfInBounds_toArray, List.set_cons_zero, List.set_cons_succ])
            apply lexH_run (by rfl)
            · (intro w h; clear h; go_simp; try rfl)
            (try simp only [Act.put, List.setIfInBounds_toArray, List.set_cons_zero, List.set_cons_succ])
            apply lexH_run (by rfl)
            · (intro w h; clear h; go_simp; try rfl)
            (try simp only [Act.put, List.setIfInBounds_toArray, List.set_cons_zero, List.set_cons_succ])
            apply lexH_run (by rfl)
            · (intro w h; clear h; go_simp; try rfl)
            (try simp only [Act.put, List.setIfInBounds_toArray, List.set_cons_zero, List.set_cons_succ])
            apply lexH_run (by rfl)
            · (intro w h; have FK := HSF.out w h; clear h; go_split_ands; go_simp; try rfl)
            (try simp only [Act.put, List.setIfInBounds_toArray, List.set_cons_zero, List.set_cons_succ])
            apply lexH_run (by rfl)
            · (intro w h; clear h; go_simp; try rfl)
            (try simp only [Act.put, List.setIfInBounds_toArray, List.set_cons_zero, List.set_cons_succ])
            apply lexH_run (by rfl)
            · (intro w h; clear h; go_simp; try rfl)
            (try simp only [Act.put, List.setIfInBounds_toArray, List.set_cons_zero, List.set_cons_succ])
            apply lexH_run (by rfl)
            · (intro w h; clear h; go_simp; try rfl)
            (try simp only [Act.put, List.setIfInBounds_toArray, List.set_cons_zero, List.set_cons_succ])
            apply lexH_run (by rfl)
            · (intro w h; clear h; go_simp; try rfl)
            (try simp only [Act.put, List.setIfInBounds_toArray, List.set_cons_zero, List.set_cons_succ])
            apply lexH_run (by rfl)
            · (intro w h; clear h; go_simp; try rfl)
            (try simp only [Act.put, List.setIfInBounds_toArray, List.set_cons_zero, List.set_cons_succ])
            apply lexH_run (by rfl)
            · (intro w h; clear h; go_simp; try rfl)
            (try simp only [Act.put, List.setIfInBounds_toArray, List.set_cons_zero, List.set_cons_succ])
            apply lexH_run (by rfl)
            · (intro w h; clear h; go_simp; try rfl)
            (try simp only [Act.put, List.setIfInBounds_toArray, List.set_cons_zero, List.set_cons_succ])
            apply lexH_no (by rfl)
            (try simp only [Act.put, List.setIfInBounds_toArray, List.set_cons_zero, List.set_cons_succ])
            apply lexH_no (by rfl)
            (try simp only [Act.put, List.setIfInBounds_toArray, List.set_cons_zero, List.set_cons_succ])
            apply lexH_no (by rfl)
            (try simp only [Act.put, List.setIfInBounds_toArray, List.set_cons_zero, List.set_cons_succ])
            apply lexH_no (by rfl)
            (try simp only [Act.put, List.setIfInBounds_toArray, List.set_cons_zero, List.set_cons_succ])
            apply lexH_no (by rfl)
            (try simp only [Act.put, List.setIfInBounds_toArray, List.set_cons_zero, List.set_cons_succ])
            apply lexH_no (by rfl)
            (try simp only [Act.put, List.setIfInBounds_toArray, List.set_cons_zero, List.set_cons_succ])
            apply lexH_no (by rfl)
            (try simp only [Act.put, List.setIfInBounds_toArray, List.set_cons_zero, List.set_cons_succ])
            apply lexH_no (by rfl)
            (try simp only [Act.put, List.setIfInBounds_toArray, List.set_cons_zero, List.set_cons_succ])
            apply lexH_no (by rfl)
            (try simp only [Act.put, List.setIfInBounds_toArray, List.set_cons_zero, List.set_cons_succ])
            apply lexH_no (by rfl)
            (try simp only [Act.put, List.setIfInBounds_toArray, List.set_cons_zero, List.set_cons_succ])
            apply lexH_no (by rfl)
            (try simp only [Act.put, List.setIfInBounds_toArray, List.set_cons_zero, List.set_cons_succ])
            apply lexH_no (by rfl)
            (try simp only [Act.put, List.setIfInBounds_toArray, List.set_cons_zero, List.set_cons_succ])
            apply lexH_no (by rfl)
            (try simp only [Act.put, List.setIfInBounds_toArray, List.set_cons_zero, List.set_cons_succ])
            apply lexH_no (by rfl)
            (try simp only [Act.put, List.setIfInBounds_toArray, List.set_cons_zero, List.set_cons_succ])
            apply lexH_no (by rfl)
            (try simp only [Act.put, List.setIfInBounds_toArray, List.set_cons_zero, List.set_cons_succ])
            apply lexH_no (by rfl)
            (try simp only [Act.put, List.setIfInBounds_toArray, List.set_cons_zero, List.set_cons_succ])
            apply lexH_no (by rfl)
            (try simp only [Act.put, List.setIfInBounds_toArray, List.set_cons_zero, List.set_cons_succ])
            apply lexH_no (by rfl)
            (try simp only [Act.put, List.setIfInBounds_toArray, List.set_cons_zero, List.set_cons_succ])
            apply lexH_no (by rfl)
            (try simp only [Act.put, List.setIfInBounds_toArray, List.set_cons_zero, List.set_cons_succ])
            apply lexH_run (by rfl)
            · (intro w h; clear h; go_simp; try rfl)
            (try simp only [Act.put, List.setIfInBounds_toArray, List.set_cons_zero, List.set_cons_succ])
            apply lexH_run (by rfl)
            · (intro w h; clear h; go_simp; try rfl)
            (try simp only [Act.put, List.setIfInBounds_toArray, List.set_cons_zero, List.set_cons_succ])
            apply lexH_nil
            refine NoPanic.normal ?_
            have HWN := Lib.hid (show Below w.heap.size w w5 from below_via HB5.out HWJ.out)
            clear HB5 HSF
            go_wp2
            go_roundw
            case rel => exact ⟨k + 1, by go_num, by omega, by omega, HWN⟩
            case measure => simp [intOf] <;> omega
          · obtain ⟨m, hm⟩ : ∃ m, m + 1 = k := ⟨k - 1, by omega⟩
            have hd : (i : Int) < (k : Int) := by omega
            have hmn : (m : Int) < (n : Int) := by omega
            have hm0 : (0 : Int) ≤ (m : Int) := by omega
            have hwm : IntKind.i64.wrap (m : Int) = (m : Int) := wrap_small _ (by omega)
            have hm1 : ((k : Int) - 1) = (m : Int) := by omega
            have gp := HS.out.gap m (by omega) (by omega)
            rw [hm, ← HXK.out] at gp
            have cm := (HRC.out _ HWJ.out).2 m (by omega)
            have hpm : PlaneR (L.getD m zR) := HF.out _ (getD_memR (by rw [← HN.out]; omega))
            have hx1 := hpm.x
            have hx2 := hpm.xw
            have hx3 := hpm.w
            rw [CellR] at cm
            obtain ⟨xm, hxm⟩ : ∃ q, q = (L.getD m zR).x := ⟨_, rfl⟩
            obtain ⟨wm, hwm2⟩ : ∃ q, q = (L.getD m zR).w := ⟨_, rfl⟩
            rw [← hxm, ← hwm2] at cm gp hx2
            rw [← hxm] at hx1
            rw [← hwm2] at hx3
            have hws : wrap64 (xm + wm) = xm + wm := by unfold wrap64; omega
            have hws2 : IntKind.i64.wrap (xm + wm) = xm + wm := wrap_small _ (by omega)
            have hgp : ¬ xk ≤ xm + wm := by omega
            obtain ⟨m0, m1, m2, m3⟩ := cm
            have HSF := Lib.hid (show ∀ w' : World, Below wj.heap.size wj w' → ((w'.cell? ⟨rb, ro + k * 4, none⟩ = some (.int .i64 xk) ∧ w'.cell? ⟨rb, ro + k * 4 + 1, none⟩ = some (.int .i64 yi) ∧ w'.cell? ⟨rb, ro + k * 4 + 2, none⟩ = some (.int .i64 wk) ∧ w'.cell? ⟨rb, ro + k * 4 + 3, none⟩ = some (.int .i64 hi4)) ∧ w'.cell? ⟨rb, ro + i * 4 + 3, none⟩ = some (.int .i64 hi4) ∧ w'.cell? ⟨rb, ro + m * 4, none⟩ = some (.int .i64 xm) ∧ w'.cell? ⟨rb, ro + m * 4 + 2, none⟩ = some (.int .i64 wm)) from fun w' hb => ⟨⟨by rw [(bcell hb).1 _ _ zj]; exact HCJ.out.1, by rw [(bcell hb).1 _ _ zj]; exact HCJ.out.2.1, by rw [(bcell hb).1 _ _ zj]; exact HCJ.out.2.2.1, by rw [(bcell hb).1 _ _ zj]; exact HCJ.out.2.2.2⟩, by rw [(bcell hb).1 _ _ zj]; exact HDJ.out.2.2.2, by rw [(bcell hb).1 _ _ zj]; exact m0, by rw [(bcell hb).1 _ _ zj]; exact m2⟩)
            clear m0 m1 m2 m3 hpm hxm hwm2 gp hx1 hx2 hx3 hm
            refine wp_region_noPanic ?_
            refine wp_region_lexH (fun w' => Below wj.heap.size wj w') (by kernel_rfl) (by kernel_rfl) (fun _ _ _ _ _ h => h) (Below.drew (Below.refl _ _)) ?_
            apply lexH_run (by rfl)
            · (intro w h; clear h; go_simp; try rfl)
            (try simp only [Act.put, List.setIfInBounds_toArray, List.set_cons_zero, List.set_cons_succ])
            apply lexH_run (by rfl)
            · (intro w h; clear h; go_simp; try rfl)
            (try simp only [Act.put, List.setIfInBounds_toArray, List.set_cons_zero, List.set_cons_succ])
            apply lexH_run (by rfl)
            · (intro w h; clear h; go_simp; try rfl)
            (try simp only [Act.put, List.setIfInBounds_toArray, List.set_cons_zero, List.set_cons_succ])
            apply lexH_run (by rfl)
            · (intro w h; have FK := HSF.out w h; clear h; go_split_ands; go_simp; try rfl)
            (try simp only [Act.put, List.setIfInBounds_toArray, List.set_cons_zero, List.set_cons_succ])
            refine lexH_call (by kernel_rfl) (by rfl) (by go_simp; first | exact ⟨rfl, rfl⟩ | rfl) ?_
            intro hS
            refine (own_any _ _ _ _ _ HOW2.out).mono ?_
            rintro e5 w5 ⟨rfl, hb5⟩
            have HB5 := Lib.hid (below_via hb5 hS)
            refine ⟨_, rfl, HB5.out, ?_⟩
            clear hb5 hS
            (try simp only [Act.put, List.setIfInBounds_toArray, List.set_cons_zero, List.set_cons_succ])
            apply lexH_run (by rfl)
            · (intro w h; clear h; go_simp; try rfl)
            (try simp only [Act.put, List.setIfInBounds_toArray, List.set_cons_zero, List.set_cons_succ])
            apply lexH_run (by rfl)
            · (intro w h; clear h; go_simp; try rfl)
            (try simp only [Act.put, List.setIfInBounds_toArray, List.set_cons_zero, List.set_cons_succ])
            apply lexH_run (by rfl)
            · (intro w h; clear h; go_simp; try rfl)
            (try simp only [Act.put, List.setIfInBounds_toArray, List.set_cons_zero, List.set_cons_succ])
            apply lexH_run (by rfl)
            · (intro w h; clear h; go_simp; try rfl)
            (try simp only [Act.put, List.setIfInBounds_toArray, List.set_cons_zero, List.set_cons_succ])
            apply lexH_run (by rfl)
            · (intro w h; clear h; go_simp; try rfl)
            (try simp only [Act.put, List.setIfInBounds_toArray, List.set_cons_zero, List.set_cons_succ])
            apply lexH_run (by rfl)
            · (intro w h; clear h; go_simp; try rfl)
            (try simp only [Act.put, List.setIfInBounds_toArray, List.set_cons_zero, List.set_cons_succ])
            apply lexH_run (by rfl)
            · (intro w h; have FK := HSF.out w h; clear h; go_split_ands; go_simp; try rfl)
            (try simp only [Act.put, List.setIfInBounds_toArray, List.set_cons_zero, List.set_cons_succ])
            apply lexH_run (by rfl)
            · (intro w h; clear h; go_simp; try rfl)
            (try simp only [Act.put, List.setIfInBounds_toArray, List.set_cons_zero, List.set_cons_succ])
            apply lexH_run (by rfl)
            · (intro w h; clear h; go_simp; try rfl)
            (try simp only [Act.put, List.setIfInBounds_toArray, List.set_cons_zero, List.set_cons_succ])
            apply lexH_run (by rfl)
            · (intro w h; clear h; go_simp; try rfl)
            (try simp only [Act.put, List.setIfInBounds_toArray, List.set_cons_zero, List.set_cons_succ])
            apply lexH_run (by rfl)
            · (intro w h; clear h; go_simp; try rfl)
            (try simp only [Act.put, List.setIfInBounds_toArray, List.set_cons_zero, List.set_cons_succ])
            apply lexH_run (by rfl)
            · (intro w h; clear h; go_simp; try rfl)
            (try simp only [Act.put, List.setIfInBounds_toArray, List.set_cons_zero, List.set_cons_succ])
            apply lexH_run (by rfl)
            · (intro w h; clear h; go_simp; try rfl)
            (try simp only [Act.put, List.setIfInBounds_toArray, List.set_cons_zero, List.set_cons_succ])
            apply lexH_run (by rfl)
            · (intro w h; clear h; go_simp; try rfl)
            (try simp only [Act.put, List.setIfInBounds_toArray, List.set_cons_zero, List.set_cons_succ])
            apply lexH_run (by rfl)
            · (intro w h; have FK := HSF.out w h; clear h; go_split_ands; go_simp; try rfl)
            (try simp only [Act.put, List.setIfInBounds_toArray, List.set_cons_zero, List.set_cons_succ])
            apply lexH_run (by rfl)
            · (intro w h; clear h; go_simp; try rfl)
            (try simp only [Act.put, List.setIfInBounds_toArray, List.set_cons_zero, List.set_cons_succ])
            apply lexH_run (by rfl)
            · (intro w h; clear h; go_simp; try rfl)
            (try simp only [Act.put, List.setIfInBounds_toArray, List.set_cons_zero, List.set_cons_succ])
            apply lexH_run (by rfl)
            · (intro w h; clear h; go_simp; try rfl)
            (try simp only [Act.put, List.setIfInBounds_toArray, List.set_cons_zero, List.set_cons_succ])
            apply lexH_run (by rfl)
            · (intro w h; clear h; go_simp; try rfl)
            (try simp only [Act.put, List.setIfInBounds_toArray, List.set_cons_zero, List.set_cons_succ])
            apply lexH_run (by rfl)
            · (intro w h; have FK := HSF.out w h; clear h; go_split_ands; go_simp; try rfl)
            (try simp only [Act.put, List.setIfInBounds_toArray, List.set_cons_zero, List.set_cons_succ])
            apply lexH_run (by rfl)
            · (intro w h; clear h; go_simp; try rfl)
            (try simp only [Act.put, List.setIfInBounds_toArray, List.set_cons_zero, List.set_cons_succ])
            apply lexH_run (by rfl)
            · (intro w h; clear h; go_simp; try rfl)
            (try simp only [Act.put, List.setIfInBounds_toArray, List.set_cons_zero, List.set_cons_succ])
            apply lexH_run (by rfl)
            · (intro w h; clear h; go_simp; try rfl)
            (try simp only [Act.put, List.setIfInBounds_toArray, List.set_cons_zero, List.set_cons_succ])
            apply lexH_run (by rfl)
            · (intro w h; clear h; go_simp; try rfl)
            (try simp only [Act.put, List.setIfInBounds_toArray, List.set_cons_zero, List.set_cons_succ])
            apply lexH_run (by rfl)
            · (intro w h; clear h; go_simp; try rfl)
            (try simp only [Act.put, List.setIfInBounds_toArray, List.set_cons_zero, List.set_cons_succ])
            apply lexH_run (by rfl)
            · (intro w h; clear h; go_simp; try rfl)
            (try simp only [Act.put, List.setIfInBounds_toArray, List.set_cons_zero, List.set_cons_succ])
            apply lexH_run (by rfl)
            · (intro w h; clear h; go_simp; try rfl)
            (try simp only [Act.put, List.setIfInBounds_toArray, List.set_cons_zero, List.set_cons_succ])
            apply lexH_run (by rfl)
            · (intro w h; clear h; go_simp; try rfl)
            (try simp only [Act.put, List.setIfInBounds_toArray, List.set_cons_zero, List.set_cons_succ])
            apply lexH_run (by rfl)
            · (intro w h; clear h; go_simp; try rfl)
            (try simp only [Act.put, List.setIfInBounds_toArray, List.set_cons_zero, List.set_cons_succ])
            apply lexH_run (by rfl)
            · (intro w h; clear h; go_simp; try rfl)
            (try simp only [Act.put, List.setIfInBounds_toArray, List.set_cons_zero, List.set_cons_succ])
            apply lexH_run (by rfl)
            · (intro w h; clear h; go_simp; try rfl)
            (try simp only [Act.put, List.setIfInBounds_toArray, List.set_cons_zero, List.set_cons_succ])
            apply lexH_run (by rfl)
            · (intro w h; have FK := HSF.out w h; clear h; go_split_ands; go_simp; try rfl)
            (try simp only [Act.put, List.setIfInBounds_toArray, List.set_cons_zero, List.set_cons_succ])
            apply lexH_run (by rfl)
            · (intro w h; clear h; go_simp; try rfl)
            (try simp only [Act.put, List.setIfInBounds_toArray, List.set_cons_zero, List.set_cons_succ])
            apply lexH_run (by rfl)
            · (intro w h; clear h; go_simp; try rfl)
            (try simp only [Act.put, List.setIfInBounds_toArray, List.set_cons_zero, List.set_cons_succ])
            apply lexH_run (by rfl)
            · (intro w h; clear h; go_simp; try rfl)
            (try simp only [Act.put, List.setIfInBounds_toArray, List.set_cons_zero, List.set_cons_succ])
            apply lexH_run (by rfl)
            · (intro w h; clear h; go_simp; try rfl)
            (try simp only [Act.put, List.setIfInBounds_toArray, List.set_cons_zero, List.set_cons_succ])
            apply lexH_run (by rfl)
            · (intro w h; clear h; go_simp; try rfl)
            (try simp only [Act.put, List.setIfInBounds_toArray, List.set_cons_zero, List.set_cons_succ])
            apply lexH_run (by rfl)
            · (intro w h; have FK := HSF.out w h; clear h; go_split_ands; go_simp; try rfl)
            (try simp only [Act.put, List.setIfInBounds_toArray, List.set_cons_zero, List.set_cons_succ])
            apply lexH_run (by rfl)
            · (intro w h; clear h; go_simp; try rfl)
            (try simp only [Act.put, List.setIfInBounds_toArray, List.set_cons_zero, List.set_cons_succ])
            apply lexH_run (by rfl)
            · (intro w h; clear h; go_simp; try rfl)
            (try simp only [Act.put, List.setIfInBounds_toArray, List.set_cons_zero, List.set_cons_succ])
            apply lexH_run (by rfl)
            · (intro w h; clear h; go_simp; try rfl)
            (try simp only [Act.put, List.setIfInBounds_toArray, List.set_cons_zero, List.set_cons_succ])
            apply lexH_run (by rfl)
            · (intro w h; clear h; go_simp; try rfl)
            (try simp only [Act.put, List.setIfInBounds_toArray, List.set_cons_zero, List.set_cons_succ])
            apply lexH_run (by rfl)
            · (intro w h; clear h; go_simp; try rfl)
            (try simp only [Act.put, List.setIfInBounds_toArray, List.set_cons_zero, List.set_cons_succ])
            apply lexH_run (by rfl)
            · (intro w h; have FK := HSF.out w h; clear h; go_split_ands; go_simp; try rfl)
            (try simp only [Act.put, List.setIfInBounds_toArray, List.set_cons_zero, List.set_cons_succ])
            apply lexH_run (by rfl)
            · (intro w h; clear h; go_simp; try rfl)
            (try simp only [Act.put, List.setIfInBounds_toArray, List.set_cons_zero, List.set_cons_succ])
            apply lexH_run (by rfl)
            · (intro w h; clear h; go_simp; try rfl)
            (try simp only [Act.put, List.setIfInBounds_toArray, List.set_cons_zero, List.set_cons_succ])
            apply lexH_run (by rfl)
            · (intro w h; clear h; go_simp; try rfl)
            (try simp only [Act.put, List.setIfInBounds_toArray, List.set_cons_zero, List.set_cons_succ])
            apply lexH_run (by rfl)
            · (intro w h; clear h; go_simp; try rfl)
            (try simp only [Act.put, List.setIfInBounds_toArray, List.set_cons_zero, List.set_cons_succ])
            apply lexH_nil
            refine NoPanic.normal ?_
            have HWN := Lib.hid (show Below w.heap.size w w5 from below_via HB5.out HWJ.out)
            clear HB5 HSF hws2 hwm
            go_wp2
            go_roundw
            case rel => exact ⟨k + 1, by go_num, by omega, by omega, HWN⟩
            case measure => simp [intOf] <;> omega
        · obtain rfl : k = e := by omega
          clear hke hk
          go_upto_region 5 with (fail)
          go_cut [30] (fun s wx => s = .bool false ∧ RowKit.Hid (Below w.heap.size w wx))
          case first =>
            by_cases hkn : k < n
            · have hkn2 : (k : Int) < (n : Int) := by omega
              obtain ⟨k0, k1, k2, k3⟩ := hrc k (by omega)
              obtain ⟨i0, i1, i2, i3⟩ := hrc i (by omega)
              have hne := HS.out.nx (by rw [← HN.out]; exact hkn)
              generalize (L.getD k zR).y = yk at k1 hne
              generalize (L.getD i zR).y = yi at i1 hne
              have hnb : (yk == yi) = false := by simpa using hne
              clear k0 k2 k3 i0 i2 i3 hrc
              go_quiet (fail)
              go_wp2
              all_goals go_meet
              all_goals exact ⟨by simp [hne], Lib.hid (by first | exact HW.out | exact below_drewN HW.out _ | exact HW.out.trans (Below.drew (Below.refl _ _)))⟩
            · have hkn2 : decide ((k : Int) < (n : Int)) = false := by simp; omega
              clear hrc
              go_quiet (fail)
              go_wp2
              all_goals go_meet
              all_goals exact ⟨rfl, Lib.hid (by first | exact HW.out | exact below_drewN HW.out _ | exact HW.out.trans (Below.drew (Below.refl _ _)))⟩
          case rest =>
            obtain ⟨rfl, HB⟩ := hcut
            obtain ⟨wb, hwb⟩ : ∃ q : World, q = wc := ⟨_, rfl⟩
            rw [← hwb] at HB ⊢
            clear hwb hrc zr HW
            obtain ⟨zb, hrb⟩ := HRC.out _ HB.out
            by_cases hi0 : 0 < i
            · have hii : (0 : Int) < (i : Int) := by omega
              obtain ⟨a0, a1, a2, a3⟩ := hrb a (by have := HS.out.al hi0; omega)
              obtain ⟨i0, i1, i2, i3⟩ := hrb i (by omega)
              have hai := HS.out.al hi0
              have hup := HS.out.up hi0
              have han : (a : Int) < (n : Int) := by omega
              have hpa : PlaneR (L.getD a zR) := HF.out _ (getD_memR (by rw [← HN.out]; omega))
              have hp1 := hpa.y
              have hp2 := hpa.yh
              have hp3 := hpa.h
              have HDF := Lib.hid (HS.out.df hi0)
              obtain ⟨ya, hya⟩ : ∃ q, q = (L.getD a zR).y := ⟨_, rfl⟩
              obtain ⟨h4, hh4⟩ : ∃ q, q = (L.getD a zR).h := ⟨_, rfl⟩
              obtain ⟨yi, hyi⟩ : ∃ q, q = (L.getD i zR).y := ⟨_, rfl⟩
              rw [← hya] at a1 hup hp1 hp2 HDF
              rw [← hh4] at a3 hup hp2 hp3 HDF
              rw [← hyi] at i1 hup HDF
              have hws : wrap64 (ya + h4) = ya + h4 := by unfold wrap64; omega
              have hws2 : IntKind.i64.wrap (ya + h4) = ya + h4 := wrap_small _ (by omega)
              clear hpa hp1 hp2 hp3 a0 a2 i0 i2 i3 hya hh4 hyi
              go_upto_region 10 with (fail)
              go_quiet (fail)
              clear a1 a3
              obtain ⟨bw, hbw⟩ : ∃ q, q = ya + h4 := ⟨_, rfl⟩
              (try rw [hws2])
              rw [← hbw] at hup HDF ⊢
              clear hws hws2 hbw
              have hnl : ¬ yi < bw := by omega
              have HBD := Lib.hid (show Below w.heap.size w (wb.drewN nq) from below_drewN HB.out _)
              have cid : (wb.drewN nq).cell? ⟨rb, ro + i * 4 + 1, none⟩ = some (.int .i64 yi) := i1
              have zd : rb < (wb.drewN nq).heap.size := zb
              obtain ⟨wd, hwd⟩ : ∃ q : World, q = wb.drewN nq := ⟨_, rfl⟩
              rw [← hwd] at HBD cid zd ⊢
              clear hwd i1 zb hrb HB
              go_upto_region 13 with (fail)
              go_cut [7] (fun s wx => s = .bool (decide (yi = bw ∧ k - i = i - a)) ∧ RowKit.Hid (Below w.heap.size w wx))
              case first =>
                by_cases hy : yi = bw
                · have hyb : (yi == bw) = true := by simpa using hy
                  subst hy
                  have hs1 : IntKind.i64.wrap ((k : Int) - (i : Int)) = ((k - i : Nat) : Int) := by rw [wrap_small _ (by omega)]; omega
                  have hs2 : IntKind.i64.wrap ((i : Int) - (a : Int)) = ((i - a : Nat) : Int) := by rw [wrap_small _ (by omega)]; omega
                  have hkq : (((k - i : Nat) : Int) == ((i - a : Nat) : Int)) = decide (k - i = i - a) := by rw [Bool.eq_iff_iff, beq_iff_eq, decide_eq_true_iff]; omega
                  go_wp2
                  all_goals go_meet
                  all_goals exact ⟨by (first | rw [hkq] | skip); simp, Lib.hid (by first | exact HBD.out | exact below_drewN HBD.out _ | exact HBD.out.trans (Below.drew (Below.refl _ _)))⟩
                · have hyb : (yi == bw) = false := by simpa using hy
                  go_wp2
                  all_goals go_meet
                  all_goals exact ⟨by simp [hy], Lib.hid (by first | exact HBD.out | exact below_drewN HBD.out _ | exact HBD.out.trans (Below.drew (Below.refl _ _)))⟩
              case rest =>
                obtain ⟨rfl, HC⟩ := hcut
                obtain ⟨wg, hwg⟩ : ∃ q : World, q = wc := ⟨_, rfl⟩
                rw [← hwg] at HC ⊢
                clear hwg HBD cid zd
                obtain ⟨b0, hb0⟩ : ∃ q, q = decide (yi = bw ∧ k - i = i - a) := ⟨_, rfl⟩
                rw [← hb0]
                have HB0 := Lib.hid (show b0 = true → yi = bw ∧ k - i = i - a from fun h => by rw [hb0] at h; exact of_decide_eq_true h)
                clear hb0
                go_wp2
                go_loopw [7, 8] (fun sv jv wr => ∃ (j : Nat) (s : Bool), sv = .bool s ∧ jv = .int .i64 j ∧ j ≤ k - i ∧ RowKit.Hid (s = true → (yi = bw ∧ k - i = i - a) ∧ ∀ q, q < j → (L.getD (i + q) zR).x = (L.getD (a + q) zR).x ∧ (L.getD (i + q) zR).w = (L.getD (a + q) zR).w) ∧ RowKit.Hid (Below w.heap.size w wr)) (fun _ jv _ => n - (intOf jv).toNat)
                case atStart => exact ⟨0, b0, rfl, rfl, Nat.zero_le _, Lib.hid (fun h => ⟨HB0.out h, fun q hq => by omega⟩), HC⟩
                case round =>
                  obtain ⟨j, s, rfl, rfl, hj, HQ, HJ⟩ := hrel
                  clear HC HB0
                  cases s
                  · go_wp2
                    go_roundw
                    case rel => exact ⟨t + 1, k, i, by omega, HT.out.1, HT.out.2, rfl, rfl, HJ⟩
                    case measure => simp [intOf] <;> omega
                  · have hwki : IntKind.i64.wrap ((k : Int) - (i : Int)) = ((k - i : Nat) : Int) := by rw [wrap_small _ (by omega)]; omega
                    obtain ⟨⟨hy, hka⟩, hal⟩ := HQ.out rfl
                    by_cases hjk : j < k - i
                    · have hjc : decide ((j : Int) < ((k - i : Nat) : Int)) = true := by simp; omega
                      have hjc2 : (j : Int) < ((k - i : Nat) : Int) := by omega
                      obtain ⟨zg, hrg⟩ := HRC.out _ HJ.out
                      obtain ⟨x0, x1, x2, x3⟩ := hrg (i + j) (by omega)
                      obtain ⟨v0, v1, v2, v3⟩ := hrg (a + j) (by omega)
                      have HAL := Lib.hid hal
                      obtain ⟨xa, hxa⟩ : ∃ q, q = (L.getD (i + j) zR).x := ⟨_, rfl⟩
                      obtain ⟨xb, hxb⟩ : ∃ q, q = (L.getD (a + j) zR).x := ⟨_, rfl⟩
                      obtain ⟨wa, hwa⟩ : ∃ q, q = (L.getD (i + j) zR).w := ⟨_, rfl⟩
                      obtain ⟨wb2, hwb2⟩ : ∃ q, q = (L.getD (a + j) zR).w := ⟨_, rfl⟩
                      rw [← hxa] at x0
                      rw [← hxb] at v0
                      rw [← hwa] at x2
                      rw [← hwb2] at v2
                      have HX := Lib.hid (And.intro hxa (And.intro hxb (And.intro hwa hwb2)))
                      clear hxa hxb hwa hwb2 x1 x3 v1 v3 hrg hal HQ
                      have hij : IntKind.i64.wrap ((i : Int) + (j : Int)) = ((i + j : Nat) : Int) := by rw [wrap_small _ (by omega)]; omega
                      have haj : IntKind.i64.wrap ((a : Int) + (j : Int)) = ((a + j : Nat) : Int) := by rw [wrap_small _ (by omega)]; omega
                      have hij1 : ((i + j : Nat) : Int) < (n : Int) := by omega
                      have haj1 : ((a + j : Nat) : Int) < (n : Int) := by omega
                      have hij0 : (0 : Int) ≤ ((i + j : Nat) : Int) := by omega
                      have haj0 : (0 : Int) ≤ ((a + j : Nat) : Int) := by omega
                      go_upto_region 17 with (fail)
                      have HN2 := Lib.hid (show xa = xb → wa = wb2 → (yi = bw ∧ k - i = i - a) ∧ ∀ q, q < j + 1 → (L.getD (i + q) zR).x = (L.getD (a + q) zR).x ∧ (L.getD (i + q) zR).w = (L.getD (a + q) zR).w from fun h1 h2 => by
                        refine ⟨⟨hy, hka⟩, fun q hq => ?_⟩
                        by_cases e : q = j
                        · subst e; obtain ⟨g1, g2, g3, g4⟩ := HX.out; rw [← g1, ← g2, ← g3, ← g4]; exact ⟨h1, h2⟩
                        · exact HAL.out q (by omega))
                      clear HAL HX hy hka
                      by_cases hx : xa = xb
                      · have hxe : (xa == xb) = true := by simpa using hx
                        by_cases hw : wa = wb2
                        · have hwe : (wa == wb2) = true := by simpa using hw
                          subst hx
                          subst hw
                          go_quiet (fail)
                          clear x0 x2 v0 v2 hij haj
                          go_wp2
                          go_roundw
                          case rel => exact ⟨j + 1, true, rfl, by go_num, by omega, Lib.hid (fun _ => HN2.out rfl rfl), Lib.hid (by first | exact HJ.out | exact below_drewN HJ.out _ | exact HJ.out.trans (Below.drew (Below.refl _ _)))⟩
                          case measure => simp [intOf] <;> omega
                        · have hwe : (wa == wb2) = false := by simpa using hw
                          subst hx
                          go_quiet (fail)
                          clear x0 x2 v0 v2 hij haj
                          go_wp2
                          go_roundw
                          case rel => exact ⟨j + 1, false, rfl, by go_num, by omega, Lib.hid (fun h => (by cases h)), Lib.hid (by first | exact HJ.out | exact below_drewN HJ.out _ | exact HJ.out.trans (Below.drew (Below.refl _ _)))⟩
                          case measure => simp [intOf] <;> omega
                      · have hxe : (xa == xb) = false := by simpa using hx
                        go_quiet (fail)
                        clear x0 x2 v0 v2 hij haj
                        go_wp2
                        go_roundw
                        case rel => exact ⟨j + 1, false, rfl, by go_num, by omega, Lib.hid (fun h => (by cases h)), Lib.hid (by first | exact HJ.out | exact below_drewN HJ.out _ | exact HJ.out.trans (Below.drew (Below.refl _ _)))⟩
                        case measure => simp [intOf] <;> omega
                    · exact absurd (fun q hq => hal q (by omega)) (HDF.out hy hka)
            · obtain rfl : i = 0 := by omega
              clear hrb zb
              go_wp2
              go_roundw
              case rel => exact ⟨t + 1, k, 0, by omega, HT.out.1, HT.out.2, rfl, rfl, HB⟩
              case measure => simp [intOf] <;> omega
    · obtain rfl : t = bs.length := by omega
      have hin : ¬ (i : Int) < (n : Int) := by rw [hi, HEND.out]; omega
      clear ha hi
      go_wp2
      go_ret
      exact ⟨rfl, HI.out⟩
end Go.Proofs.Ytekcheccelllcaa
