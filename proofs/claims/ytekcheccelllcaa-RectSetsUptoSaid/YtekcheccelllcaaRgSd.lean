/- Layer 07: RectSets' walk, part D. -/
import Derived.Test.YtekcheccelllcaaRgSc
namespace Go.Proofs.Ytekcheccelllcaa
open Go.RowKit
set_option linter.unusedVariables false
set_option linter.unusedSimpArgs false
set_option maxRecDepth 100000 in
set_option maxHeartbeats 32000000 in
theorem RectSets_D (p : Option Addr) (c : Nat) (S : List (Int × R4)) (x y : Int) (w : World) (hSS : S.length ≤ 1048576) (HP : RowKit.Hid (StpAt w p S)) (HR : RowKit.Hid (∀ s ∈ S, isR s.2)) : (RectSets_C p c S x y w hSS HP HR).1 := by
  unfold RectSets_C
  set_option tactic.hygienic false in intro
  set_option tactic.hygienic false in intros
  have hb0 : inC X Y (D.take nd) = inC X Y D := by rw [List.take_of_length_le (by rw [HND.out]; exact Nat.le_refl _)]
  rw [hb0]
  obtain ⟨bb, hbb⟩ : ∃ q, q = inC X Y D := ⟨_, rfl⟩
  have HT := Lib.hid (HTOLD.out X Y)
  have HH := Lib.hid (HHAS.out X Y)
  rw [← hbb] at HT HH ⊢
  clear hbb hb0
  go_wp2
  go_loopw [20, 21] (fun bv kv wr => ∃ k : Nat, kv = .int .i64 k ∧ k ≤ n2 ∧ bv = .bool ((L.take k).any (fun r => withinR r X Y)) ∧ RowKit.Hid (Below w4.heap.size w4 wr)) (fun _ kv _ => n2 - (intOf kv).toNat)
  case atStart => exact ⟨0, rfl, Nat.zero_le _, rfl, HK⟩
  case round =>
    clear HK
    obtain ⟨wq, rfl⟩ : ∃ wq : World, wq = wr := ⟨_, rfl⟩
    obtain ⟨k, rfl, hk2, rfl, HK⟩ := hrel
    by_cases hkn : k < n2
    · have hkk2 : (k : Int) < (n2 : Int) := by omega
      have hkl : k < L.length := by rw [← HN2.out]; exact hkn
      have HTK := Lib.hid (any_take hkl fun r => withinR r X Y)
      obtain ⟨b0, hb0⟩ : ∃ q, q = (L.take k).any (fun r => withinR r X Y) := ⟨_, rfl⟩
      rw [← hb0] at HTK ⊢
      clear hb0
      go_upto_region 42 with (fail)
      cases b0
      · obtain ⟨rb, ro, rfl, zr, hc⟩ := (HSL4.out.later HK.out) (by rw [← HN2.out]; omega)
        obtain ⟨c0, c1, c2, c3⟩ := hc k hkl
        have CM := Lib.hid (fun W => within_any (L.getD k zR) X Y W (HF.out _ (getD_memR hkl)))
        generalize L.getD k zR = r at c0 c1 c2 c3 CM HTK
        have HCC := Lib.hid (And.intro c0 (And.intro c1 (And.intro c2 c3)))
        obtain ⟨p0, p1, p2⟩ := HXY.out _ HK.out
        have HSF := Lib.hid (show ∀ w' : World, Below wq.heap.size wq w' → (w'.cell? ⟨rb, ro + k * 4, none⟩ = some (.int .i64 r.x) ∧ w'.cell? ⟨rb, ro + k * 4 + 1, none⟩ = some (.int .i64 r.y) ∧ w'.cell? ⟨rb, ro + k * 4 + 2, none⟩ = some (.int .i64 r.w) ∧ w'.cell? ⟨rb, ro + k * 4 + 3, none⟩ = some (.int .i64 r.h) ∧ w'.cell? ⟨pp, i * 2, none⟩ = some (.int .i64 X) ∧ w'.cell? ⟨pp, i * 2 + 1, none⟩ = some (.int .i64 Y)) from fun w' hb => by
          have e := (bcell hb).1
          obtain ⟨c0, c1, c2, c3⟩ := HCC.out
          exact ⟨by rw [e _ _ zr]; exact c0, by rw [e _ _ zr]; exact c1, by rw [e _ _ zr]; exact c2, by rw [e _ _ zr]; exact c3, by rw [e _ _ p0]; exact p1, by rw [e _ _ p0]; exact p2⟩)
        clear c0 c1 c2 c3 p1 p2 HCC hc
        refine wp_region_noPanic ?_
        refine wp_region_lexH (fun w' => Below wq.heap.size wq w') (by kernel_rfl) (by kernel_rfl) (fun _ _ _ _ _ h => h) (Below.drew (Below.refl _ _)) ?_
        apply lexH_run (by rfl)
        · (intro w h; clear h; go_simp; try rfl)
        (try simp only [Act.put, List.setIfInBounds_toArray, List.set_cons_zero, List.set_cons_succ])
        apply lexH_run (by rfl)
        · (intro w h; clear h; go_simp; try rfl)
        (try simp only [Act.put, List.setIfInBounds_toArray, List.set_cons_zero, List.set_cons_succ])
        apply lexH_run (by rfl)
        · (intro w h; clear h; go_simp; try rfl)
        (try simp only [Act.put, List.setIfInBounds_toArray, List.set_cons_zero, List.set_cons_succ])
        apply lexH_run (by rfl)
        · (intro w h; clear h; go_simp; try rfl)
        (try simp only [Act.put, List.setIfInBounds_toArray, List.set_cons_zero, List.set_cons_succ])
        apply lexH_run (by rfl)
        · (intro w h; clear h; go_simp; try rfl)
        (try simp only [Act.put, List.setIfInBounds_toArray, List.set_cons_zero, List.set_cons_succ])
        apply lexH_run (by rfl)
        · (intro w h; have FK := HSF.out w h; clear h; go_split_ands; go_simp; try rfl)
        (try simp only [Act.put, List.setIfInBounds_toArray, List.set_cons_zero, List.set_cons_succ])
        apply lexH_run (by rfl)
        · (intro w h; clear h; go_simp; try rfl)
        (try simp only [Act.put, List.setIfInBounds_toArray, List.set_cons_zero, List.set_cons_succ])
        apply lexH_run (by rfl)
        · (intro w h; clear h; go_simp; try rfl)
        (try simp only [Act.put, List.setIfInBounds_toArray, List.set_cons_zero, List.set_cons_succ])
        apply lexH_run (by rfl)
        · (intro w h; clear h; go_simp; try rfl)
        (try simp only [Act.put, List.setIfInBounds_toArray, List.set_cons_zero, List.set_cons_succ])
        apply lexH_run (by rfl)
        · (intro w h; clear h; go_simp; try rfl)
        (try simp only [Act.put, List.setIfInBounds_toArray, List.set_cons_zero, List.set_cons_succ])
        apply lexH_run (by rfl)
        · (intro w h; have FK := HSF.out w h; clear h; go_split_ands; go_simp; try rfl)
        (try simp only [Act.put, List.setIfInBounds_toArray, List.set_cons_zero, List.set_cons_succ])
        apply lexH_run (by rfl)
        · (intro w h; clear h; go_simp; try rfl)
        (try simp only [Act.put, List.setIfInBounds_toArray, List.set_cons_zero, List.set_cons_succ])
        apply lexH_run (by rfl)
        · (intro w h; clear h; go_simp; try rfl)
        (try simp only [Act.put, List.setIfInBounds_toArray, List.set_cons_zero, List.set_cons_succ])
        apply lexH_run (by rfl)
        · (intro w h; clear h; go_simp; try rfl)
        (try simp only [Act.put, List.setIfInBounds_toArray, List.set_cons_zero, List.set_cons_succ])
        apply lexH_run (by rfl)
        · (intro w h; clear h; go_simp; try rfl)
        (try simp only [Act.put, List.setIfInBounds_toArray, List.set_cons_zero, List.set_cons_succ])
        apply lexH_run (by rfl)
        · (intro w h; have FK := HSF.out w h; clear h; go_split_ands; go_simp; try rfl)
        (try simp only [Act.put, List.setIfInBounds_toArray, List.set_cons_zero, List.set_cons_succ])
        refine lexH_call (by kernel_rfl) (by rfl) (by go_simp; first | exact ⟨rfl, rfl⟩ | rfl) ?_
        intro hS
        refine (CM.out _).mono ?_
        rintro e5 w5 ⟨rfl, hb5⟩
        have HB5 := Lib.hid (below_via hb5 hS)
        refine ⟨_, rfl, HB5.out, ?_⟩
        clear hb5 hS
        (try simp only [Act.put, List.setIfInBounds_toArray, List.set_cons_zero, List.set_cons_succ])
        apply lexH_run (by rfl)
        · (intro w h; clear h; go_simp; try rfl)
        (try simp only [Act.put, List.setIfInBounds_toArray, List.set_cons_zero, List.set_cons_succ])
        apply lexH_run (by rfl)
        · (intro w h; clear h; go_simp; try rfl)
        (try simp only [Act.put, List.setIfInBounds_toArray, List.set_cons_zero, List.set_cons_succ])
        apply lexH_nil
        refine NoPanic.normal ?_
        have HK5 := Lib.hid (below_via HB5.out HK.out)
        clear HSF CM HB5
        go_wp2
        go_roundw
        case rel => exact ⟨k + 1, by go_num, by omega, by rw [HTK.out]; rfl, HK5⟩
        case measure => simp [intOf] <;> omega
      · go_quiet (fail)
        go_wp2
        go_roundw
        case rel => exact ⟨k + 1, by go_num, by omega, by rw [HTK.out]; rfl, Lib.hid (by first | exact HK.out | exact below_drewN HK.out _)⟩
        case measure => simp [intOf] <;> omega
    · have hkk2 : ¬ (k : Int) < (n2 : Int) := by omega
      obtain rfl : n2 = k := by omega
      have hb0 : (L.take n2).any (fun r => withinR r X Y) = bb := by rw [List.take_of_length_le (by rw [HN2.out]; exact Nat.le_refl _)]; exact HT.out
      rw [hb0]
      clear hb0
      obtain ⟨p0, p1, p2⟩ := HXY.out _ HK.out
      have HSF := Lib.hid (show ∀ w' : World, Below wq.heap.size wq w' → (w'.cell? ⟨pp, i * 2, none⟩ = some (.int .i64 X) ∧ w'.cell? ⟨pp, i * 2 + 1, none⟩ = some (.int .i64 Y)) from fun w' hb => by
        have e := (bcell hb).1
        exact ⟨by rw [e _ _ p0]; exact p1, by rw [e _ _ p0]; exact p2⟩)
      clear p1 p2
      have CM := Lib.hid (fun W (hb : Below w4.heap.size w4 W) => has_reg_any w.heap.size W g v l X Y (HRG4.out.later hb) HOK.out)
      rw [HH.out] at CM
      go_upto_region 43 with (fail)
      cases bb
      · refine wp_region_noPanic ?_
        refine wp_region_held (S := (fun w' => Below wq.heap.size wq w')) (by kernel_rfl) ?_
        change wpAnyH _ _ _ _ _ 19 (Array.replicate 19 false) _ _
        refine wpAnyH_take (i := 0) (v := ?vx0) (by simp only [List.getElem?_toArray, List.getElem?_cons_succ, List.getElem?_cons_zero]; rfl) (by kernel_rfl) (by kernel_rfl) (by kernel_rfl) (fun _ _ _ h => h) (.inl ⟨by rfl, ?tx0⟩) ?sx0 ?_
        case tx0 => (intro w' h; clear h; go_simp; try rfl)
        case sx0 => exact (Below.drew (Below.refl _ _))
        (try simp only [Act.put, List.setIfInBounds_toArray, List.set_cons_zero, List.set_cons_succ])
        refine wpAnyH_take (i := 1) (v := ?vx1) (by simp only [List.getElem?_toArray, List.getElem?_cons_succ, List.getElem?_cons_zero]; rfl) (by kernel_rfl) (by kernel_rfl) (by kernel_rfl) (fun _ _ _ h => h) (.inl ⟨by rfl, ?tx1⟩) ?sx1 ?_
        case tx1 => (intro w' h; clear h; go_simp; try rfl)
        case sx1 => exact (Below.drew (Below.refl _ _))
        (try simp only [Act.put, List.setIfInBounds_toArray, List.set_cons_zero, List.set_cons_succ])
        refine wpAnyH_take (i := 2) (v := ?vx2) (by simp only [List.getElem?_toArray, List.getElem?_cons_succ, List.getElem?_cons_zero]; rfl) (by kernel_rfl) (by kernel_rfl) (by kernel_rfl) (fun _ _ _ h => h) (.inl ⟨by rfl, ?tx2⟩) ?sx2 ?_
        case tx2 => (intro w' h; clear h; go_simp; try rfl)
        case sx2 => exact (Below.drew (Below.refl _ _))
        (try simp only [Act.put, List.setIfInBounds_toArray, List.set_cons_zero, List.set_cons_succ])
        refine wpAnyH_take (i := 3) (v := ?vx3) (by simp only [List.getElem?_toArray, List.getElem?_cons_succ, List.getElem?_cons_zero]; rfl) (by kernel_rfl) (by kernel_rfl) (by kernel_rfl) (fun _ _ _ h => h) (.inl ⟨by rfl, ?tx3⟩) ?sx3 ?_
        case tx3 => (intro w' h; clear h; go_simp; try rfl)
        case sx3 => exact (Below.drew (Below.refl _ _))
        (try simp only [Act.put, List.setIfInBounds_toArray, List.set_cons_zero, List.set_cons_succ])
        refine wpAnyH_take (i := 4) (v := ?vx4) (by simp only [List.getElem?_toArray, List.getElem?_cons_succ, List.getElem?_cons_zero]; rfl) (by kernel_rfl) (by kernel_rfl) (by kernel_rfl) (fun _ _ _ h => h) (.inl ⟨by rfl, ?tx4⟩) ?sx4 ?_
        case tx4 => (intro w' h; clear h; go_simp; try rfl)
        case sx4 => exact (Below.drew (Below.refl _ _))
        (try simp only [Act.put, List.setIfInBounds_toArray, List.set_cons_zero, List.set_cons_succ])
        refine wpAnyH_take (i := 5) (v := ?vx5) (by simp only [List.getElem?_toArray, List.getElem?_cons_succ, List.getElem?_cons_zero]; rfl) (by kernel_rfl) (by kernel_rfl) (by kernel_rfl) (fun _ _ _ h => h) (.inl ⟨by rfl, ?tx5⟩) ?sx5 ?_
        case tx5 => (intro w' h; have FK := HSF.out w' h; clear h; go_split_ands; go_simp; try rfl)
        case sx5 => exact (Below.drew (Below.refl _ _))
        (try simp only [Act.put, List.setIfInBounds_toArray, List.set_cons_zero, List.set_cons_succ])
        refine wpAnyH_take (i := 6) (v := ?vx6) (by simp only [List.getElem?_toArray, List.getElem?_cons_succ, List.getElem?_cons_zero]; rfl) (by kernel_rfl) (by kernel_rfl) (by kernel_rfl) (fun _ _ _ h => h) (.inl ⟨by rfl, ?tx6⟩) ?sx6 ?_
        case tx6 => (intro w' h; clear h; go_simp; try rfl)
        case sx6 => exact (Below.drew (Below.refl _ _))
        (try simp only [Act.put, List.setIfInBounds_toArray, List.set_cons_zero, List.set_cons_succ])
        refine wpAnyH_take (i := 7) (v := ?vx7) (by simp only [List.getElem?_toArray, List.getElem?_cons_succ, List.getElem?_cons_zero]; rfl) (by kernel_rfl) (by kernel_rfl) (by kernel_rfl) (fun _ _ _ h => h) (.inl ⟨by rfl, ?tx7⟩) ?sx7 ?_
        case tx7 => (intro w' h; clear h; go_simp; try rfl)
        case sx7 => exact (Below.drew (Below.refl _ _))
        (try simp only [Act.put, List.setIfInBounds_toArray, List.set_cons_zero, List.set_cons_succ])
        refine wpAnyH_take (i := 8) (v := ?vx8) (by simp only [List.getElem?_toArray, List.getElem?_cons_succ, List.getElem?_cons_zero]; rfl) (by kernel_rfl) (by kernel_rfl) (by kernel_rfl) (fun _ _ _ h => h) (.inl ⟨by rfl, ?tx8⟩) ?sx8 ?_
        case tx8 => (intro w' h; clear h; go_simp; try rfl)
        case sx8 => exact (Below.drew (Below.refl _ _))
        (try simp only [Act.put, List.setIfInBounds_toArray, List.set_cons_zero, List.set_cons_succ])
        refine wpAnyH_take (i := 9) (v := ?vx9) (by simp only [List.getElem?_toArray, List.getElem?_cons_succ, List.getElem?_cons_zero]; rfl) (by kernel_rfl) (by kernel_rfl) (by kernel_rfl) (fun _ _ _ h => h) (.inl ⟨by rfl, ?tx9⟩) ?sx9 ?_
        case tx9 => (intro w' h; clear h; go_simp; try rfl)
        case sx9 => exact (Below.drew (Below.refl _ _))
        (try simp only [Act.put, List.setIfInBounds_toArray, List.set_cons_zero, List.set_cons_succ])
        refine wpAnyH_take (i := 10) (v := ?vx10) (by simp only [List.getElem?_toArray, List.getElem?_cons_succ, List.getElem?_cons_zero]; rfl) (by kernel_rfl) (by kernel_rfl) (by kernel_rfl) (fun _ _ _ h => h) (.inl ⟨by rfl, ?tx10⟩) ?sx10 ?_
        case tx10 => (intro w' h; have FK := HSF.out w' h; clear h; go_split_ands; go_simp; try rfl)
        case sx10 => exact (Below.drew (Below.refl _ _))
        (try simp only [Act.put, List.setIfInBounds_toArray, List.set_cons_zero, List.set_cons_succ])
        refine wpAnyH_take (i := 12) (v := ?vx12) (by simp only [List.getElem?_toArray, List.getElem?_cons_succ, List.getElem?_cons_zero]; rfl) (by kernel_rfl) (by kernel_rfl) (by kernel_rfl) (fun _ _ _ h => h) (.inl ⟨by rfl, ?tx12⟩) ?sx12 ?_
        case tx12 => (intro w' h; clear h; go_simp; try rfl)
        case sx12 => exact (Below.drew (Below.refl _ _))
        (try simp only [Act.put, List.setIfInBounds_toArray, List.set_cons_zero, List.set_cons_succ])
        refine wpAnyH_one (i := 11) (by kernel_rfl) ?_
        refine wpOp_call (by simp only [List.getElem?_toArray, List.getElem?_cons_succ, List.getElem?_cons_zero]; rfl) (by rfl) (by go_simp; first | exact ⟨rfl, rfl⟩ | rfl) ?_
        refine (CM.out _ (below_via (Below.drew (Below.refl wq.heap.size wq)) HK.out)).mono ?_
        rintro e5 w5 ⟨rfl, hb5⟩
        have HB5 := Lib.hid (below_via hb5 (Below.drew (Below.refl wq.heap.size wq)))
        clear hb5
        refine ⟨_, rfl, HB5.out, ?_⟩
        (try simp only [Act.put, List.setIfInBounds_toArray, List.set_cons_zero, List.set_cons_succ])
        refine wpAnyH_take (i := 13) (v := ?vx13) (by simp only [List.getElem?_toArray, List.getElem?_cons_succ, List.getElem?_cons_zero]; rfl) (by kernel_rfl) (by kernel_rfl) (by kernel_rfl) (fun _ _ _ h => h) (.inl ⟨by rfl, ?tx13⟩) ?sx13 ?_
        case tx13 => (intro w' h; clear h; go_simp; try rfl)
        case sx13 => exact HB5.out
        (try simp only [Act.put, List.setIfInBounds_toArray, List.set_cons_zero, List.set_cons_succ])
        refine wpAnyH_take (i := 14) (v := ?vx14) (by simp only [List.getElem?_toArray, List.getElem?_cons_succ, List.getElem?_cons_zero]; rfl) (by kernel_rfl) (by kernel_rfl) (by kernel_rfl) (fun _ _ _ h => h) (.inl ⟨by rfl, ?tx14⟩) ?sx14 ?_
        case tx14 => (intro w' h; clear h; go_simp; try rfl)
        case sx14 => exact HB5.out
        (try simp only [Act.put, List.setIfInBounds_toArray, List.set_cons_zero, List.set_cons_succ])
        refine wpAnyH_take (i := 15) (v := ?vx15) (by simp only [List.getElem?_toArray, List.getElem?_cons_succ, List.getElem?_cons_zero]; rfl) (by kernel_rfl) (by kernel_rfl) (by kernel_rfl) (fun _ _ _ h => h) (.inl ⟨by rfl, ?tx15⟩) ?sx15 ?_
        case tx15 => (intro w' h; clear h; go_simp; try rfl)
        case sx15 => exact HB5.out
        (try simp only [Act.put, List.setIfInBounds_toArray, List.set_cons_zero, List.set_cons_succ])
        refine wpAnyH_take (i := 16) (v := ?vx16) (by simp only [List.getElem?_toArray, List.getElem?_cons_succ, List.getElem?_cons_zero]; rfl) (by kernel_rfl) (by kernel_rfl) (by kernel_rfl) (fun _ _ _ h => h) (.inl ⟨by rfl, ?tx16⟩) ?sx16 ?_
        case tx16 => (intro w' h; clear h; go_simp; try rfl)
        case sx16 => exact HB5.out
        (try simp only [Act.put, List.setIfInBounds_toArray, List.set_cons_zero, List.set_cons_succ])
        refine wpAnyH_take (i := 17) (v := ?vx17) (by simp only [List.getElem?_toArray, List.getElem?_cons_succ, List.getElem?_cons_zero]; rfl) (by kernel_rfl) (by kernel_rfl) (by kernel_rfl) (fun _ _ _ h => h) (.inl ⟨by rfl, ?tx17⟩) ?sx17 ?_
        case tx17 => (intro w' h; clear h; go_simp; try rfl)
        case sx17 => exact HB5.out
        (try simp only [Act.put, List.setIfInBounds_toArray, List.set_cons_zero, List.set_cons_succ])
        refine wpAnyH_take (i := 18) (v := ?vx18) (by simp only [List.getElem?_toArray, List.getElem?_cons_succ, List.getElem?_cons_zero]; rfl) (by kernel_rfl) (by kernel_rfl) (by kernel_rfl) (fun _ _ _ h => h) (.inl ⟨by rfl, ?tx18⟩) ?sx18 ?_
        case tx18 => (intro w' h; clear h; go_simp; try rfl)
        case sx18 => exact HB5.out
        (try simp only [Act.put, List.setIfInBounds_toArray, List.set_cons_zero, List.set_cons_succ])
        refine wpAnyH_done (by kernel_rfl) (NoPanic.normal ?_) _
        have HK5 := Lib.hid (below_via HB5.out HK.out)
        clear HSF CM HB5
        go_wp2
        go_roundw
        case rel => exact ⟨i + 1, by go_num, by omega, HK5⟩
        case measure => simp [intOf] <;> omega
      · refine wp_region_noPanic ?_
        refine wp_region_held (S := (fun w' => Below wq.heap.size wq w')) (by kernel_rfl) ?_
        change wpAnyH _ _ _ _ _ 19 (Array.replicate 19 false) _ _
        refine wpAnyH_take (i := 0) (v := ?vy0) (by simp only [List.getElem?_toArray, List.getElem?_cons_succ, List.getElem?_cons_zero]; rfl) (by kernel_rfl) (by kernel_rfl) (by kernel_rfl) (fun _ _ _ h => h) (.inl ⟨by rfl, ?ty0⟩) ?sy0 ?_
        case ty0 => (intro w' h; clear h; go_simp; try rfl)
        case sy0 => exact (Below.drew (Below.refl _ _))
        (try simp only [Act.put, List.setIfInBounds_toArray, List.set_cons_zero, List.set_cons_succ])
        refine wpAnyH_take (i := 1) (v := ?vy1) (by simp only [List.getElem?_toArray, List.getElem?_cons_succ, List.getElem?_cons_zero]; rfl) (by kernel_rfl) (by kernel_rfl) (by kernel_rfl) (fun _ _ _ h => h) (.inl ⟨by rfl, ?ty1⟩) ?sy1 ?_
        case ty1 => (intro w' h; clear h; go_simp; try rfl)
        case sy1 => exact (Below.drew (Below.refl _ _))
        (try simp only [Act.put, List.setIfInBounds_toArray, List.set_cons_zero, List.set_cons_succ])
        refine wpAnyH_take (i := 2) (v := ?vy2) (by simp only [List.getElem?_toArray, List.getElem?_cons_succ, List.getElem?_cons_zero]; rfl) (by kernel_rfl) (by kernel_rfl) (by kernel_rfl) (fun _ _ _ h => h) (.inl ⟨by rfl, ?ty2⟩) ?sy2 ?_
        case ty2 => (intro w' h; clear h; go_simp; try rfl)
        case sy2 => exact (Below.drew (Below.refl _ _))
        (try simp only [Act.put, List.setIfInBounds_toArray, List.set_cons_zero, List.set_cons_succ])
        refine wpAnyH_take (i := 3) (v := ?vy3) (by simp only [List.getElem?_toArray, List.getElem?_cons_succ, List.getElem?_cons_zero]; rfl) (by kernel_rfl) (by kernel_rfl) (by kernel_rfl) (fun _ _ _ h => h) (.inl ⟨by rfl, ?ty3⟩) ?sy3 ?_
        case ty3 => (intro w' h; clear h; go_simp; try rfl)
        case sy3 => exact (Below.drew (Below.refl _ _))
        (try simp only [Act.put, List.setIfInBounds_toArray, List.set_cons_zero, List.set_cons_succ])
        refine wpAnyH_take (i := 4) (v := ?vy4) (by simp only [List.getElem?_toArray, List.getElem?_cons_succ, List.getElem?_cons_zero]; rfl) (by kernel_rfl) (by kernel_rfl) (by kernel_rfl) (fun _ _ _ h => h) (.inl ⟨by rfl, ?ty4⟩) ?sy4 ?_
        case ty4 => (intro w' h; clear h; go_simp; try rfl)
        case sy4 => exact (Below.drew (Below.refl _ _))
        (try simp only [Act.put, List.setIfInBounds_toArray, List.set_cons_zero, List.set_cons_succ])
        refine wpAnyH_take (i := 5) (v := ?vy5) (by simp only [List.getElem?_toArray, List.getElem?_cons_succ, List.getElem?_cons_zero]; rfl) (by kernel_rfl) (by kernel_rfl) (by kernel_rfl) (fun _ _ _ h => h) (.inl ⟨by rfl, ?ty5⟩) ?sy5 ?_
        case ty5 => (intro w' h; have FK := HSF.out w' h; clear h; go_split_ands; go_simp; try rfl)
        case sy5 => exact (Below.drew (Below.refl _ _))
        (try simp only [Act.put, List.setIfInBounds_toArray, List.set_cons_zero, List.set_cons_succ])
        refine wpAnyH_take (i := 6) (v := ?vy6) (by simp only [List.getElem?_toArray, List.getElem?_cons_succ, List.getElem?_cons_zero]; rfl) (by kernel_rfl) (by kernel_rfl) (by kernel_rfl) (fun _ _ _ h => h) (.inl ⟨by rfl, ?ty6⟩) ?sy6 ?_
        case ty6 => (intro w' h; clear h; go_simp; try rfl)
        case sy6 => exact (Below.drew (Below.refl _ _))
        (try simp only [Act.put, List.setIfInBounds_toArray, List.set_cons_zero, List.set_cons_succ])
        refine wpAnyH_take (i := 7) (v := ?vy7) (by simp only [List.getElem?_toArray, List.getElem?_cons_succ, List.getElem?_cons_zero]; rfl) (by kernel_rfl) (by kernel_rfl) (by kernel_rfl) (fun _ _ _ h => h) (.inl ⟨by rfl, ?ty7⟩) ?sy7 ?_
        case ty7 => (intro w' h; clear h; go_simp; try rfl)
        case sy7 => exact (Below.drew (Below.refl _ _))
        (try simp only [Act.put, List.setIfInBounds_toArray, List.set_cons_zero, List.set_cons_succ])
        refine wpAnyH_take (i := 8) (v := ?vy8) (by simp only [List.getElem?_toArray, List.getElem?_cons_succ, List.getElem?_cons_zero]; rfl) (by kernel_rfl) (by kernel_rfl) (by kernel_rfl) (fun _ _ _ h => h) (.inl ⟨by rfl, ?ty8⟩) ?sy8 ?_
        case ty8 => (intro w' h; clear h; go_simp; try rfl)
        case sy8 => exact (Below.drew (Below.refl _ _))
        (try simp only [Act.put, List.setIfInBounds_toArray, List.set_cons_zero, List.set_cons_succ])
        refine wpAnyH_take (i := 9) (v := ?vy9) (by simp only [List.getElem?_toArray, List.getElem?_cons_succ, List.getElem?_cons_zero]; rfl) (by kernel_rfl) (by kernel_rfl) (by kernel_rfl) (fun _ _ _ h => h) (.inl ⟨by rfl, ?ty9⟩) ?sy9 ?_
        case ty9 => (intro w' h; clear h; go_simp; try rfl)
        case sy9 => exact (Below.drew (Below.refl _ _))
        (try simp only [Act.put, List.setIfInBounds_toArray, List.set_cons_zero, List.set_cons_succ])
        refine wpAnyH_take (i := 10) (v := ?vy10) (by simp only [List.getElem?_toArray, List.getElem?_cons_succ, List.getElem?_cons_zero]; rfl) (by kernel_rfl) (by kernel_rfl) (by kernel_rfl) (fun _ _ _ h => h) (.inl ⟨by rfl, ?ty10⟩) ?sy10 ?_
        case ty10 => (intro w' h; have FK := HSF.out w' h; clear h; go_split_ands; go_simp; try rfl)
        case sy10 => exact (Below.drew (Below.refl _ _))
        (try simp only [Act.put, List.setIfInBounds_toArray, List.set_cons_zero, List.set_cons_succ])
        refine wpAnyH_take (i := 12) (v := ?vy12) (by simp only [List.getElem?_toArray, List.getElem?_cons_succ, List.getElem?_cons_zero]; rfl) (by kernel_rfl) (by kernel_rfl) (by kernel_rfl) (fun _ _ _ h => h) (.inl ⟨by rfl, ?ty12⟩) ?sy12 ?_
        case ty12 => (intro w' h; clear h; go_simp; try rfl)
        case sy12 => exact (Below.drew (Below.refl _ _))
        (try simp only [Act.put, List.setIfInBounds_toArray, List.set_cons_zero, List.set_cons_succ])
        refine wpAnyH_one (i := 11) (by kernel_rfl) ?_
        refine wpOp_call (by simp only [List.getElem?_toArray, List.getElem?_cons_succ, List.getElem?_cons_zero]; rfl) (by rfl) (by go_simp; first | exact ⟨rfl, rfl⟩ | rfl) ?_
        refine (CM.out _ (below_via (Below.drew (Below.refl wq.heap.size wq)) HK.out)).mono ?_
        rintro e5 w5 ⟨rfl, hb5⟩
        have HB5 := Lib.hid (below_via hb5 (Below.drew (Below.refl wq.heap.size wq)))
        clear hb5
        refine ⟨_, rfl, HB5.out, ?_⟩
        (try simp only [Act.put, List.setIfInBounds_toArray, List.set_cons_zero, List.set_cons_succ])
        refine wpAnyH_take (i := 13) (v := ?vy13) (by simp only [List.getElem?_toArray, List.getElem?_cons_succ, List.getElem?_cons_zero]; rfl) (by kernel_rfl) (by kernel_rfl) (by kernel_rfl) (fun _ _ _ h => h) (.inl ⟨by rfl, ?ty13⟩) ?sy13 ?_
        case ty13 => (intro w' h; clear h; go_simp; try rfl)
        case sy13 => exact HB5.out
        (try simp only [Act.put, List.setIfInBounds_toArray, List.set_cons_zero, List.set_cons_succ])
        refine wpAnyH_take (i := 14) (v := ?vy14) (by simp only [List.getElem?_toArray, List.getElem?_cons_succ, List.getElem?_cons_zero]; rfl) (by kernel_rfl) (by kernel_rfl) (by kernel_rfl) (fun _ _ _ h => h) (.inl ⟨by rfl, ?ty14⟩) ?sy14 ?_
        case ty14 => (intro w' h; clear h; go_simp; try rfl)
        case sy14 => exact HB5.out
        (try simp only [Act.put, List.setIfInBounds_toArray, List.set_cons_zero, List.set_cons_succ])
        refine wpAnyH_take (i := 15) (v := ?vy15) (by simp only [List.getElem?_toArray, List.getElem?_cons_succ, List.getElem?_cons_zero]; rfl) (by kernel_rfl) (by kernel_rfl) (by kernel_rfl) (fun _ _ _ h => h) (.inl ⟨by rfl, ?ty15⟩) ?sy15 ?_
        case ty15 => (intro w' h; clear h; go_simp; try rfl)
        case sy15 => exact HB5.out
        (try simp only [Act.put, List.setIfInBounds_toArray, List.set_cons_zero, List.set_cons_succ])
        refine wpAnyH_take (i := 16) (v := ?vy16) (by simp only [List.getElem?_toArray, List.getElem?_cons_succ, List.getElem?_cons_zero]; rfl) (by kernel_rfl) (by kernel_rfl) (by kernel_rfl) (fun _ _ _ h => h) (.inl ⟨by rfl, ?ty16⟩) ?sy16 ?_
        case ty16 => (intro w' h; clear h; go_simp; try rfl)
        case sy16 => exact HB5.out
        (try simp only [Act.put, List.setIfInBounds_toArray, List.set_cons_zero, List.set_cons_succ])
        refine wpAnyH_take (i := 17) (v := ?vy17) (by simp only [List.getElem?_toArray, List.getElem?_cons_succ, List.getElem?_cons_zero]; rfl) (by kernel_rfl) (by kernel_rfl) (by kernel_rfl) (fun _ _ _ h => h) (.inl ⟨by rfl, ?ty17⟩) ?sy17 ?_
        case ty17 => (intro w' h; clear h; go_simp; try rfl)
        case sy17 => exact HB5.out
        (try simp only [Act.put, List.setIfInBounds_toArray, List.set_cons_zero, List.set_cons_succ])
        refine wpAnyH_take (i := 18) (v := ?vy18) (by simp only [List.getElem?_toArray, List.getElem?_cons_succ, List.getElem?_cons_zero]; rfl) (by kernel_rfl) (by kernel_rfl) (by kernel_rfl) (fun _ _ _ h => h) (.inl ⟨by rfl, ?ty18⟩) ?sy18 ?_
        case ty18 => (intro w' h; clear h; go_simp; try rfl)
        case sy18 => exact HB5.out
        (try simp only [Act.put, List.setIfInBounds_toArray, List.set_cons_zero, List.set_cons_succ])
        refine wpAnyH_done (by kernel_rfl) (NoPanic.normal ?_) _
        have HK5 := Lib.hid (below_via HB5.out HK.out)
        clear HSF CM HB5
        go_wp2
        go_roundw
        case rel => exact ⟨i + 1, by go_num, by omega, HK5⟩
        case measure => simp [intOf] <;> omega
theorem RectSets_walk (p : Option Addr) (c : Nat) (S : List (Int × R4)) (x y : Int) (w : World) (hS : S.length ≤ 1048576) (hp : StpAt w p S) (hr : ∀ s ∈ S, isR s.2) : Calls Try.prog 13 #[.slice p S.length c, .int .i64 x, .int .i64 y] w fun e w' => e = .returned (.bool true) ∧ Below w.heap.size w w' := by
  have D := RectSets_D p c S x y w hS (Lib.hid hp) (Lib.hid hr)
  have C := (RectSets_C p c S x y w hS (Lib.hid hp) (Lib.hid hr)).2 (Lib.hid D)
  have B := (RectSets_B p c S x y w hS (Lib.hid hp) (Lib.hid hr)).2 (Lib.hid C)
  exact (RectSets_A p c S x y w hS (Lib.hid hp) (Lib.hid hr)).2 (Lib.hid B)
end Go.Proofs.Ytekcheccelllcaa
