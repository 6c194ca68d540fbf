/- own; the walk of RectAround. -/
import Derived.Test.YtekcheccelllcaaRctX
import Derived.Deep.RegionWith
namespace Go.Proofs.Ytekcheccelllcaa
open Go.RowKit
set_option linter.unusedVariables false
set_option linter.unusedSimpArgs false

set_option maxRecDepth 100000 in
set_option maxHeartbeats 4000000 in
theorem own_any (x y a b : Int) (w : World) (h : OwnF ⟨x, y, a, b⟩) : Calls Try.prog 23 #[.agg #[.int .i64 x, .int .i64 y, .int .i64 a, .int .i64 b]] w fun e w' => e = .returned (.bool true) ∧ Below w.heap.size w w' := by
  rcases h with h | h
  · obtain ⟨rfl, rfl, rfl, rfl⟩ : x = 0 ∧ y = 0 ∧ a = 0 ∧ b = 0 := by simpa [zR] using h
    go_enter Try.func23, Try.ntmps23
    go_wp2
    go_ret
    exact ⟨rfl, by go_grown⟩
  · simp only [] at h
    obtain ⟨h1, h2, h3, h4, h5, h6, h7, h8⟩ := h
    have h0 : a ≠ 0 := by omega
    go_enter Try.func23, Try.ntmps23
    go_wp2
    go_ret
    exact ⟨by simp [*], by go_grown⟩

set_option maxRecDepth 100000 in
set_option maxHeartbeats 16000000 in
theorem RectAround_walk (p : Option Addr) (len cap : Nat) (L : List R4) (w : World) (hL : L.length = len) (hlen : len * 32 ≤ 140737488351232) (hp : SlAt w p L) (hr : ∀ r ∈ L, isR r) : Calls Try.prog 7 #[.slice p len cap] w fun e w' => e = .returned (.bool true) ∧ Below w.heap.size w w' := by
  have HC := Lib.hid hp
  have HR := Lib.hid hr
  have HL := Lib.hid hL
  clear hp hr hL
  go_enter Try.func7, Try.ntmps7
  go_wp2_with fail
  refine (rect_Bound_any _ _ _ L _ HL.out (by omega) HC.out HR.out).mono ?_
  rintro e w1 ⟨rfl, hb1⟩
  have B1 : Below w.heap.size w w1 := hb1
  have S1 := B1.size
  clear hb1
  go_wp2_with fail
  refine (own_any _ _ _ _ _ (ownF_bound L)).mono ?_
  rintro e w2 ⟨rfl, hb2⟩
  have B2 : Below w.heap.size w w2 := below_via hb2 (by go_grown)
  have S2 := B2.size
  have F2 : w1.heap.size < w2.heap.size ∧ w2.cell? ⟨w1.heap.size, 0, none⟩ = some (.int .i64 (boundR L).x) ∧ w2.cell? ⟨w1.heap.size, 1, none⟩ = some (.int .i64 (boundR L).y) ∧ w2.cell? ⟨w1.heap.size, 2, none⟩ = some (.int .i64 (boundR L).w) ∧ w2.cell? ⟨w1.heap.size, 3, none⟩ = some (.int .i64 (boundR L).h) := by
    obtain ⟨hc, hf⟩ := bcell hb2
    have hz := hb2.size
    (try simp only [World.size_alloc, World.size_drew, World.size_setCell] at hz)
    (repeat' apply And.intro) <;> (first | omega | (rw [hc _ _ (by first | omega | (simp only [World.size_alloc, World.size_drew, World.size_setCell]; omega))]; first | (simp [go_sem]; done) | (simp [*]; done)) | (rw [hf _ _ (by first | omega | (simp only [World.size_alloc, World.size_drew, World.size_setCell]; omega))]; first | (simp [go_sem]; done) | (simp [*]; done)))
  clear hb2
  go_wp2
  go_loopw [4, 5, 6, 7, 8, 9] (fun l u r d a i wr => ∃ k : Nat, k ≤ len ∧ i = .int .i64 k ∧ l = .bool (seen (sd 0 (boundR L)) L k) ∧ u = .bool (seen (sd 1 (boundR L)) L k) ∧ r = .bool (seen (sd 2 (boundR L)) L k) ∧ d = .bool (seen (sd 3 (boundR L)) L k) ∧ a = .bool (acc L k).any ∧ (w1.heap.size < wr.heap.size ∧ wr.cell? ⟨w1.heap.size, 0, none⟩ = some (.int .i64 (boundR L).x) ∧ wr.cell? ⟨w1.heap.size, 1, none⟩ = some (.int .i64 (boundR L).y) ∧ wr.cell? ⟨w1.heap.size, 2, none⟩ = some (.int .i64 (boundR L).w) ∧ wr.cell? ⟨w1.heap.size, 3, none⟩ = some (.int .i64 (boundR L).h)) ∧ Below w.heap.size w wr) (fun _ _ _ _ _ i _ => len - (intOf i).toNat)
  case atStart => exact ⟨0, Nat.zero_le _, rfl, rfl, rfl, rfl, rfl, rfl, F2, B2⟩
  case round =>
    rename_i wr
    obtain ⟨k, hk, rfl, rfl, rfl, rfl, rfl, rfl, FW, BW⟩ := hrel
    by_cases hlt : k < len
    · obtain ⟨b, off, rfl, hb, hc⟩ := HC.out (by rw [HL.out]; omega)
      have HK := Lib.hid hc
      obtain ⟨c0, c1, c2, c3⟩ := (hc.later BW hb) k (by rw [HL.out]; exact hlt)
      have ir := HR.out (L.getD k zR) (by rw [List.getD_eq_getElem?_getD, List.getElem?_eq_getElem (by rw [HL.out]; exact hlt)]; simp)
      have hs := Lib.hid (acc_succ L k (by rw [HL.out]; exact hlt))
      have hq := Lib.hid (fun Q => seen_succ Q L k (by rw [HL.out]; exact hlt))
      have hm := Lib.hid (meet_bound L k (by rw [HL.out]; exact hlt))
      generalize L.getD k zR = r at *
      have S0 := BW.size
      clear hc
      obtain ⟨rx, ry, rw_, rh⟩ := r
      have irx := ir.x; have iry := ir.y; have irw := ir.w; have irh := ir.h
      simp only [] at c0 c1 c2 c3 irx iry irw irh
      clear ir
      have hb' : b < wr.heap.size := by omega
      go_wp2
      go_cut [10] (fun s wx => ∃ q, s = .pointer (some ⟨q, 0, none⟩) ∧ (q < wx.heap.size ∧ w1.heap.size < wx.heap.size ∧ wx.cell? ⟨q, 0, none⟩ = some (.int .i64 (meetR ⟨rx, ry, rw_, rh⟩ ⟨rx, ry, rw_, rh⟩).x) ∧ wx.cell? ⟨q, 1, none⟩ = some (.int .i64 (meetR ⟨rx, ry, rw_, rh⟩ ⟨rx, ry, rw_, rh⟩).y) ∧ wx.cell? ⟨q, 2, none⟩ = some (.int .i64 (meetR ⟨rx, ry, rw_, rh⟩ ⟨rx, ry, rw_, rh⟩).w) ∧ wx.cell? ⟨q, 3, none⟩ = some (.int .i64 (meetR ⟨rx, ry, rw_, rh⟩ ⟨rx, ry, rw_, rh⟩).h) ∧ wx.cell? ⟨w1.heap.size, 0, none⟩ = some (.int .i64 (boundR L).x) ∧ wx.cell? ⟨w1.heap.size, 1, none⟩ = some (.int .i64 (boundR L).y) ∧ wx.cell? ⟨w1.heap.size, 2, none⟩ = some (.int .i64 (boundR L).w) ∧ wx.cell? ⟨w1.heap.size, 3, none⟩ = some (.int .i64 (boundR L).h)) ∧ q ≠ w1.heap.size ∧ Below wr.heap.size wr wx)
      case first =>
        go_region_with (go_at_call 24; refine (rect_Meet_any _ _ _ _ _ _ _ _ _ irx iry irw irh irx iry irw irh).mono ?_; rintro e w5 ⟨rfl, hb5⟩; have G5 : Below wr.heap.size wr w5 := below_via hb5 (by go_grown); obtain ⟨hc5, hf5⟩ := bcell hb5; have hz5 := hb5.size; (try simp only [World.size_drew, World.size_alloc] at hz5); (try have FT : wr.heap.size < w5.heap.size ∧ w5.cell? ⟨wr.heap.size, 0, none⟩ = some (.int .i64 0) ∧ w5.cell? ⟨wr.heap.size, 1, none⟩ = some (.int .i64 0) ∧ w5.cell? ⟨wr.heap.size, 2, none⟩ = some (.int .i64 0) ∧ w5.cell? ⟨wr.heap.size, 3, none⟩ = some (.int .i64 0) ∧ w5.frozen? ⟨wr.heap.size, 0, none⟩ = false ∧ w5.frozen? ⟨wr.heap.size, 1, none⟩ = false ∧ w5.frozen? ⟨wr.heap.size, 2, none⟩ = false ∧ w5.frozen? ⟨wr.heap.size, 3, none⟩ = false := (by (refine ⟨by omega, ?_⟩; ((repeat' apply And.intro) <;> first | (rw [hc5 _ _ (by simp only [World.size_drew, World.size_alloc]; omega)]; simp [go_sem]; done) | (rw [hf5 _ _ (by simp only [World.size_drew, World.size_alloc]; omega)]; simp [go_sem]; done))))); have FV : w1.heap.size < w5.heap.size ∧ w5.cell? ⟨w1.heap.size, 0, none⟩ = some (.int .i64 (boundR L).x) ∧ w5.cell? ⟨w1.heap.size, 1, none⟩ = some (.int .i64 (boundR L).y) ∧ w5.cell? ⟨w1.heap.size, 2, none⟩ = some (.int .i64 (boundR L).w) ∧ w5.cell? ⟨w1.heap.size, 3, none⟩ = some (.int .i64 (boundR L).h) := (by (refine ⟨by omega, ?_⟩; ((repeat' apply And.intro) <;> first | (rw [hc5 _ _ (by simp only [World.size_drew, World.size_alloc]; omega)]; simp [go_sem, FW]; done)))))
        all_goals go_wp2
        all_goals go_meet
        all_goals refine ⟨_, rfl, ?_, by omega, by go_grown⟩
        all_goals first
          | (simp [go_sem, FV, Nat.lt_succ_of_lt FV.1]; done)
          | (obtain ⟨x1, e1, p0, p1, p2, p3, po, pf, ps⟩ := set4 FT.2.1 FT.2.2.1 FT.2.2.2.1 FT.2.2.2.2.1 (.int .i64 (meetR ⟨rx, ry, rw_, rh⟩ ⟨rx, ry, rw_, rh⟩).x) (.int .i64 (meetR ⟨rx, ry, rw_, rh⟩ ⟨rx, ry, rw_, rh⟩).y) (.int .i64 (meetR ⟨rx, ry, rw_, rh⟩ ⟨rx, ry, rw_, rh⟩).w) (.int .i64 (meetR ⟨rx, ry, rw_, rh⟩ ⟨rx, ry, rw_, rh⟩).h)
             rw [← e1]
             simp [go_sem, p0, p1, p2, p3, po, pf, ps, FV, FT, show w1.heap.size ≠ wr.heap.size by omega])
      case rest =>
        obtain ⟨q, rfl, FC, hqn, BC⟩ := hcut
        obtain ⟨hcC, hfC⟩ := bcell BC
        rw [← hcC _ _ hb'] at c0 c1 c2 c3
        have BW' : Below w.heap.size w wc := below_via BC BW
        have S1' := BW'.size
        have hb'' : b < wc.heap.size := Nat.lt_of_lt_of_le hb S1'
        clear hcC hfC BC BW FW S0
        go_wp2_with fail
        refine (rect_Empty_any _ _ _ _ _ irx iry irw irh).mono ?_
        cases ok : okB rx ry rw_ rh
        · rintro e w6 ⟨rfl, hb6⟩
          have B6 : Below w.heap.size w w6 := below_via hb6 BW'
          have S6 := B6.size
          have F6 : w1.heap.size < w6.heap.size ∧ w6.cell? ⟨w1.heap.size, 0, none⟩ = some (.int .i64 (boundR L).x) ∧ w6.cell? ⟨w1.heap.size, 1, none⟩ = some (.int .i64 (boundR L).y) ∧ w6.cell? ⟨w1.heap.size, 2, none⟩ = some (.int .i64 (boundR L).w) ∧ w6.cell? ⟨w1.heap.size, 3, none⟩ = some (.int .i64 (boundR L).h) := by
            obtain ⟨hc, hf⟩ := bcell hb6
            have hz := hb6.size
            (try simp only [World.size_alloc, World.size_drew, World.size_setCell] at hz)
            (repeat' apply And.intro) <;> (first | omega | (rw [hc _ _ (by first | omega | (simp only [World.size_alloc, World.size_drew, World.size_setCell]; omega))]; first | (simp [go_sem, FC]; done) | (simp [*]; done)) | (rw [hf _ _ (by first | omega | (simp only [World.size_alloc, World.size_drew, World.size_setCell]; omega))]; first | (simp [go_sem, FC]; done) | (simp [*]; done)))
          have e1 := Lib.hid (show acc L (k + 1) = acc L k by rw [hs.out]; unfold accStep okR4; rw [ok]; rfl)
          have e2 := Lib.hid (fun Q => show seen Q L (k + 1) = seen Q L k by rw [hq.out]; unfold okR4; rw [ok]; simp)
          clear hb6 c0 c1 c2 c3 FC hs hq hm ok
          go_wp2
          go_roundw
          case rel => exact ⟨k + 1, by omega, by go_num, by rw [e2.out], by rw [e2.out], by rw [e2.out], by rw [e2.out], by rw [e1.out], F6, B6⟩
          case measure => simp [intOf]; omega
        · rintro e w6 ⟨rfl, hb6⟩
          have B6 : Below w.heap.size w w6 := below_via hb6 BW'
          have S6 := B6.size
          have ms := meet_self ⟨rx, ry, rw_, rh⟩ ok
          have hown : OwnF ⟨rlo rx, rlo ry, rhi rx rw_ - rlo rx, rhi ry rh - rlo ry⟩ := by
            have := ownF_meet ⟨rx, ry, rw_, rh⟩ ⟨rx, ry, rw_, rh⟩
            rw [ms] at this; exact this
          have HO := Lib.hid hown
          have hm' := hm.out ok
          rw [ms] at hm'
          have HM := Lib.hid (show meetR ⟨rlo rx, rlo ry, rhi rx rw_ - rlo rx, rhi ry rh - rlo ry⟩ ⟨(boundR L).x, (boundR L).y, (boundR L).w, (boundR L).h⟩ = ⟨rlo rx, rlo ry, rhi rx rw_ - rlo rx, rhi ry rh - rlo ry⟩ from hm')
          rw [ms] at FC
          simp only [] at FC
          have F6 : q < w6.heap.size ∧ w1.heap.size < w6.heap.size ∧ w6.cell? ⟨q, 0, none⟩ = some (.int .i64 (rlo rx)) ∧ w6.cell? ⟨q, 1, none⟩ = some (.int .i64 (rlo ry)) ∧ w6.cell? ⟨q, 2, none⟩ = some (.int .i64 (rhi rx rw_ - rlo rx)) ∧ w6.cell? ⟨q, 3, none⟩ = some (.int .i64 (rhi ry rh - rlo ry)) ∧ w6.cell? ⟨w1.heap.size, 0, none⟩ = some (.int .i64 (boundR L).x) ∧ w6.cell? ⟨w1.heap.size, 1, none⟩ = some (.int .i64 (boundR L).y) ∧ w6.cell? ⟨w1.heap.size, 2, none⟩ = some (.int .i64 (boundR L).w) ∧ w6.cell? ⟨w1.heap.size, 3, none⟩ = some (.int .i64 (boundR L).h) := by
            obtain ⟨hc, hf⟩ := bcell hb6
            have hz := hb6.size
            (try simp only [World.size_alloc, World.size_drew, World.size_setCell] at hz)
            (repeat' apply And.intro) <;> (first | omega | (rw [hc _ _ (by first | omega | (simp only [World.size_alloc, World.size_drew, World.size_setCell]; omega))]; first | (simp [go_sem, FC]; done) | (simp [*]; done)) | (rw [hf _ _ (by first | omega | (simp only [World.size_alloc, World.size_drew, World.size_setCell]; omega))]; first | (simp [go_sem, FC]; done) | (simp [*]; done)))
          have e1 := Lib.hid (show (acc L (k + 1)).any = true by rw [hs.out]; unfold accStep okR4; rw [ok]; cases (acc L k).any <;> rfl)
          have e2 := Lib.hid (fun Q => show seen Q L (k + 1) = (seen Q L k || Q ⟨rx, ry, rw_, rh⟩) by rw [hq.out]; unfold okR4; rw [ok]; simp)
          have ok' := okB_spec.1 ok
          have iB : isR (boundR L) := isR_mk _ _ _ _
          have iBx := iB.x; have iBy := iB.y; have iBw := iB.w; have iBh := iB.h
          have IB := Lib.hid (show _ ∧ _ ∧ _ ∧ _ from ⟨iBx, iBy, iBw, iBh⟩)
          have bB : -1048576 ≤ (boundR L).x ∧ (boundR L).x ≤ 1048576 ∧ 0 ≤ (boundR L).w ∧ (boundR L).w ≤ 2097152 ∧ -1048576 ≤ (boundR L).y ∧ (boundR L).y ≤ 1048576 ∧ 0 ≤ (boundR L).h ∧ (boundR L).h ≤ 2097152 := by
            rcases ownF_bound L with h | h
            · rw [h]; simp [zR]
            · omega
          have k2 := rlo_bd rx; have k3 := rlo_bd ry; have k4 := rhi_bd rx rw_; have k5 := rhi_bd ry rh
          clear hb6 c0 c1 c2 c3 FC hs hq hm ok ms hown hm' iB iBx iBy iBw iBh
          go_wp2
          go_region_held3 (fun w' => q < w'.heap.size ∧ w1.heap.size < w'.heap.size ∧ w'.cell? ⟨q, 0, none⟩ = some (.int .i64 (rlo rx)) ∧ w'.cell? ⟨q, 1, none⟩ = some (.int .i64 (rlo ry)) ∧ w'.cell? ⟨q, 2, none⟩ = some (.int .i64 (rhi rx rw_ - rlo rx)) ∧ w'.cell? ⟨q, 3, none⟩ = some (.int .i64 (rhi ry rh - rlo ry)) ∧ w'.cell? ⟨w1.heap.size, 0, none⟩ = some (.int .i64 (boundR L).x) ∧ w'.cell? ⟨w1.heap.size, 1, none⟩ = some (.int .i64 (boundR L).y) ∧ w'.cell? ⟨w1.heap.size, 2, none⟩ = some (.int .i64 (boundR L).w) ∧ w'.cell? ⟨w1.heap.size, 3, none⟩ = some (.int .i64 (boundR L).h)) (first | (simp [go_sem, F6]; done) | (simp [go_sem, *]; done) | (go_split_ands; refine ⟨by omega, ?_⟩; ((repeat' apply And.intro) <;> first | omega | (rw [hc _ _ (by omega)]; assumption))))
            (first | (go_at_call 23; refine (own_any _ _ _ _ _ HO.out).mono ?_; rintro e w8 ⟨rfl, hb⟩; obtain ⟨hc, hf⟩ := bcell hb; have hz := hb.size) | (go_at_call 24; refine (rect_Meet_any _ _ _ _ _ _ _ _ _ (by omega) (by omega) (by omega) (by omega) IB.out.1 IB.out.2.1 IB.out.2.2.1 IB.out.2.2.2).mono ?_; rw [HM.out]; rintro e w8 ⟨rfl, hb⟩; obtain ⟨hc, hf⟩ := bcell hb; have hz := hb.size))
          all_goals go_wp2
          all_goals go_roundw
          all_goals try (simp [intOf]; omega)
          all_goals refine ⟨k + 1, by omega, by go_num, (by rw [e2.out]; first | (simp [sd, *]; done) | (simp [sd, *]; rfl)), (by rw [e2.out]; first | (simp [sd, *]; done) | (simp [sd, *]; rfl)), (by rw [e2.out]; first | (simp [sd, *]; done) | (simp [sd, *]; rfl)), (by rw [e2.out]; first | (simp [sd, *]; done) | (simp [sd, *]; rfl)), by rw [e1.out], by (go_split_ands; (repeat' apply And.intro) <;> assumption), ?_⟩
          all_goals repeat (first | exact B6 | exact Below.refl _ _ | (refine below_via (by assumption) ?_) | (refine Below.drew ?_))
    · have hkl : k = len := by omega
      subst hkl
      have S0 := BW.size
      cases an : (acc L k).any
      · have hB := bound_none L (by rw [HL.out]; exact an)
        rw [hB] at FW
        simp only [zR] at FW
        go_wp2_with fail
        refine (wakes_any _).mono ?_
        rintro e w7 ⟨rfl, hb7⟩
        go_wp2
        go_ret
        exact ⟨rfl, below_via hb7 BW⟩
      · have hS := sides_all L (by rw [HL.out]; exact an)
        rw [HL.out] at hS
        obtain ⟨t0, t1, t2, t3⟩ := hS
        rw [t0, t1, t2, t3]
        clear t0 t1 t2 t3
        go_wp2_with fail
        refine (wakes_any _).mono ?_
        rintro e w7 ⟨rfl, hb7⟩
        go_wp2
        go_ret
        exact ⟨rfl, below_via hb7 BW⟩
end Go.Proofs.Ytekcheccelllcaa
