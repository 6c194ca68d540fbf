/- TreeWalk: the walk. -/
import Derived.Test.YtcihihncgpddfaaLwC
namespace Go.Proofs.Ytcihihncgpddfaa
open Go.RowKit Go.Deep
set_option linter.unusedVariables false
set_option linter.unusedSimpArgs false

theorem vis_cells {w : World} {base g m c n : Nat} {t : TypeId} {L : List (Int × Int)} (h : w.ownsRow base t 2 (.slice (some ⟨g, 0, none⟩) m c) n (cellsO L)) {k : Nat} (hk : k < L.length) : w.cell? ⟨g, k * 2, none⟩ = some (.int .i64 (L.getD k (0, 0)).1) ∧ w.cell? ⟨g, k * 2 + 1, none⟩ = some (.int .i64 (L.getD k (0, 0)).2) := by
  have h1 := row_cells h (k * 2) _ (cellsO_get L (k * 2) (by omega))
  have h2 := row_cells h (k * 2 + 1) _ (cellsO_get L (k * 2 + 1) (by omega))
  rw [Nat.zero_add] at h1 h2
  unfold cellQ at h1 h2
  rw [if_pos (by omega), show k * 2 / 2 = k by omega] at h1
  rw [if_neg (by omega), show (k * 2 + 1) / 2 = k by omega] at h2
  exact ⟨h1, h2⟩
set_option maxRecDepth 100000 in
set_option maxHeartbeats 8000000 in
theorem TreeWalk_walk (pt : Option Addr) (ct : Nat) (T : List Nd) (sv : Value) (stop : List Int) (w : World) (hT : TreeAt w (.slice pt T.length ct) T) (hD : ∀ x ∈ T, NdDeep x) (hS : IntsAt w sv stop) : Calls Try.prog 6 #[.agg #[.slice pt T.length ct], sv] w fun e w' => e = .returned (.bool true) ∧ Below w.heap.size w w' := by
  have HS := Lib.hid hS
  obtain ⟨ps, cs, rfl, -⟩ := hS
  have HOK := Lib.hid hT.ok
  obtain ⟨w1, hw1⟩ : ∃ x, x = (w.alloc (.cells #[.slice pt T.length ct] 24)).alloc (.cells #[.slice ps stop.length cs] 45) := ⟨_, rfl⟩
  have B1 : Below w.heap.size w w1 := by rw [hw1]; exact below_al (below_al (Below.refl _ _) _) _
  have c1 : w1.cell? ⟨w.heap.size, 0, none⟩ = some (.slice pt T.length ct) := by rw [hw1]; simp [go_sem]
  have z1 : w.heap.size < w1.heap.size := by rw [hw1]; simp <;> omega
  have HT1 := Lib.hid (hT.later B1)
  have HB1 := Lib.hid B1
  obtain ⟨tb, htb⟩ : ∃ x, x = w.heap.size := ⟨_, rfl⟩
  have HC1 := Lib.hid c1
  have HCC := Lib.hid (fun w' (h : Below w1.heap.size w1 w') => show w'.cell? ⟨tb, 0, none⟩ = some (.slice pt T.length ct) by rw [htb, (bcell h).1 _ _ z1]; exact HC1.out)
  have HZZ := Lib.hid (fun w' (h : Below w1.heap.size w1 w') => show tb < w'.heap.size by have := h.size; omega)
  have HNB := Lib.hid (beyond_any pt ct T w1 HT1.out hD)
  obtain ⟨sb, hsb⟩ : ∃ x, x = w.heap.size + 1 := ⟨_, rfl⟩
  have s1 : w1.heap[sb]? = some (.cells #[.slice ps stop.length cs] 45 (0, 0)) := by
    rw [hw1, hsb]
    have := heap_alloc_new (w.alloc (.cells #[.slice pt T.length ct] 24)) (.cells #[.slice ps stop.length cs] 45)
    rwa [World.size_alloc] at this
  have HSB := Lib.hid s1
  have HSC := Lib.hid (fun w' (h : Below w1.heap.size w1 w') => show w'.cell? ⟨sb, 0, none⟩ = some (.slice ps stop.length cs) ∧ sb < w'.heap.size from ⟨cell_of_one ((h.block _ (lt_of_block HSB.out)).trans HSB.out), lt_of_block ((h.block _ (lt_of_block HSB.out)).trans HSB.out)⟩)
  have HS1 := Lib.hid (HS.out.later HB1.out (Nat.le_refl _))
  clear s1
  rw [← htb] at c1 z1
  clear B1 hT hD
  go_enter Try.func6, Try.ntmps6
  go_upto_region 1 with (fail)
  rw [← hw1]
  simp only [← hsb]
  rw [← htb]
  clear hw1 htb hsb
  go_wp2_with fail
  refine HNB.out.mono ?_
  clear HNB
  rintro e w2 ⟨rfl, hb2⟩
  have c2 := HCC.out w2 hb2
  have z2 := HZZ.out w2 hb2
  have HB2 := Lib.hid hb2
  clear c1 z1 hb2
  by_cases hbig : 134217728 < sumW T
  · rw [decide_eq_true hbig]
    go_wp2
    go_ret
    exact ⟨rfl, below_via HB2.out HB1.out⟩
  · rw [decide_eq_false hbig]
    have HNK := Lib.hid (not_beyond hbig)
    clear hbig
    obtain ⟨s2, s2z⟩ := HSC.out w2 HB2.out
    go_wp2_with fail
    refine (ref_Walk_any pt ct T _ stop w2 (HT1.out.later HB2.out) (HS1.out.later HB2.out (Nat.le_refl _))).mono ?_
    rintro e w3 ⟨vw, rfl, ownw, hb3⟩
    have HB3 := Lib.hid (below_via hb3 HB2.out)
    have c3 := HCC.out w3 HB3.out
    have z3 := HZZ.out w3 HB3.out
    have OW3 := Lib.hid ownw
    clear c2 z2 s2 s2z hb3 ownw
    go_wp2_with fail
    refine (lent_any pt ct T w3 (HT1.out.later HB3.out) HNK.out.1 HNK.out.2).mono ?_
    rintro e wl ⟨tv, full, vk, vc, rfl, LA, hbl⟩
    obtain ⟨g, cg, qk, dk, qc, dc, rfl, rfl, rfl, rfl⟩ := LA.forms
    obtain ⟨w4, hw4⟩ : ∃ x, x = wl.alloc (.cells #[.slice (some ⟨g, 0, none⟩) T.length cg, .slice (some ⟨g, 0, none⟩) (T.length + 2) cg, .slice qk T.length dk, .slice qc T.length dc] 29) := ⟨_, rfl⟩
    have Bl4 : Below wl.heap.size wl w4 := by rw [hw4]; exact below_al (Below.refl _ _) _
    have HB4 := Lib.hid (below_via Bl4 (below_via hbl HB3.out))
    have HL4 := Lib.hid (LA.later Bl4)
    obtain ⟨xb, hxb⟩ : ∃ x, x = wl.heap.size := ⟨_, rfl⟩
    have HXK := Lib.hid (show w4.heap[xb]? = some (.cells #[.slice (some ⟨g, 0, none⟩) T.length cg, .slice (some ⟨g, 0, none⟩) (T.length + 2) cg, .slice qk T.length dk, .slice qc T.length dc] 29 (0, 0)) by rw [hw4, hxb]; exact heap_alloc_new _ _)
    have HXC := Lib.hid (fun w' (h : Below w4.heap.size w4 w') => show w'.cell? ⟨xb, 0, none⟩ = some (.slice (some ⟨g, 0, none⟩) T.length cg) ∧ w'.cell? ⟨xb, 1, none⟩ = some (.slice (some ⟨g, 0, none⟩) (T.length + 2) cg) ∧ w'.cell? ⟨xb, 2, none⟩ = some (.slice qk T.length dk) ∧ w'.cell? ⟨xb, 3, none⟩ = some (.slice qc T.length dc) ∧ xb < w'.heap.size from by
      have hx := (h.block _ (lt_of_block HXK.out)).trans HXK.out
      exact ⟨blk_cell (cs := [.slice (some ⟨g, 0, none⟩) T.length cg, .slice (some ⟨g, 0, none⟩) (T.length + 2) cg, .slice qk T.length dk, .slice qc T.length dc]) hx rfl, blk_cell (cs := [.slice (some ⟨g, 0, none⟩) T.length cg, .slice (some ⟨g, 0, none⟩) (T.length + 2) cg, .slice qk T.length dk, .slice qc T.length dc]) hx rfl, blk_cell (cs := [.slice (some ⟨g, 0, none⟩) T.length cg, .slice (some ⟨g, 0, none⟩) (T.length + 2) cg, .slice qk T.length dk, .slice qc T.length dc]) hx rfl, blk_cell (cs := [.slice (some ⟨g, 0, none⟩) T.length cg, .slice (some ⟨g, 0, none⟩) (T.length + 2) cg, .slice qk T.length dk, .slice qc T.length dc]) hx rfl, lt_of_block hx⟩)
    obtain ⟨x4, -, -, -, y4⟩ := HXC.out w4 (Below.refl _ _)
    have BlF := Bl4
    have hblF := hbl
    clear c3 z3 Bl4 hbl LA
    go_upto_region 5 with (fail)
    rw [← hw4, ← hxb]
    clear hw4 hxb
    have OW4 := Lib.hid (row_later OW3.out (show Below w3.heap.size w3 w4 from below_via BlF hblF))
    clear OW3 BlF hblF
    have HLT := Lib.hid (HL4.out.at_ HOK.out)
    have hs4 : w4.heap[sb]? = some (.cells #[.slice ps stop.length cs] 45 (0, 0)) := (HB4.out.block _ (lt_of_block HSB.out)).trans HSB.out
    have V := walk_visitor w4 w4.heap.size sb (.slice ps stop.length cs) stop T hs4 (HS1.out.later HB4.out (Nat.le_refl _))
    have HI : InvW w4 w4.heap.size [] (fun b => b = w4.heap.size) (w4.alloc (.cells #[.slice none 0 0] 46)) := by
      refine ⟨.slice none 0 0, ⟨below_al (Below.refl _ _) _, heap_alloc_new _ _, ⟨rfl, .inl ⟨rfl, rfl⟩⟩, Nat.le_refl _⟩, fun b => ⟨.inl, fun h => h.elim id (fun h => by simp [Value.ownBlock] at h)⟩⟩
    obtain ⟨w5, hw5⟩ : ∃ x, x = w4.alloc (.cells #[.slice none 0 0] 46) := ⟨_, rfl⟩
    rw [← hw5] at HI
    have HW := Lib.hid (walk_ok V (some ⟨g, 0, none⟩) cg HLT.out [] _ w5 (fun h => ok_walk (stepV_one stop) T h [] rfl) HI)
    have hmf : ∀ (fn : Fn) (first cap : Array Value) (w : World), (Instr.makeFunc fn first cap).run Try.prog w = .ok (.func fn first cap) w := fun _ _ _ _ => rfl
    obtain ⟨bl, hbl⟩ : ∃ x, x = w4.heap.size := ⟨_, rfl⟩
    have B45 : Below w4.heap.size w4 w5 := by rw [hw5]; exact below_al (Below.refl _ _) _
    obtain ⟨x5, -, -, -, y5⟩ := HXC.out w5 B45
    have HSF := Lib.hid (show sb < w4.heap.size from lt_of_block hs4)
    clear V HI hs4 x4 y4
    go_upto_region 6 with (fail)
    rw [← hw5, ← hbl]
    rw [← hbl] at HW
    have HBLE := Lib.hid hbl
    clear hw5 hbl
    go_wp2_with fail
    refine HW.out.mono ?_
    clear HW
    rintro e w6 ⟨rfl, O', ⟨vg, hI, -⟩, -, -, -⟩
    have HI6 := Lib.hid hI
    have HM6 := Lib.hid hI.be
    obtain ⟨x6, -, -, -, y6⟩ := HXC.out w6 HM6.out
    clear x5 y5 hI B45
    go_wp2_with fail
    refine (tree_Walk_nil _ cg T w6 (HLT.out.later HM6.out)).mono ?_
    rintro e w7 ⟨rfl, hb7⟩
    have HI7 := Lib.hid (HI6.out.later hb7)
    have HM7 := Lib.hid (below_via hb7 HM6.out)
    have OW7 := Lib.hid (row_later OW4.out HM7.out)
    clear hb7 x6 y6 HI6 HM6 OW4 hmf
    have OG7 := HI7.out.own
    rw [show walkS (stepV stop) T [] = visL T stop from rfl] at OG7
    obtain ⟨VV, hVV⟩ : ∃ x, x = visL T stop := ⟨_, rfl⟩
    rw [← hVV] at OG7 OW7
    have hvl : VV.length ≤ 4096 := by rw [hVV]; exact (len_walk (stepV_one stop) T [] rfl).2
    obtain ⟨pg, kg, rfl⟩ : ∃ q c, vg = .slice q VV.length c := by
      rcases row_form OG7 with ⟨h1, h2, _⟩ | ⟨g, c, h1, _⟩
      · exact ⟨none, 0, by rw [h2]; exact h1⟩
      · exact ⟨_, _, h1⟩
    obtain ⟨pw, kw, rfl⟩ : ∃ q c, vw = .slice q VV.length c := by
      rcases row_form OW7.out with ⟨h1, h2, _⟩ | ⟨g, c, h1, _⟩
      · exact ⟨none, 0, by rw [h2]; exact h1⟩
      · exact ⟨_, _, h1⟩
    have g7 : w7.heap[bl]? = some (.cells #[.slice pg VV.length kg] 46 (0, 0)) := HI7.out.lb
    have HG7 := Lib.hid g7
    have HOG := Lib.hid OG7
    have u7 := cell_of_one g7
    have u7z := lt_of_block g7
    clear OG7 g7 HI7 hVV
    have bq : ((VV.length : Int) == (VV.length : Int)) = true := by rw [beq_iff_eq]
    go_upto_region 10 with (fail)
    clear bq
    go_wp2
    go_loopw [8] (fun iv wr => ∃ k : Nat, k ≤ VV.length ∧ iv = .int .i64 k ∧ RowKit.Hid (Below w7.heap.size w7 wr)) (fun iv _ => VV.length - (intOf iv).toNat)
    case atStart => exact ⟨0, Nat.zero_le _, rfl, Lib.hid (Below.refl _ _)⟩
    case round =>
      clear u7 u7z
      obtain ⟨k, hk, rfl, BW⟩ := hrel
      have u7 := cell_of_one ((BW.out.block _ (lt_of_block HG7.out)).trans HG7.out)
      have u7z := lt_of_block ((BW.out.block _ (lt_of_block HG7.out)).trans HG7.out)
      by_cases hlt : k < VV.length
      · have hki : (k : Int) < (VV.length : Int) := by omega
        have RG := row_later HOG.out BW.out
        have RW := row_later OW7.out BW.out
        obtain ⟨g1, hg1⟩ : ∃ g, pg = some ⟨g, 0, none⟩ := by
          rcases row_form RG with ⟨_, h0, _⟩ | ⟨g, c, h1, _⟩
          · omega
          · injection h1 with h1; exact ⟨g, h1⟩
        obtain ⟨g2, hg2⟩ : ∃ g, pw = some ⟨g, 0, none⟩ := by
          rcases row_form RW with ⟨_, h0, _⟩ | ⟨g, c, h1, _⟩
          · omega
          · injection h1 with h1; exact ⟨g, h1⟩
        subst hg1 hg2
        obtain ⟨d1, d2⟩ := vis_cells RG hlt
        obtain ⟨d3, d4⟩ := vis_cells RW hlt
        have zg1 := (row_lt RG g1 rfl).1
        have zg2 := (row_lt RW g2 rfl).1
        generalize VV.getD k (0, 0) = ab at d1 d2 d3 d4
        obtain ⟨aa, bb⟩ := ab
        simp only at d1 d2 d3 d4
        have ba : (aa == aa) = true := by rw [beq_iff_eq]
        have bbq : (bb == bb) = true := by rw [beq_iff_eq]
        clear RG RW
        go_upto_region 13 with (fail)
        go_quiet (fail)
        all_goals go_wp2
        go_roundw
        case rel => exact ⟨k + 1, by omega, by go_num, Lib.hid (below_drewN_ BW.out _)⟩
        case measure => simp [intOf]; omega
      · obtain rfl : k = VV.length := by omega
        have HMr := Lib.hid (below_via BW.out HM7.out)
        have HBr := Lib.hid (below_via HMr.out HB4.out)
        have cr := HCC.out wr HBr.out
        have zr := HZZ.out wr HBr.out
        obtain ⟨xr0, xr1, xr2, xr3, yr⟩ := HXC.out wr HMr.out
        clear hlt hk
        go_wp2_with fail
        refine (stays_any _ _ _ _ pt ct T _ wr (HL4.out.later HMr.out) (HT1.out.later HBr.out)).mono ?_
        rintro e ws ⟨rfl, hbs⟩
        have HBs := Lib.hid (below_via hbs HBr.out)
        clear hbs
        go_wp2_with fail
        refine (wakes_any _).mono ?_
        rintro e wf ⟨rfl, hbf⟩
        have BF := Lib.hid (below_via (below_via hbf HBs.out) HB1.out)
        clear hbf
        go_wp2
        go_ret
        exact ⟨rfl, BF.out⟩
end Go.Proofs.Ytcihihncgpddfaa
