/- Layer 10: stays: is a lent tree what it was? -/
import Derived.Test.YtcihihncgpddfaaLtB
import Derived.Test.YtcihihncgpddfaaSmC
namespace Go.Proofs.Ytcihihncgpddfaa
open Go.RowKit Go.Deep
set_option linter.unusedVariables false
set_option linter.unusedSimpArgs false

theorem two_get {l m : List Value} {n : Nat} (hl : l.length = n) (j : Nat) : (l ++ m)[n + j]? = m[j]? := by
  rw [List.getElem?_append_right (by omega), hl, Nat.add_sub_cancel_left]
set_option maxRecDepth 100000 in
set_option maxHeartbeats 16000000 in
theorem stays_any (tv full vk vc : Value) (p : Option Addr) (c : Nat) (T : List Nd) (B : Nat) (w : World) (hL : LentAt w B tv full vk vc T) (hT : TreeAt w (.slice p T.length c) T) : Calls Try.prog 17 #[.agg #[tv, full, vk, vc], .agg #[.slice p T.length c]] w fun e w' => e = .returned (.bool true) ∧ Below w.heap.size w w' := by
  obtain ⟨q, cq, hq, hTL⟩ := hL.tree hT.ok
  obtain ⟨rfl, kf, cf, L⟩ := hL
  obtain ⟨g, cg, rfl, hg1, hg2⟩ : ∃ g c, full = .slice (some ⟨g, 0, none⟩) (T.length + 2) c ∧ T.length + 2 ≤ c ∧ c ≤ maxLen := by
    rcases row_form L.row with ⟨_, h0, _⟩ | ⟨g, c, h1, h2, h3, _⟩
    · omega
    · exact ⟨g, c, h1, h2, h3⟩
  obtain ⟨qk, dk, rfl⟩ : ∃ q c, vk = .slice q T.length c := by
    rcases row_form L.kl with ⟨h1, h2, _⟩ | ⟨g, c, h1, _⟩
    · exact ⟨none, 0, by rw [h2]; exact h1⟩
    · exact ⟨_, _, h1⟩
  obtain ⟨qc, dc, rfl⟩ : ∃ q c, vc = .slice q T.length c := by
    rcases row_form L.cl with ⟨h1, h2, _⟩ | ⟨g, c, h1, _⟩
    · exact ⟨none, 0, by rw [h2]; exact h1⟩
    · exact ⟨_, _, h1⟩
  have hg2' : cg ≤ 9223372036854775807 := hg2
  have hTn : T.length + 2 ≤ 9223372036854775807 := by omega
  show Calls Try.prog 17 #[.agg #[.slice (some ⟨g, 0, none⟩) T.length cg, .slice (some ⟨g, 0, none⟩) (T.length + 2) cg, .slice qk T.length dk, .slice qc T.length dc], .agg #[.slice p T.length c]] w _
  obtain ⟨W1, hW1⟩ : ∃ x, x = (w.alloc (.cells #[.slice (some ⟨g, 0, none⟩) T.length cg, .slice (some ⟨g, 0, none⟩) (T.length + 2) cg, .slice qk T.length dk, .slice qc T.length dc] 29)).alloc (.cells #[.slice p T.length c] 24) := ⟨_, rfl⟩
  have B1 : Below w.heap.size w W1 := by rw [hW1]; exact below_al (below_al (Below.refl _ _) _) _
  have x0 : W1.cell? ⟨w.heap.size, 0, none⟩ = some (.slice (some ⟨g, 0, none⟩) T.length cg) := by rw [hW1]; simp [go_sem]
  have x1 : W1.cell? ⟨w.heap.size, 1, none⟩ = some (.slice (some ⟨g, 0, none⟩) (T.length + 2) cg) := by rw [hW1]; simp [go_sem]
  have x2 : W1.cell? ⟨w.heap.size, 2, none⟩ = some (.slice qk T.length dk) := by rw [hW1]; simp [go_sem]
  have x3 : W1.cell? ⟨w.heap.size, 3, none⟩ = some (.slice qc T.length dc) := by rw [hW1]; simp [go_sem]
  have t0 : W1.cell? ⟨w.heap.size + 1, 0, none⟩ = some (.slice p T.length c) := by rw [hW1]; simp [go_sem]
  have z1 : w.heap.size + 1 < W1.heap.size := by rw [hW1]; simp
  have z0 : w.heap.size < W1.heap.size := by omega
  have HL := Lib.hid (L.later B1)
  have HT1 := Lib.hid (hT.later B1)
  have HTL1 := Lib.hid (show TreeAt W1 (.slice (some ⟨g, 0, none⟩) T.length cg) T from hTL.later B1)
  have HB1 := Lib.hid B1
  have HX1 := Lib.hid x1
  have HX2 := Lib.hid x2
  have HX3 := Lib.hid x3
  have HT0 := Lib.hid t0
  clear L hT hTL hq B1 hg1 hg2
  go_enter Try.func17, Try.ntmps17
  go_upto_region 1 with (fail)
  rw [← hW1]
  clear hW1
  go_wp2_with fail
  refine (ref_Same_any _ _ _ _ T W1 HTL1.out HT1.out).mono ?_
  rintro e w2 ⟨rfl, hb2⟩
  have HB2 := Lib.hid hb2
  have y1 : w2.cell? ⟨w.heap.size, 1, none⟩ = some (.slice (some ⟨g, 0, none⟩) (T.length + 2) cg) := by rw [(bcell hb2).1 _ _ z0]; exact HX1.out
  have y1z : w.heap.size < w2.heap.size := by have := hb2.size; omega
  have HL2 := Lib.hid (HL.out.later hb2)
  have k71 : w2.cell? ⟨g, T.length * 34, none⟩ = some (.int .i8 71) := by
    have := row_cells HL2.out.row (T.length * 34) (.int .i8 71) (by rw [← Nat.add_zero (T.length * 34), two_get (ndsV_len _ _ _)]; rfl)
    rwa [Nat.zero_add] at this
  have k72 : w2.cell? ⟨g, (T.length + 1) * 34, none⟩ = some (.int .i8 72) := by
    have := row_cells HL2.out.row (T.length * 34 + 34) (.int .i8 72) (by rw [two_get (ndsV_len _ _ _)]; rfl)
    rwa [Nat.zero_add, show T.length * 34 + 34 = (T.length + 1) * 34 by omega] at this
  have zg : g < w2.heap.size := (row_lt HL2.out.row g rfl).1
  have hwt : IntKind.i64.wrap (T.length : Int) = (T.length : Int) := IntWalk.i64_in _ (by omega)
  have hwt1 : IntKind.i64.wrap ((T.length : Int) + 1) = (T.length : Int) + 1 := IntWalk.i64_in _ (by omega)
  have hn0 : 0 ≤ (T.length : Int) := by omega
  have hn1 : 0 ≤ (T.length : Int) + 1 := by omega
  have hl0 : (T.length : Int) < (T.length : Int) + 2 := by omega
  have hl1 : (T.length : Int) + 1 < (T.length : Int) + 2 := by omega
  clear x0 x1 x2 x3 t0 hb2
  go_upto_region 3 with (fail)
  clear y1 y1z k71 k72 zg HL2 hwt hwt1 hn0 hn1 hl0 hl1
  have x2 : w2.cell? ⟨w.heap.size, 2, none⟩ = some (.slice qk T.length dk) := by rw [(bcell HB2.out).1 _ _ z0]; exact HX2.out
  have x2z : w.heap.size < w2.heap.size := by have := HB2.out.size; omega
  go_wp2
  go_loopw [5] (fun iv wr => ∃ k : Nat, k ≤ T.length ∧ iv = .int .i64 k ∧ RowKit.Hid (Below W1.heap.size W1 wr)) (fun iv _ => T.length - (intOf iv).toNat)
  case atStart => exact ⟨0, Nat.zero_le _, rfl, HB2⟩
  case round =>
    clear x2 x2z
    obtain ⟨k, hk, rfl, BW⟩ := hrel
    have SW := BW.out.size
    have x2 : wr.cell? ⟨w.heap.size, 2, none⟩ = some (.slice qk T.length dk) := by rw [(bcell BW.out).1 _ _ z0]; exact HX2.out
    have y0 : w.heap.size < wr.heap.size := by omega
    have y1 : w.heap.size + 1 < wr.heap.size := by omega
    by_cases hlt : k < T.length
    · have hki : (k : Int) < (T.length : Int) := by omega
      have LW := HL.out.later BW.out
      have x3 : wr.cell? ⟨w.heap.size, 3, none⟩ = some (.slice qc T.length dc) := by rw [(bcell BW.out).1 _ _ z0]; exact HX3.out
      have t0 : wr.cell? ⟨w.heap.size + 1, 0, none⟩ = some (.slice p T.length c) := by rw [(bcell BW.out).1 _ _ z1]; exact HT0.out
      obtain ⟨gl, hgl⟩ : ∃ g, qk = some ⟨g, 0, none⟩ := by
        rcases row_form LW.kl with ⟨_, h0, _⟩ | ⟨g, c, h1, _⟩
        · omega
        · injection h1 with h1; exact ⟨g, h1⟩
      obtain ⟨gm, hgm⟩ : ∃ g, qc = some ⟨g, 0, none⟩ := by
        rcases row_form LW.cl with ⟨_, h0, _⟩ | ⟨g, c, h1, _⟩
        · omega
        · injection h1 with h1; exact ⟨g, h1⟩
      subst hgl hgm
      have rk := LW.kr k hlt
      have rc := LW.cr k hlt
      obtain ⟨nk, hnk⟩ : ∃ n, n = lnK T k := ⟨_, rfl⟩
      obtain ⟨nc, hnc⟩ : ∃ n, n = lnC T k := ⟨_, rfl⟩
      rw [← hnk] at rk
      rw [← hnc] at rc
      obtain ⟨gk, ck, hkf, hck1, hck2⟩ : ∃ g c, kf k = .slice (some ⟨g, 0, none⟩) (nk + 3) c ∧ nk + 3 ≤ c ∧ c ≤ maxLen := by
        rcases row_form rk with ⟨_, h0, _⟩ | ⟨g, c, h1, h2, h3, _⟩
        · omega
        · exact ⟨g, c, h1, h2, h3⟩
      obtain ⟨gc, cc, hcf, hcc1, hcc2⟩ : ∃ g c, cf k = .slice (some ⟨g, 0, none⟩) (nc + 2) c ∧ nc + 2 ≤ c ∧ c ≤ maxLen := by
        rcases row_form rc with ⟨_, h0, _⟩ | ⟨g, c, h1, h2, h3, _⟩
        · omega
        · exact ⟨g, c, h1, h2, h3⟩
      rw [hkf] at rk
      rw [hcf] at rc
      have l6 : wr.cell? ⟨gl, k, none⟩ = some (.slice (some ⟨gk, 0, none⟩) (nk + 3) ck) := by
        have := row_cells LW.kl k (.slice (some ⟨gk, 0, none⟩) (nk + 3) ck) (by rw [List.getElem?_map, List.getElem?_range hlt, Option.map_some, hkf])
        rwa [Nat.zero_add] at this
      have l7 : wr.cell? ⟨gm, k, none⟩ = some (.slice (some ⟨gc, 0, none⟩) (nc + 2) cc) := by
        have := row_cells LW.cl k (.slice (some ⟨gc, 0, none⟩) (nc + 2) cc) (by rw [List.getElem?_map, List.getElem?_range hlt, Option.map_some, hcf])
        rwa [Nat.zero_add] at this
      have zl : gl < wr.heap.size := (row_lt LW.kl gl rfl).1
      have zm : gm < wr.heap.size := (row_lt LW.cl gm rfl).1
      have zk : gk < wr.heap.size := (row_lt rk gk rfl).1
      have zc : gc < wr.heap.size := (row_lt rc gc rfl).1
      have IK := Lib.hid (show IntsAt wr (.slice (some ⟨gk, 0, none⟩) nk ck) (T.getD k zNd).kids by
        have := ints_cut rk (by rw [hnk]; unfold lnK; omega)
        rw [show (T.getD k zNd).kids.length = nk by rw [hnk]; rfl] at this
        exact this)
      have HRK := Lib.hid rk
      have HRC := Lib.hid rc
      have ek : ∀ j, (List.map (Value.int .i64) ((T.getD k zNd).kids ++ mkK))[nk + j]? = ([.int .i64 (-71), .int .i64 (-72), .int .i64 (-73)] : List Value)[j]? := fun j => by
        rw [List.map_append, two_get (by rw [List.length_map, hnk]; rfl)]; rfl
      have ec : ∀ j, (cellsI ((T.getD k zNd).cols ++ mkC))[nc * 5 + j]? = ([.int .i8 0, .int .i64 (-71), .int .i64 0, .int .i64 0, .int .i64 0, .int .i8 0, .int .i64 (-72), .int .i64 0, .int .i64 0, .int .i64 0] : List Value)[j]? := fun j => by
        rw [cellsI_app, two_get (by rw [cellsI_len, hnc]; rfl)]; rfl
      have K0 := Lib.hid (show wr.cell? ⟨gk, nk, none⟩ = some (.int .i64 (-71)) by have := row_cells rk (nk + 0) _ (by rw [ek]; rfl); rwa [Nat.zero_add] at this)
      have K1 := Lib.hid (show wr.cell? ⟨gk, nk + 1, none⟩ = some (.int .i64 (-72)) by have := row_cells rk (nk + 1) _ (by rw [ek]; rfl); rwa [Nat.zero_add] at this)
      have K2 := Lib.hid (show wr.cell? ⟨gk, nk + 2, none⟩ = some (.int .i64 (-73)) by have := row_cells rk (nk + 2) _ (by rw [ek]; rfl); rwa [Nat.zero_add] at this)
      have C0 := Lib.hid (show wr.cell? ⟨gc, nc * 5 + 1, none⟩ = some (.int .i64 (-71)) by have := row_cells rc (nc * 5 + 1) _ (by rw [ec]; rfl); rwa [Nat.zero_add] at this)
      have C1 := Lib.hid (show wr.cell? ⟨gc, (nc + 1) * 5 + 1, none⟩ = some (.int .i64 (-72)) by have := row_cells rc (nc * 5 + 6) _ (by rw [ec]; rfl); rwa [Nat.zero_add, show nc * 5 + 6 = (nc + 1) * 5 + 1 by omega] at this)
      obtain ⟨_, _, p', c', e, _, _, hnd⟩ := HT1.out
      injection e with e1 _ e2
      subst e1 e2
      obtain ⟨b, off, rfl, hb, hnd⟩ := hnd (by omega)
      obtain ⟨kv, cv, hkv, hcv, hc⟩ := (hnd k hlt).later BW.out (Nat.le_refl _) hb
      have IV := Lib.hid hkv
      obtain ⟨pa, ca, rfl, -⟩ := hkv
      obtain ⟨pb, cb, rfl, -⟩ := hcv
      have a3 : wr.cell? ⟨b, off + k * 34 + 3, none⟩ = some (.slice pa nk ca) := by rw [hc 3 (by omega), hnk]; rfl
      have a28 : wr.cell? ⟨b, off + k * 34 + 28, none⟩ = some (.slice pb nc cb) := by rw [hc 28 (by omega), hnc]; rfl
      have zb : b < wr.heap.size := by omega
      have IV2 := Lib.hid (show IntsAt wr (.slice pa nk ca) (T.getD k zNd).kids by rw [hnk]; exact IV.out)
      have hcm : ck ≤ 9223372036854775807 := hck2
      have hcm' : cc ≤ 9223372036854775807 := hcc2
      have q1 : IntKind.i64.wrap (nk : Int) = (nk : Int) := IntWalk.i64_in _ (by omega)
      have q2 : IntKind.i64.wrap ((nk : Int) + 1) = (nk : Int) + 1 := IntWalk.i64_in _ (by omega)
      have q3 : IntKind.i64.wrap ((nk : Int) + 2) = (nk : Int) + 2 := IntWalk.i64_in _ (by omega)
      have q4 : IntKind.i64.wrap ((nc : Int) + 1) = (nc : Int) + 1 := IntWalk.i64_in _ (by omega)
      have q5 : ((nk : Int) + 2).toNat = nk + 2 := by omega
      have h0 : 0 ≤ (nk : Int) := by omega
      have h1 : 0 ≤ (nk : Int) + 1 := by omega
      have h2 : 0 ≤ (nk : Int) + 2 := by omega
      have h3 : 0 ≤ (nc : Int) := by omega
      have h4 : 0 ≤ (nc : Int) + 1 := by omega
      have m0 : (nk : Int) < (nk : Int) + 3 := by omega
      have m1 : (nk : Int) + 1 < (nk : Int) + 3 := by omega
      have m2 : (nk : Int) + 2 < (nk : Int) + 3 := by omega
      have m3 : (nc : Int) < (nc : Int) + 2 := by omega
      have m4 : (nc : Int) + 1 < (nc : Int) + 2 := by omega
      have m5 : (nk : Int) ≤ (ck : Int) := by omega
      have A3 := Lib.hid a3
      have TT := Lib.hid t0
      clear LW rk rc hnk hnc hkf hcf ek ec hc hnd IV hck1 hck2 hcc1 hcc2
      go_upto_region 10 with (fail)
      clear l6 l7 x2 x3 a28
      have HF := Lib.hid (fun w' (h : Below wr.heap.size wr w') => show w'.cell? ⟨w.heap.size + 1, 0, none⟩ = some (.slice (some ⟨b, off, none⟩) T.length c) ∧ w'.cell? ⟨b, off + k * 34 + 3, none⟩ = some (.slice pa nk ca) ∧ w'.cell? ⟨gk, nk, none⟩ = some (.int .i64 (-71)) ∧ w'.cell? ⟨gk, nk + 1, none⟩ = some (.int .i64 (-72)) ∧ w'.cell? ⟨gk, nk + 2, none⟩ = some (.int .i64 (-73)) ∧ w'.cell? ⟨gc, nc * 5 + 1, none⟩ = some (.int .i64 (-71)) ∧ w'.cell? ⟨gc, (nc + 1) * 5 + 1, none⟩ = some (.int .i64 (-72)) ∧ w.heap.size + 1 < w'.heap.size ∧ b < w'.heap.size ∧ gk < w'.heap.size ∧ gc < w'.heap.size from by
        have hz := h.size
        refine ⟨?_, ?_, ?_, ?_, ?_, ?_, ?_, by omega, by omega, by omega, by omega⟩
        · rw [(bcell h).1 _ _ y1]; exact TT.out
        · rw [(bcell h).1 _ _ zb]; exact A3.out
        · rw [(bcell h).1 _ _ zk]; exact K0.out
        · rw [(bcell h).1 _ _ zk]; exact K1.out
        · rw [(bcell h).1 _ _ zk]; exact K2.out
        · rw [(bcell h).1 _ _ zc]; exact C0.out
        · rw [(bcell h).1 _ _ zc]; exact C1.out)
      clear t0 a3
      refine wp_region_noPanic ?_
      refine wp_region_lexH (fun w' => Below wr.heap.size wr w') (by kernel_rfl) (by kernel_rfl) (fun _ _ _ _ _ h => h) (Below.drew (Below.refl _ _)) ?_
      apply lexH_run (by rfl)
      · (intro w h; clear h; go_simp; try rfl)
      (try simp only [Act.put, List.setIfInBounds_toArray, List.set_cons_zero, List.set_cons_succ])
      apply lexH_run (by rfl)
      · (intro w h; clear h; go_simp; try rfl)
      (try simp only [Act.put, List.setIfInBounds_toArray, List.set_cons_zero, List.set_cons_succ])
      apply lexH_run (by rfl)
      · (intro w h; clear h; go_simp; try rfl)
      (try simp only [Act.put, List.setIfInBounds_toArray, List.set_cons_zero, List.set_cons_succ])
      apply lexH_run (by rfl)
      · (intro w h; clear h; go_simp; try rfl)
      (try simp only [Act.put, List.setIfInBounds_toArray, List.set_cons_zero, List.set_cons_succ])
      apply lexH_run (by rfl)
      · (intro w h; have FK := HF.out w h; clear h; go_split_ands; go_simp; try rfl)
      (try simp only [Act.put, List.setIfInBounds_toArray, List.set_cons_zero, List.set_cons_succ])
      apply lexH_run (by rfl)
      · (intro w h; clear h; go_simp; try rfl)
      (try simp only [Act.put, List.setIfInBounds_toArray, List.set_cons_zero, List.set_cons_succ])
      apply lexH_run (by rfl)
      · (intro w h; clear h; go_simp; try rfl)
      (try simp only [Act.put, List.setIfInBounds_toArray, List.set_cons_zero, List.set_cons_succ])
      apply lexH_run (by rfl)
      · (intro w h; clear h; go_simp; try rfl)
      (try simp only [Act.put, List.setIfInBounds_toArray, List.set_cons_zero, List.set_cons_succ])
      apply lexH_run (by rfl)
      · (intro w h; have FK := HF.out w h; clear h; go_split_ands; go_simp; try rfl)
      (try simp only [Act.put, List.setIfInBounds_toArray, List.set_cons_zero, List.set_cons_succ])
      refine lexH_call (by kernel_rfl) (by rfl) (by go_simp; first | exact ⟨rfl, rfl⟩ | rfl) ?_
      intro hS
      refine (same_Ints_any _ _ (T.getD k zNd).kids _ (IK.out.later hS (Nat.le_refl _)) (IV2.out.later hS (Nat.le_refl _))).mono ?_
      rintro e w5 ⟨rfl, hb5⟩
      have hb5 := below_via hb5 hS
      refine ⟨_, rfl, hb5, ?_⟩
      clear hS
      (try simp only [Act.put, List.setIfInBounds_toArray, List.set_cons_zero, List.set_cons_succ])
      apply lexH_run (by rfl)
      · (intro w h; clear h; go_simp; try rfl)
      (try simp only [Act.put, List.setIfInBounds_toArray, List.set_cons_zero, List.set_cons_succ])
      apply lexH_run (by rfl)
      · (intro w h; clear h; go_simp; try rfl)
      (try simp only [Act.put, List.setIfInBounds_toArray, List.set_cons_zero, List.set_cons_succ])
      apply lexH_run (by rfl)
      · (intro w h; clear h; go_simp; try rfl)
      (try simp only [Act.put, List.setIfInBounds_toArray, List.set_cons_zero, List.set_cons_succ])
      apply lexH_run (by rfl)
      · (intro w h; clear h; go_simp; try rfl)
      (try simp only [Act.put, List.setIfInBounds_toArray, List.set_cons_zero, List.set_cons_succ])
      apply lexH_run (by rfl)
      · (intro w h; clear h; go_simp; try rfl)
      (try simp only [Act.put, List.setIfInBounds_toArray, List.set_cons_zero, List.set_cons_succ])
      apply lexH_run (by rfl)
      · (intro w h; have FK := HF.out w h; clear h; go_split_ands; go_simp; try rfl)
      (try simp only [Act.put, List.setIfInBounds_toArray, List.set_cons_zero, List.set_cons_succ])
      apply lexH_run (by rfl)
      · (intro w h; clear h; go_simp; try rfl)
      (try simp only [Act.put, List.setIfInBounds_toArray, List.set_cons_zero, List.set_cons_succ])
      apply lexH_run (by rfl)
      · (intro w h; clear h; go_simp; try rfl)
      (try simp only [Act.put, List.setIfInBounds_toArray, List.set_cons_zero, List.set_cons_succ])
      apply lexH_run (by rfl)
      · (intro w h; clear h; go_simp; try rfl)
      (try simp only [Act.put, List.setIfInBounds_toArray, List.set_cons_zero, List.set_cons_succ])
      apply lexH_run (by rfl)
      · (intro w h; clear h; go_simp; try rfl)
      (try simp only [Act.put, List.setIfInBounds_toArray, List.set_cons_zero, List.set_cons_succ])
      apply lexH_run (by rfl)
      · (intro w h; clear h; go_simp; try rfl)
      (try simp only [Act.put, List.setIfInBounds_toArray, List.set_cons_zero, List.set_cons_succ])
      apply lexH_run (by rfl)
      · (intro w h; clear h; go_simp; try rfl)
      (try simp only [Act.put, List.setIfInBounds_toArray, List.set_cons_zero, List.set_cons_succ])
      apply lexH_run (by rfl)
      · (intro w h; clear h; go_simp; try rfl)
      (try simp only [Act.put, List.setIfInBounds_toArray, List.set_cons_zero, List.set_cons_succ])
      apply lexH_run (by rfl)
      · (intro w h; have FK := HF.out w h; clear h; go_split_ands; go_simp; try rfl)
      (try simp only [Act.put, List.setIfInBounds_toArray, List.set_cons_zero, List.set_cons_succ])
      apply lexH_run (by rfl)
      · (intro w h; clear h; go_simp; try rfl)
      (try simp only [Act.put, List.setIfInBounds_toArray, List.set_cons_zero, List.set_cons_succ])
      apply lexH_run (by rfl)
      · (intro w h; clear h; go_simp; try rfl)
      (try simp only [Act.put, List.setIfInBounds_toArray, List.set_cons_zero, List.set_cons_succ])
      apply lexH_run (by rfl)
      · (intro w h; clear h; go_simp; try rfl)
      (try simp only [Act.put, List.setIfInBounds_toArray, List.set_cons_zero, List.set_cons_succ])
      apply lexH_run (by rfl)
      · (intro w h; clear h; go_simp; try rfl)
      (try simp only [Act.put, List.setIfInBounds_toArray, List.set_cons_zero, List.set_cons_succ])
      apply lexH_run (by rfl)
      · (intro w h; clear h; go_simp; try rfl)
      (try simp only [Act.put, List.setIfInBounds_toArray, List.set_cons_zero, List.set_cons_succ])
      apply lexH_run (by rfl)
      · (intro w h; clear h; go_simp; try rfl)
      (try simp only [Act.put, List.setIfInBounds_toArray, List.set_cons_zero, List.set_cons_succ])
      apply lexH_run (by rfl)
      · (intro w h; clear h; go_simp; try rfl)
      (try simp only [Act.put, List.setIfInBounds_toArray, List.set_cons_zero, List.set_cons_succ])
      apply lexH_run (by rfl)
      · (intro w h; have FK := HF.out w h; clear h; go_split_ands; go_simp; try rfl)
      (try simp only [Act.put, List.setIfInBounds_toArray, List.set_cons_zero, List.set_cons_succ])
      apply lexH_run (by rfl)
      · (intro w h; clear h; go_simp; try rfl)
      (try simp only [Act.put, List.setIfInBounds_toArray, List.set_cons_zero, List.set_cons_succ])
      apply lexH_run (by rfl)
      · (intro w h; clear h; go_simp; try rfl)
      (try simp only [Act.put, List.setIfInBounds_toArray, List.set_cons_zero, List.set_cons_succ])
      apply lexH_run (by rfl)
      · (intro w h; clear h; go_simp; try rfl)
      (try simp only [Act.put, List.setIfInBounds_toArray, List.set_cons_zero, List.set_cons_succ])
      apply lexH_run (by rfl)
      · (intro w h; clear h; go_simp; try rfl)
      (try simp only [Act.put, List.setIfInBounds_toArray, List.set_cons_zero, List.set_cons_succ])
      apply lexH_run (by rfl)
      · (intro w h; clear h; go_simp; try rfl)
      (try simp only [Act.put, List.setIfInBounds_toArray, List.set_cons_zero, List.set_cons_succ])
      apply lexH_run (by rfl)
      · (intro w h; clear h; go_simp; try rfl)
      (try simp only [Act.put, List.setIfInBounds_toArray, List.set_cons_zero, List.set_cons_succ])
      apply lexH_run (by rfl)
      · (intro w h; clear h; go_simp; try rfl)
      (try simp only [Act.put, List.setIfInBounds_toArray, List.set_cons_zero, List.set_cons_succ])
      apply lexH_run (by rfl)
      · (intro w h; have FK := HF.out w h; clear h; go_split_ands; go_simp; try rfl)
      (try simp only [Act.put, List.setIfInBounds_toArray, List.set_cons_zero, List.set_cons_succ])
      apply lexH_run (by rfl)
      · (intro w h; clear h; go_simp; try rfl)
      (try simp only [Act.put, List.setIfInBounds_toArray, List.set_cons_zero, List.set_cons_succ])
      apply lexH_run (by rfl)
      · (intro w h; clear h; go_simp; try rfl)
      (try simp only [Act.put, List.setIfInBounds_toArray, List.set_cons_zero, List.set_cons_succ])
      apply lexH_run (by rfl)
      · (intro w h; clear h; go_simp; try rfl)
      (try simp only [Act.put, List.setIfInBounds_toArray, List.set_cons_zero, List.set_cons_succ])
      apply lexH_run (by rfl)
      · (intro w h; clear h; go_simp; try rfl)
      (try simp only [Act.put, List.setIfInBounds_toArray, List.set_cons_zero, List.set_cons_succ])
      apply lexH_run (by rfl)
      · (intro w h; clear h; go_simp; try rfl)
      (try simp only [Act.put, List.setIfInBounds_toArray, List.set_cons_zero, List.set_cons_succ])
      apply lexH_run (by rfl)
      · (intro w h; clear h; go_simp; try rfl)
      (try simp only [Act.put, List.setIfInBounds_toArray, List.set_cons_zero, List.set_cons_succ])
      apply lexH_run (by rfl)
      · (intro w h; clear h; go_simp; try rfl)
      (try simp only [Act.put, List.setIfInBounds_toArray, List.set_cons_zero, List.set_cons_succ])
      apply lexH_run (by rfl)
      · (intro w h; clear h; go_simp; try rfl)
      (try simp only [Act.put, List.setIfInBounds_toArray, List.set_cons_zero, List.set_cons_succ])
      apply lexH_run (by rfl)
      · (intro w h; have FK := HF.out w h; clear h; go_split_ands; go_simp; try rfl)
      (try simp only [Act.put, List.setIfInBounds_toArray, List.set_cons_zero, List.set_cons_succ])
      apply lexH_run (by rfl)
      · (intro w h; clear h; go_simp; try rfl)
      (try simp only [Act.put, List.setIfInBounds_toArray, List.set_cons_zero, List.set_cons_succ])
      apply lexH_run (by rfl)
      · (intro w h; clear h; go_simp; try rfl)
      (try simp only [Act.put, List.setIfInBounds_toArray, List.set_cons_zero, List.set_cons_succ])
      apply lexH_nil
      refine NoPanic.normal ?_
      have BF := Lib.hid (below_via hb5 BW.out)
      clear hb5
      go_wp2
      go_roundw
      case rel => exact ⟨k + 1, by omega, by go_num, BF⟩
      case measure => simp [intOf]; omega
    · obtain rfl : k = T.length := by omega
      have BF := Lib.hid (below_via BW.out HB1.out)
      clear SW
      go_wp2
      go_ret
      exact ⟨rfl, BF.out⟩
end Go.Proofs.Ytcihihncgpddfaa
