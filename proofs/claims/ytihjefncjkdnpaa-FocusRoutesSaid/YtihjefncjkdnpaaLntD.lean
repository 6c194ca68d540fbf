/- Is a lent tree what it was? -/
import Derived.Test.YtihjefncjkdnpaaLntC
import Derived.Test.YtihjefncjkdnpaaHeld
namespace Go.Proofs.Ytihjefncjkdnpaa
open Go.RowKit Go.Deep
set_option linter.unusedVariables false
set_option linter.unusedSimpArgs false

theorem flat_get (n : Nat) : ∀ (L : List (List Value)), (∀ a ∈ L, a.length = n) → ∀ i j, i < L.length → j < n → L.flatten[i * n + j]? = (L.getD i [])[j]?
  | [], _, i, j, h, _ => absurd h (Nat.not_lt_zero _)
  | a :: L, hL, i, j, hi, hj => by
    have ha : a.length = n := hL a (by simp)
    rw [List.flatten_cons]
    cases i with
    | zero => rw [Nat.zero_mul, Nat.zero_add, List.getElem?_append_left (by omega)]; rfl
    | succ i =>
      rw [Nat.succ_mul, List.getElem?_append_right (by omega), ha, show i * n + n + j - n = i * n + j by omega]
      exact flat_get n L (fun b hb => hL b (by simp [hb])) i j (by simpa using hi) hj
theorem range_of_row {w : World} {base g m c n : Nat} {t : TypeId} {L : List (List Value)} (h : w.ownsRow base t 34 (.slice (some ⟨g, 0, none⟩) m c) n L.flatten) (hL : ∀ a ∈ L, a.length = 34) (i : Nat) (hi : i < L.length) : w.rangeAt g (i * 34) (L.getD i []) := fun j u hu => by
  have hj : j < 34 := by
    have : (L.getD i []).length = 34 := hL _ (by rw [List.getD_eq_getElem?_getD, List.getElem?_eq_getElem hi]; exact List.getElem_mem hi)
    by_cases h : j < 34
    · exact h
    · rw [List.getElem?_eq_none (by omega)] at hu; cases hu
  have := row_cells h (i * 34 + j) u (by rw [flat_get 34 L hL i j hi hj]; exact hu)
  rwa [Nat.zero_add] at this
/-- what a lent tree's cells are -/
structure LentC (w : World) (v : Value) (T : List Nd) (g c : Nat) (cs : List (List Value)) : Prop where
  v : v = .slice (some ⟨g, 0, none⟩) T.length c
  cap : T.length + 3 ≤ c ∧ c ≤ maxLen
  lt : g < w.heap.size
  nd : ∀ i, i < T.length → w.rangeAt g (i * 34) (cs.getD i [])
  sp : ∀ i, T.length ≤ i → i < T.length + 3 → w.rangeAt g (i * 34) spareV
  kid : ∀ i, i < T.length → ∃ gk ck cv, cs.getD i [] = ndV (T.getD i zNd) (.slice (some ⟨gk, 0, none⟩) (T.getD i zNd).kids.length ck) cv ∧ IntsAt w (.slice (some ⟨gk, 0, none⟩) (T.getD i zNd).kids.length ck) (T.getD i zNd).kids ∧ ItsAt w cv (T.getD i zNd).cols ∧ (T.getD i zNd).kids.length + 3 ≤ ck ∧ ck ≤ maxLen ∧ gk < w.heap.size ∧ (∀ j, j < 3 → w.cell? ⟨gk, (T.getD i zNd).kids.length + j, none⟩ = some (.int .i64 (-7)))
theorem LentAt.cells {w : World} {B : Nat} {v : Value} {T : List Nd} (h : LentAt w B v T) : ∃ g c cs, LentC w v T g c cs := by
  obtain ⟨g, c, cs, e, hl, hr, hn⟩ := h
  have hlen : ∀ a ∈ cs ++ [spareV, spareV, spareV], a.length = 34 := fun a ha => by
    rw [List.mem_append] at ha
    rcases ha with ha | ha
    · obtain ⟨i, hi, rfl⟩ := List.getElem_of_mem ha
      obtain ⟨gk, ck, cv, e, _⟩ := hn i (by omega)
      rw [List.getD_eq_getElem?_getD, List.getElem?_eq_getElem hi] at e
      simp only [Option.getD_some] at e
      rw [e]; rfl
    · simp at ha; rw [ha]; rfl
  have hr' : w.ownsRow B 53 34 (.slice (some ⟨g, 0, none⟩) (T.length + 3) c) (T.length + 3) (cs ++ [spareV, spareV, spareV]).flatten := by simpa using hr
  rcases row_form hr with ⟨e', _⟩ | ⟨g', c', e', h1, h2, h3, _⟩
  · cases e'
  · injection e' with e1 _ e3
    injection e1 with e1
    injection e1 with e1
    subst e1 e3
    refine ⟨g, c, cs, e, ⟨h1, h2⟩, h3, fun i hi => ?_, fun i hi hi' => ?_, fun i hi => ?_⟩
    · have := range_of_row hr' hlen i (by simp [hl]; omega)
      rwa [List.getD_eq_getElem?_getD, List.getElem?_append_left (by omega), ← List.getD_eq_getElem?_getD] at this
    · have := range_of_row hr' hlen i (by simp [hl]; omega)
      rw [List.getD_eq_getElem?_getD, List.getElem?_append_right (by omega)] at this
      have hz : i - cs.length = 0 ∨ i - cs.length = 1 ∨ i - cs.length = 2 := by omega
      rcases hz with e | e | e <;> rw [e] at this <;> simpa using this
    · obtain ⟨gk, ck, cv, e, k1, k2⟩ := hn i hi
      rcases row_form k1 with ⟨e', _⟩ | ⟨g', c', e', r1, r2, r3, _⟩
      · cases e'
      · injection e' with e1 _ e3
        injection e1 with e1
        injection e1 with e1
        subst e1 e3
        refine ⟨gk, ck, cv, e, row_ints_ (n := 3) k1 rfl, row_items k2, r1, r2, r3, fun j hj => ?_⟩
        have := row_cells k1 ((T.getD i zNd).kids.length + j) (.int .i64 (-7)) (by
          rw [List.map_append, List.getElem?_append_right (by simp), List.length_map, Nat.add_sub_cancel_left]
          rcases j with _ | _ | _ | j
          · rfl
          · rfl
          · rfl
          · omega)
        rwa [Nat.zero_add] at this
theorem spareV_len : spareV.length = 34 := rfl
theorem with_facts {P Q : Prop} (f : P → Q) (h : P) : P ∧ Q := ⟨h, f h⟩
theorem marks_at {w : World} {g n c : Nat} (h3 : 3 ≤ c) (hm : c ≤ maxLen) (hz : g < w.heap.size) (h : ∀ j, j < 3 → w.cell? ⟨g, n + j, none⟩ = some (.int .i64 (-7))) : IntsAt w (.slice (some ⟨g, n, none⟩) 3 c) marks :=
  ⟨_, c, rfl, h3, by unfold maxLen at hm; omega, (fun h => by cases h), fun _ => ⟨g, n, rfl, hz, fun i hi => by
    have hi3 : i < 3 := hi
    rw [h i hi3]
    rcases i with _ | _ | _ | i
    · rfl
    · rfl
    · rfl
    · omega⟩⟩
theorem marks_new (w : World) (e : TypeId) : IntsAt (w.alloc (.cells #[.int .i64 (-7), .int .i64 (-7), .int .i64 (-7)] e)) (.slice (some ⟨w.heap.size, 0, none⟩) 3 3) marks :=
  marks_at (by decide) (by decide) (by simp) (fun j hj => by
    rw [cell_of_row _ w.heap.size (0 + j) _ e (0, 0) (heap_alloc_new _ _)]
    rcases j with _ | _ | _ | j
    · rfl
    · rfl
    · rfl
    · omega)
/-- a node read whole -/
theorem load_node {w : World} {b o : Nat} {cs : List Value} (hl : cs.length = 34) (hc : w.rangeAt b o cs) : (loadVar 53 ⟨b, o, none⟩).run Try.prog w = .ok (.agg cs.toArray) w :=
  run_loadVar_mid w b o _ cs _ hc Try.underlying53 rfl (by rw [hl]; exact infoN)
set_option maxRecDepth 100000 in
set_option maxHeartbeats 16000000 in
theorem kept_any (v : Value) (p : Option Addr) (c : Nat) (T : List Nd) (B : Nat) (w : World) (hL : LentAt w B v T) (hT : TreeAt w (.slice p T.length c) T) : Calls Try.prog 16 #[.agg #[v], .agg #[.slice p T.length c]] w fun e w' => e = .returned (.bool true) ∧ Below w.heap.size w w' := by
  obtain ⟨g, cg, cs, hC⟩ := hL.cells
  obtain rfl := hC.v
  have hlk : T.length + 3 ≤ cg := hC.cap.1
  have hlm : cg ≤ 9223372036854775807 := hC.cap.2
  have hlk' : (T.length : Int) + 3 ≤ (cg : Int) := by omega
  have HC := Lib.hid hC
  have HT := Lib.hid hT
  clear hL hT hC
  go_enter Try.func16, Try.ntmps16
  go_upto_region 1 with (fail)
  generalize hw1 : World.alloc _ _ = w1
  have B1 : Below w.heap.size w w1 := by rw [← hw1]; go_grown
  have x0 : w1.cell? ⟨w.heap.size, 0, none⟩ = some (.slice (some ⟨g, 0, none⟩) T.length cg) := by rw [← hw1]; simp [go_sem]
  have x1 : w1.cell? ⟨w.heap.size + 1, 0, none⟩ = some (.slice p T.length c) := by rw [← hw1]; simp [go_sem]
  have z1 : w.heap.size + 1 < w1.heap.size := by rw [← hw1]; simp
  have z0 : w.heap.size < w1.heap.size := by omega
  clear hw1
  go_wp2
  go_loopw [17] (fun i wr => ∃ k : Nat, k ≤ T.length + 3 ∧ i = .int .i64 k ∧ Below w1.heap.size w1 wr) (fun i _ => T.length + 3 - (intOf i).toNat)
  case atStart => exact ⟨0, Nat.zero_le _, rfl, Below.refl _ _⟩
  case round =>
    obtain ⟨k, hk, rfl, BW⟩ := hrel
    have SW := BW.size
    have y0 : wr.cell? ⟨w.heap.size, 0, none⟩ = some (.slice (some ⟨g, 0, none⟩) T.length cg) := by rw [(bcell BW).1 _ _ z0]; exact x0
    have y1 : wr.cell? ⟨w.heap.size + 1, 0, none⟩ = some (.slice p T.length c) := by rw [(bcell BW).1 _ _ z1]; exact x1
    have BWW := below_via BW B1
    have q0 : w.heap.size < wr.heap.size := by omega
    have q1 : w.heap.size + 1 < wr.heap.size := by omega
    have hgw : g < wr.heap.size := by have := HC.out.lt; have := BWW.size; omega
    rcases (show k < T.length ∨ (T.length ≤ k ∧ k < T.length + 3) ∨ k = T.length + 3 by omega) with hlt | ⟨hge, hlt⟩ | rfl
    · have hki : (k : Int) < (T.length : Int) := by omega
      have hki2 : (k : Int) < (T.length : Int) + 3 := by omega
      obtain ⟨gk, ck, cv, hcs, hkv, hcv, hck, hcm, hgk, hmk⟩ := HC.out.kid k hlt
      have hnd := HC.out.nd k hlt
      obtain ⟨_, _, p', c', e, _, _, hnt⟩ := HT.out
      injection e with e1 _ e2
      subst e1 e2
      obtain ⟨b, off, rfl, hb, hnt⟩ := hnt (by omega)
      obtain ⟨kv', cv', hkv', hcv', hc'⟩ := hnt k hlt
      have hkl : (T.getD k zNd).kids.length ≤ 9223372036854775804 := by have : ck ≤ 9223372036854775807 := hcm; omega
      generalize T.getD k zNd = x at *
      have RN := nd_range hc'
      have HKV2 := Lib.hid hkv'
      obtain ⟨p', c', rfl, _, _, _, _⟩ := hkv'
      obtain ⟨ns, hns⟩ : ∃ ns, ns = cs.getD k [] := ⟨_, rfl⟩
      obtain ⟨ms, hms⟩ : ∃ ms, ms = ndV x (.slice p' x.kids.length c') cv' := ⟨_, rfl⟩
      rw [← hns] at hcs hnd
      rw [← hms] at RN hc'
      have hbw : b < wr.heap.size := by have := BWW.size; omega
      have hgkw : gk < wr.heap.size := by have := BWW.size; omega
      have a3 : wr.cell? ⟨g, k * 34 + 3, none⟩ = some (.slice (some ⟨gk, 0, none⟩) x.kids.length ck) := by rw [(bcell BWW).1 _ _ HC.out.lt]; exact hnd 3 _ (by rw [hcs]; rfl)
      have b3 : wr.cell? ⟨b, off + k * 34 + 3, none⟩ = some (.slice p' x.kids.length c') := by rw [(bcell BWW).1 _ _ hb]; rw [hc' 3 (by omega), hms]; rfl
      have hlk3 : (x.kids.length : Int) + 3 ≤ (ck : Int) := by omega
      have HNS := Lib.hid hcs
      have HMS := Lib.hid hms
      have HND := Lib.hid hnd
      have HRN := Lib.hid RN
      have HMK := Lib.hid hmk
      have HKV := Lib.hid hkv
      have HCV := Lib.hid hcv
      have HCV2 := Lib.hid hcv'
      clear hcs hms hnd RN hmk hkv hcv hc' hnt hns
      go_upto_region 8 with (fail)
      go_quiet (fail)
      go_upto_region 9 with (fail)
      generalize hw4 : World.drewN _ _ = w4
      have B4 : Below w.heap.size w w4 := by rw [← hw4]; exact below_drewN_ BWW _
      have B4w : Below wr.heap.size wr w4 := by rw [← hw4]; exact below_drewN_ (Below.refl _ _) _
      clear hw4 a3 b3 y0 y1
      have HF := Lib.hid (fun w' (h : Below w4.heap.size w4 w') => show w'.cell? ⟨w.heap.size + 1, 0, none⟩ = some (.slice (some ⟨b, off, none⟩) T.length c) by rw [(bcell (below_via h (below_via B4w BW))).1 _ _ z1]; exact x1)
      have HR1 := Lib.hid (fun w' (h : Below w4.heap.size w4 w') => show w'.rangeAt g (k * 34) ns from fun j u hu => by rw [(bcell (below_via h B4)).1 _ _ HC.out.lt]; exact HND.out j u hu)
      have HR2 := Lib.hid (fun w' (h : Below w4.heap.size w4 w') => show w'.rangeAt b (off + k * 34) ms from fun j u hu => by rw [(bcell (below_via h B4)).1 _ _ hb]; exact HRN.out j u hu)
      have LN1 := Lib.hid (show (Try.prog.info? 53).map (·.size) = some ns.length by rw [HNS.out]; exact infoN)
      have LN2 := Lib.hid (show (Try.prog.info? 53).map (·.size) = some ms.length by rw [HMS.out]; exact infoN)
      have CALL : RowKit.Hid (∀ W, Below w4.heap.size w4 W → Calls Try.prog 43 #[.agg ns.toArray, .agg ms.toArray] W fun e w' => e = .returned (.bool true) ∧ Below W.heap.size W w') := Lib.hid (by
        rw [HNS.out, HMS.out]
        intro W hS
        exact same_Node_any x _ _ _ _ W (HKV.out.later (below_via hS B4) (Nat.le_refl _)) (HCV.out.later (below_via hS B4) (Nat.le_refl _)) (HKV2.out.later (below_via hS B4) (Nat.le_refl _)) (HCV2.out.later (below_via hS B4) (Nat.le_refl _)))
      have hsub : IntKind.i64.wrap (x.kids.length : Int) = (x.kids.length : Int) := IntWalk.i64_in _ (by omega)
      have hle3 : (x.kids.length : Int) ≤ (x.kids.length : Int) + 3 := by omega
      have hnek : ¬ ck = x.kids.length := by omega
      have HCM := Lib.hid (And.intro hck hcm)
      have hnk0 : 0 ≤ (x.kids.length : Int) := by omega
      refine wp_region_noPanic ?_
      refine wp_region_lexH (fun w' => Below w4.heap.size w4 w') (by kernel_rfl) (by kernel_rfl) (fun _ _ _ _ _ h => h) (Below.drew (Below.refl _ _)) ?_
      apply lexH_run (by rfl)
      · (intro w h; clear h; go_simp; try rfl)
      (try simp only [Act.put, List.setIfInBounds_toArray, List.set_cons_zero, List.set_cons_succ])
      apply lexH_run (by rfl)
      · (intro w h; clear h; go_simp; try rfl)
      (try simp only [Act.put, List.setIfInBounds_toArray, List.set_cons_zero, List.set_cons_succ])
      apply lexH_run (by rfl)
      · (intro w h; clear h; go_simp; try rfl)
      (try simp only [Act.put, List.setIfInBounds_toArray, List.set_cons_zero, List.set_cons_succ])
      refine lexH_load (by rfl) 53 (.tmp 48) rfl g (k * 34) rfl ns _ (fun w h => HR1.out w h) Try.underlying53 rfl LN1.out ?_
      (try simp only [Act.put, List.setIfInBounds_toArray, List.set_cons_zero, List.set_cons_succ])
      apply lexH_run (by rfl)
      · (intro w h; clear h; go_simp; try rfl)
      (try simp only [Act.put, List.setIfInBounds_toArray, List.set_cons_zero, List.set_cons_succ])
      apply lexH_run (by rfl)
      · (intro w h; have FK := HF.out w h; clear h; go_split_ands; go_simp; try rfl)
      (try simp only [Act.put, List.setIfInBounds_toArray, List.set_cons_zero, List.set_cons_succ])
      apply lexH_run (by rfl)
      · (intro w h; clear h; go_simp; try rfl)
      (try simp only [Act.put, List.setIfInBounds_toArray, List.set_cons_zero, List.set_cons_succ])
      apply lexH_run (by rfl)
      · (intro w h; clear h; go_simp; try rfl)
      (try simp only [Act.put, List.setIfInBounds_toArray, List.set_cons_zero, List.set_cons_succ])
      refine lexH_load (by rfl) 53 (.tmp 53) rfl b (off + k * 34) rfl ms _ (fun w h => HR2.out w h) Try.underlying53 rfl LN2.out ?_
      (try simp only [Act.put, List.setIfInBounds_toArray, List.set_cons_zero, List.set_cons_succ])
      refine lexH_call (by kernel_rfl) (by rfl) (by go_simp; first | exact ⟨rfl, rfl⟩ | rfl) ?_
      intro hS
      refine (CALL.out _ hS).mono ?_
      rintro e w5 ⟨rfl, hb5⟩
      have B5 := below_via hb5 hS
      refine ⟨_, rfl, B5, ?_⟩
      clear hb5 hS
      (try simp only [Act.put, List.setIfInBounds_toArray, List.set_cons_zero, List.set_cons_succ])
      apply lexH_run (by rfl)
      · (intro w h; clear h; go_simp; try rfl)
      (try simp only [Act.put, List.setIfInBounds_toArray, List.set_cons_zero, List.set_cons_succ])
      apply lexH_run (by rfl)
      · (intro w h; clear h; go_simp; try rfl)
      (try simp only [Act.put, List.setIfInBounds_toArray, List.set_cons_zero, List.set_cons_succ])
      apply lexH_run (by rfl)
      · (intro w h; clear h; go_simp; try rfl)
      (try simp only [Act.put, List.setIfInBounds_toArray, List.set_cons_zero, List.set_cons_succ])
      apply lexH_run (by rfl)
      · (intro w h; clear h; go_simp; try rfl)
      (try simp only [Act.put, List.setIfInBounds_toArray, List.set_cons_zero, List.set_cons_succ])
      apply lexH_run (by rfl)
      · (intro w h; clear h; go_simp; try rfl)
      (try simp only [Act.put, List.setIfInBounds_toArray, List.set_cons_zero, List.set_cons_succ])
      apply lexH_run (by rfl)
      · (intro w h; clear h; go_simp; try rfl)
      (try simp only [Act.put, List.setIfInBounds_toArray, List.set_cons_zero, List.set_cons_succ])
      apply lexH_run (by rfl)
      · (intro w h; clear h; go_simp; try rfl)
      (try simp only [Act.put, List.setIfInBounds_toArray, List.set_cons_zero, List.set_cons_succ])
      refine lexH_make (by kernel_rfl) (by rfl) (by go_simp; first | exact ⟨rfl, rfl⟩ | rfl) (fun h => h.alloc h.size _) ?_
      (try simp only [Act.put, List.setIfInBounds_toArray, List.set_cons_zero, List.set_cons_succ])
      refine lexH_call (by kernel_rfl) (by rfl) (by go_simp; first | exact ⟨rfl, rfl⟩ | rfl) ?_
      intro hS
      refine (same_Ints_any _ _ marks _ (marks_at (by omega) (by have := HCM.out.2; unfold maxLen at this ⊢; omega) (by have := hS.size; have := B4w.size; omega) (fun j hj => by rw [(bcell (below_via hS B4)).1 _ _ hgk]; exact HMK.out j hj)) (marks_new _ _)).mono ?_
      rintro e w6 ⟨rfl, hb6⟩
      have B6 := below_via hb6 hS
      refine ⟨_, rfl, B6, ?_⟩
      clear hb6 hS B5
      (try simp only [Act.put, List.setIfInBounds_toArray, List.set_cons_zero, List.set_cons_succ])
      apply lexH_run (by rfl)
      · (intro w h; clear h; go_simp; try rfl)
      (try simp only [Act.put, List.setIfInBounds_toArray, List.set_cons_zero, List.set_cons_succ])
      apply lexH_run (by rfl)
      · (intro w h; clear h; go_simp; try rfl)
      (try simp only [Act.put, List.setIfInBounds_toArray, List.set_cons_zero, List.set_cons_succ])
      apply lexH_nil
      refine NoPanic.normal ?_
      have BF := below_via (below_via B6 B4w) BW
      clear B6
      go_wp2
      go_roundw
      case rel => exact ⟨k + 1, by omega, by go_num, BF⟩
      case measure => simp [intOf]; omega
    · have hki : (k : Int) < (T.length : Int) + 3 := by omega
      have hki2 : (T.length : Int) ≤ (k : Int) := by omega
      have RNG : RowKit.Hid (wr.rangeAt g (k * 34) spareV) := Lib.hid (fun j u hu => by rw [(bcell BWW).1 _ _ HC.out.lt]; exact HC.out.sp k hge hlt j u hu)
      have hz : ∀ w : World, IntsAt w (.slice none 0 0) [] := fun w => ⟨none, 0, rfl, Nat.le_refl _, by omega, fun _ => rfl, fun h => absurd h (Nat.lt_irrefl _)⟩
      have hz' : ∀ w : World, ItsAt w (.slice none 0 0) [] := fun w => ⟨none, 0, rfl, Nat.le_refl _, by omega, fun _ => rfl, fun h => absurd h (Nat.lt_irrefl _)⟩
      have HSP := Lib.hid (fun w => same_Node_any spareN (.slice none 0 0) (.slice none 0 0) (.slice none 0 0) (.slice none 0 0) w (hz w) (hz' w) (hz w) (hz' w))
      clear hz hz'
      go_wp2_with (first | ((with_reducible refine wpList_load_node ?g1 (.tmp 27) ?g2 g (k * 34) ?g3 spareV spareV_len RNG.out ?_); (case g1 => rfl); (case g2 => rfl); (case g3 => rfl)) | fail)
      go_wp2_with fail
      refine (HSP.out _).mono ?_
      rintro e w2 ⟨rfl, hb2⟩
      have B2 := below_via hb2 BW
      clear hb2
      go_wp2
      go_roundw
      case rel => exact ⟨k + 1, by omega, by go_num, B2⟩
      case measure => simp [intOf]; omega
    · clear hk
      go_wp2
      go_ret
      exact ⟨rfl, BWW⟩
end Go.Proofs.Ytihjefncjkdnpaa
