/- Layer 10: lent: a tree in memory of its own, with marks behind its lists. -/
import Derived.Test.YtcihihncgpddfaaLtA
import Derived.StillTailTactics
namespace Go.Proofs.Ytcihihncgpddfaa
open Go.RowKit Go.Deep
set_option linter.unusedVariables false
set_option linter.unusedSimpArgs false

theorem infoLI_ : (Try.prog.info? 45).map (fun i => (i.zero, i.size, i.bytes)) = some (some (.slice none 0 0), 1, 24) := by kernel_rfl
theorem infoLIT_ : (Try.prog.info? 62).map (fun i => (i.zero, i.size, i.bytes)) = some (some (.slice none 0 0), 1, 24) := by kernel_rfl
/-- a store into a block of another type -/
theorem LentC.set {w : World} {B : Nat} {full vk vc : Value} {kf cf : Nat → Value} {T : List Nd} (h : LentC w B full vk vc kf cf T) {b : Nat} {cur : Array Value} {fr : Nat × Nat} (hb : w.heap[b]? = some (.cells cur 29 fr)) (i : Nat) (u : Value) : LentC (w.setCell ⟨b, i, none⟩ u) B full vk vc kf cf T := by
  have gs := setCell_grown w ⟨b, i, none⟩ u
  have ks : ∀ q, some b = some q → ∃ cur fr, w.heap[q]? = some (.cells cur 29 fr) := fun q e => by injection e with e; exact ⟨_, _, e ▸ hb⟩
  exact ⟨keep_row gs ks h.row (by decide), fun i hi => keep_row gs ks (h.kr i hi) (by decide), fun i hi => keep_row gs ks (h.cr i hi) (by decide), keep_row gs ks h.kl (by decide), keep_row gs ks h.cl (by decide)⟩
/-- the result's four cells are set -/
theorem lent_ret {w W : World} {full vk vc : Value} {kf cf : Nat → Value} {T : List Nd} (h : LentC W w.heap.size full vk vc kf cf T) (hb : Below w.heap.size w W) (hr : W.heap[w.heap.size + 1]? = some (.cells #[.slice none 0 0, .slice none 0 0, .slice none 0 0, .slice none 0 0] 29 (0, 0))) (a b c d : Value) :
    ((((W.setCell ⟨w.heap.size + 1, 0, none⟩ a).setCell ⟨w.heap.size + 1, 1, none⟩ b).setCell ⟨w.heap.size + 1, 2, none⟩ c).setCell ⟨w.heap.size + 1, 3, none⟩ d).heap[w.heap.size + 1]? = some (.cells #[a, b, c, d] 29 (0, 0)) ∧
    LentC ((((W.setCell ⟨w.heap.size + 1, 0, none⟩ a).setCell ⟨w.heap.size + 1, 1, none⟩ b).setCell ⟨w.heap.size + 1, 2, none⟩ c).setCell ⟨w.heap.size + 1, 3, none⟩ d) w.heap.size full vk vc kf cf T ∧
    Below w.heap.size w ((((W.setCell ⟨w.heap.size + 1, 0, none⟩ a).setCell ⟨w.heap.size + 1, 1, none⟩ b).setCell ⟨w.heap.size + 1, 2, none⟩ c).setCell ⟨w.heap.size + 1, 3, none⟩ d) := by
  have h0 := blk_set (cs := [.slice none 0 0, .slice none 0 0, .slice none 0 0, .slice none 0 0]) (i := 0) a hr
  have h1 := blk_set (cs := [a, .slice none 0 0, .slice none 0 0, .slice none 0 0]) (i := 1) b h0
  have h2 := blk_set (cs := [a, b, .slice none 0 0, .slice none 0 0]) (i := 2) c h1
  have h3 := blk_set (cs := [a, b, c, .slice none 0 0]) (i := 3) d h2
  exact ⟨h3, (((h.set hr 0 a).set h0 1 b).set h1 2 c).set h2 3 d, (((hb.setCell (p := ⟨w.heap.size + 1, 0, none⟩) (by simp) a).setCell (p := ⟨w.heap.size + 1, 1, none⟩) (by simp) b).setCell (p := ⟨w.heap.size + 1, 2, none⟩) (by simp) c).setCell (p := ⟨w.heap.size + 1, 3, none⟩) (by simp) d⟩
set_option maxRecDepth 100000 in
set_option maxHeartbeats 16000000 in
theorem lent_any (p : Option Addr) (c : Nat) (T : List Nd) (w : World) (hT : TreeAt w (.slice p T.length c) T) (hN : T.length ≤ 134217728) (hK : ∀ x ∈ T, x.kids.length ≤ 134217728 ∧ x.cols.length ≤ 134217728) : Calls Try.prog 14 #[.agg #[.slice p T.length c]] w fun e w' => ∃ tv full vk vc, e = .returned (.agg #[tv, full, vk, vc]) ∧ LentAt w' w.heap.size tv full vk vc T ∧ Below w.heap.size w w' := by
  obtain ⟨i0, hi, hz0, hz1, hz2⟩ := info_parts infoNode_
  obtain ⟨j0, hj, hy0, hy1, hy2⟩ := info_parts infoInt_
  obtain ⟨k0, hk0, hx0, hx1, hx2⟩ := info_parts infoItm_
  obtain ⟨l0, hl0, hu0, hu1, hu2⟩ := info_parts infoLI_
  obtain ⟨m0, hm0, hv0, hv1, hv2⟩ := info_parts infoLIT_
  have HI := Lib.hid (And.intro hi (And.intro hz0 (And.intro hz1 hz2)))
  have HJ := Lib.hid (And.intro hj (And.intro hy0 (And.intro hy1 hy2)))
  have HKK := Lib.hid (And.intro hk0 (And.intro hx0 (And.intro hx1 hx2)))
  have HLL := Lib.hid (And.intro hl0 (And.intro hu0 (And.intro hu1 hu2)))
  have HMM := Lib.hid (And.intro hm0 (And.intro hv0 (And.intro hv1 hv2)))
  obtain ⟨W1, hW1⟩ : ∃ x, x = ((w.alloc (.cells #[.slice p T.length c] 24)).alloc (.cells #[.slice none 0 0, .slice none 0 0, .slice none 0 0, .slice none 0 0] 29)).alloc (.cells #[.slice none 0 0, .slice none 0 0, .slice none 0 0, .slice none 0 0] 29) := ⟨_, rfl⟩
  have B1 : Below w.heap.size w W1 := by rw [hW1]; go_grown
  have x0 : W1.cell? ⟨w.heap.size, 0, none⟩ = some (.slice p T.length c) := by rw [hW1]; simp [go_sem]
  have x1 : W1.heap[w.heap.size + 1]? = some (.cells #[.slice none 0 0, .slice none 0 0, .slice none 0 0, .slice none 0 0] 29 (0, 0)) := by
    rw [hW1]
    refine (heap_alloc_old _ _ (by simp <;> omega)).trans ?_
    have := heap_alloc_new (w.alloc (.cells #[.slice p T.length c] 24)) (.cells #[.slice none 0 0, .slice none 0 0, .slice none 0 0, .slice none 0 0] 29)
    rwa [World.size_alloc] at this
  have x2 : W1.heap[w.heap.size + 1 + 1]? = some (.cells #[.slice none 0 0, .slice none 0 0, .slice none 0 0, .slice none 0 0] 29 (0, 0)) := by
    rw [hW1]
    have := heap_alloc_new ((w.alloc (.cells #[.slice p T.length c] 24)).alloc (.cells #[.slice none 0 0, .slice none 0 0, .slice none 0 0, .slice none 0 0] 29)) (.cells #[.slice none 0 0, .slice none 0 0, .slice none 0 0, .slice none 0 0] 29)
    rwa [World.size_alloc, World.size_alloc] at this
  have z0 : w.heap.size < W1.heap.size := by rw [hW1]; simp; omega
  have HT := Lib.hid (hT.later B1)
  have HK := Lib.hid hK
  have HB1 := Lib.hid B1
  have HX1 := Lib.hid x1
  have HX2 := Lib.hid x2
  have TW := Lib.hid (ref_Twin_any p c T W1 HT.out (by omega) (fun x hx => by have := hK x hx; omega))
  clear hi hz0 hz1 hz2 hj hy0 hy1 hy2 hk0 hx0 hx1 hx2 hl0 hu0 hu1 hu2 hm0 hv0 hv1 hv2 hT hK B1 x1 x2
  go_enter Try.func14, Try.ntmps14
  go_upto_region 2 with (fail)
  rw [← hW1]
  clear hW1
  go_wp2_with fail
  refine TW.out.mono ?_
  clear TW x0 z0
  rintro e w2 ⟨tv, kvs, cvs, rfl, own, hb2⟩
  obtain ⟨pv, cv, rfl⟩ : ∃ q c, tv = .slice q T.length c := by
    rcases row_form own.row with ⟨h1, h2, _⟩ | ⟨g, c, h1, _⟩
    · exact ⟨none, 0, by rw [h2]; exact h1⟩
    · exact ⟨_, _, h1⟩
  obtain ⟨ub, hub⟩ : ∃ x, x = w2.heap.size := ⟨_, rfl⟩
  obtain ⟨w3, hw3⟩ : ∃ x, x = w2.alloc (.cells #[.slice pv T.length cv] 24) := ⟨_, rfl⟩
  have B23 : Below w2.heap.size w2 w3 := by rw [hw3]; exact below_al (Below.refl _ _) _
  have B13 : Below W1.heap.size W1 w3 := below_via B23 hb2
  have S0 := Lib.hid (LtS.start (own.later B23) HB1.out.size (below_via B13 HB1.out) ((B13.block _ (lt_of_block HX1.out)).trans HX1.out) ((B13.block _ (lt_of_block HX2.out)).trans HX2.out) (ub := ub) (by rw [hw3, hub]; exact heap_alloc_new _ _))
  have y0 : w3.cell? ⟨ub, 0, none⟩ = some (.slice pv T.length cv) := cell_of_one S0.out.ub
  have y0z : ub < w3.heap.size := lt_of_block S0.out.ub
  clear own hb2 B23 B13 HX1 HX2 HT
  go_upto_region 3 with (fail)
  rw [← hw3]
  simp only [← hub]
  clear hw3 hub
  go_wp2
  go_loopw [5] (fun i wr => ∃ k : Nat, ∃ kf cf : Nat → Value, ∃ vk vc : Value, k ≤ T.length ∧ i = .int .i64 k ∧ RowKit.Hid (LtS w wr T ub (.slice pv T.length cv) k kf cf vk vc)) (fun i _ => T.length - (intOf i).toNat)
  case atStart => exact ⟨0, _, _, _, _, Nat.zero_le _, rfl, S0⟩
  case round =>
    clear S0 y0 y0z
    obtain ⟨k, kf, cf, vk, vc, hk, rfl, HS⟩ := hrel
    have y0 : wr.cell? ⟨ub, 0, none⟩ = some (.slice pv T.length cv) := cell_of_one HS.out.ub
    have y0z : ub < wr.heap.size := lt_of_block HS.out.ub
    by_cases hlt : k < T.length
    · have hki : (k : Int) < (T.length : Int) := by omega
      have S : LtG w wr T ub (.slice pv T.length cv) (fun i => cutV (kf i) (lnK T i)) (fun i => cutV (cf i) (lnC T i)) kf cf (fulK T k) (fulC T k) vk vc ((List.range k).map kf) ((List.range k).map cf) := HS.out
      have hmem : T.getD k zNd ∈ T := by rw [List.getD_eq_getElem?_getD, List.getElem?_eq_getElem hlt]; exact List.getElem_mem hlt
      have hks := HK.out _ hmem
      obtain ⟨L, hL⟩ : ∃ L, L = fulK T k k := ⟨_, rfl⟩
      obtain ⟨M, hM⟩ : ∃ M, M = fulC T k k := ⟨_, rfl⟩
      have hLn : lnK T k = L.length := by rw [hL, fulK_self]; rfl
      have hMn : lnC T k = M.length := by rw [hM, fulC_self]; rfl
      have hkl : L.length ≤ 134217728 := by have := hks.1; unfold lnK at hLn; omega
      have hcl : M.length ≤ 134217728 := by have := hks.2; unfold lnC at hMn; omega
      obtain ⟨g, hg⟩ : ∃ g, pv = some ⟨g, 0, none⟩ := by
        rcases row_form S.row with ⟨_, h0, _⟩ | ⟨g, c', e, _⟩
        · omega
        · injection e with e1; exact ⟨g, e1⟩
      subst hg
      have rk := S.kr k hlt
      have rc := S.cr k hlt
      rw [← hL] at rk
      rw [← hM] at rc
      obtain ⟨pk, ck, hkf⟩ : ∃ q c, kf k = .slice q L.length c := by
        rcases row_form rk with ⟨h1, h2, _⟩ | ⟨g, c, h1, _⟩
        · exact ⟨none, 0, by rw [h2]; exact h1⟩
        · exact ⟨_, _, h1⟩
      obtain ⟨pc, cc, hcf⟩ : ∃ q c, cf k = .slice q M.length c := by
        rcases row_form rc with ⟨h1, h2, _⟩ | ⟨g, c, h1, _⟩
        · exact ⟨none, 0, by rw [h2]; exact h1⟩
        · exact ⟨_, _, h1⟩
      have a3 : wr.cell? ⟨g, k * 34 + 3, none⟩ = some (.slice pk L.length ck) := by
        have := row_cells S.row (k * 34 + 3) (.slice pk L.length ck) (by rw [ndsV_get T _ _ hlt (by decide)]; show some (cutV (kf k) (lnK T k)) = _; rw [hkf, hLn]; rfl)
        rwa [Nat.zero_add] at this
      have zg : g < wr.heap.size := (row_lt S.row g rfl).1
      rw [hkf] at rk
      have HL := Lib.hid hL
      have HM := Lib.hid hM
      have HLN := Lib.hid hLn
      have HMN := Lib.hid hMn
      have HKF := Lib.hid hkf
      have HCF := Lib.hid hcf
      have OW := Lib.hid (row_later rk (below_al (Below.refl _ _) (.cells #[.int .i64 (-71), .int .i64 (-72), .int .i64 (-73)] 3)))
      have SR := Lib.hid (src_new wr #[.int .i64 (-71), .int .i64 (-72), .int .i64 (-73)] 3 3 1 rfl)
      have hz : w.heap.size ≤ wr.heap.size := S.be.size
      have SS := Lib.hid S
      clear S rk rc hL hM hLn hMn hkf hcf hmem hks HS
      go_wp2_with (at_builtin; refine wpList_append_src _ rfl (.tmp 22) (.tmp 23) 45 rfl w.heap.size 3 j0 (.int .i64 0) 1 8 Try.underlying45 HJ.out.1 HJ.out.2.1 HJ.out.2.2.1 HJ.out.2.2.2 rfl (by decide) _ L.length _ rfl OW.out (some ⟨wr.heap.size, 0, none⟩) 3 3 _ rfl SR.out ?h1 ?h2 ?h3 ?h4 ?_)
      case h1 => first | exact ⟨rfl, rfl, rfl⟩ | (intro u hu; simp at hu; rcases hu with rfl | rfl | rfl <;> rfl)
      case h2 => unfold maxLen; omega
      case h3 => omega
      case h4 => first | omega | (simp; omega)
      intro v6 w6 own6 gr6 pl6
      have S6 := LtG.kpush SS.out hlt (below_al (Below.refl _ _) (.cells #[.int .i64 (-71), .int .i64 (-72), .int .i64 (-73)] 3)) (W2 := w6) (v' := v6) (m := L.length + 3) (xs := L.map (Value.int .i64) ++ [.int .i64 (-71), .int .i64 (-72), .int .i64 (-73)]) (by rw [HKF.out]; exact gr6) (by simpa using own6) mkK (by rw [← HL.out]; simp [mkK]) (by rw [← HL.out]; simp [mkK]) (by rw [HKF.out, World.size_alloc]; exact pl6)
      obtain ⟨g6, c6, rfl, h61, h62⟩ : ∃ g6 c6, v6 = .slice (some ⟨g6, 0, none⟩) (L.length + 3) c6 ∧ L.length + 3 ≤ c6 ∧ c6 ≤ maxLen := by
        rcases row_form own6 with ⟨_, h0, _⟩ | ⟨g, c, h1, h2, h3, _⟩
        · omega
        · exact ⟨g, c, h1, h2, h3⟩
      have y0 : w6.cell? ⟨ub, 0, none⟩ = some (.slice (some ⟨g, 0, none⟩) T.length cv) := cell_of_one S6.ub
      have y0z : ub < w6.heap.size := lt_of_block S6.ub
      have zg : g < w6.heap.size := (row_lt S6.row g rfl).1
      have a28 : w6.cell? ⟨g, k * 34 + 28, none⟩ = some (.slice pc M.length cc) := by
        have := row_cells S6.row (k * 34 + 28) (.slice pc M.length cc) (by rw [ndsV_get T _ _ hlt (by decide)]; show some (cutV (cf k) (lnC T k)) = _; rw [HCF.out, HMN.out]; rfl)
        rwa [Nat.zero_add] at this
      have rc := S6.cr k hlt
      rw [← HM.out, HCF.out] at rc
      have NEW := Lib.hid (show ([itV ⟨0, -71, 0, 0, 0⟩, itV ⟨0, -72, 0, 0, 0⟩] : List (List Value)).flatten = cellsI mkC by rfl)
      have OW := Lib.hid (row_later rc (below_al (Below.refl _ _) (.cells [itV ⟨0, -71, 0, 0, 0⟩, itV ⟨0, -72, 0, 0, 0⟩].flatten.toArray 57)))
      have SR := Lib.hid (src_new w6 [itV ⟨0, -71, 0, 0, 0⟩, itV ⟨0, -72, 0, 0, 0⟩].flatten.toArray 57 2 5 rfl)
      have hz : w.heap.size ≤ w6.heap.size := S6.be.size
      have SS6 := Lib.hid S6
      clear S6 rc a3 own6 gr6 pl6 SS
      go_wp2_with (first | ((with_reducible refine wpList_buildSlice_all _ ?b1 62 57 2 #[(0, .tmp 31), (1, .tmp 32)] ?b2 k0 _ 5 Try.underlying62 HKK.out.1 HKK.out.2.1 HKK.out.2.2.1 ?b6 [itV ⟨0, -71, 0, 0, 0⟩, itV ⟨0, -72, 0, 0, 0⟩] ?b7 ?b3 ?b4 ?b5 ?_); (case b1 => rfl); (case b2 => rfl); (case b6 => decide); (case b7 => rfl); (case b3 => rfl); (case b4 => (intro a ha; simp at ha; rcases ha with rfl | rfl <;> rfl)); (case b5 => (show 2 * 5 ≤ 16777216; decide))) | (at_builtin; refine wpList_append_src _ rfl (.tmp 30) (.tmp 33) 62 rfl w.heap.size 57 k0 _ 5 40 Try.underlying62 HKK.out.1 HKK.out.2.1 HKK.out.2.2.1 HKK.out.2.2.2 rfl (by decide) _ M.length _ rfl OW.out (some ⟨w6.heap.size, 0, none⟩) 2 2 _ rfl SR.out ?i1 ?i2 ?i3 ?i4 ?_))
      case i1 => first | decide | (intro u hu; exact items_one mkC u (by simpa [cellsI, mkC] using hu))
      case i2 => unfold maxLen; omega
      case i3 => omega
      case i4 => first | omega | (simp; omega)
      intro v7 w7 own7 gr7 pl7
      have S7 := LtG.cpush SS6.out hlt (below_al (Below.refl _ _) (.cells [itV ⟨0, -71, 0, 0, 0⟩, itV ⟨0, -72, 0, 0, 0⟩].flatten.toArray 57)) (W2 := w7) (v' := v7) (m := M.length + 2) (xs := cellsI M ++ cellsI mkC) (by rw [HCF.out]; exact gr7) (by rw [← NEW.out]; exact own7) mkC (by rw [← HM.out]; simp [mkC]) (by rw [← HM.out, cellsI_app]) (by rw [HCF.out, World.size_alloc]; exact pl7)
      obtain ⟨g7, c7, rfl, h71, h72⟩ : ∃ g7 c7, v7 = .slice (some ⟨g7, 0, none⟩) (M.length + 2) c7 ∧ M.length + 2 ≤ c7 ∧ c7 ≤ maxLen := by
        rcases row_form own7 with ⟨_, h0, _⟩ | ⟨g, c, h1, h2, h3, _⟩
        · omega
        · exact ⟨g, c, h1, h2, h3⟩
      have h72' : c7 ≤ 9223372036854775807 := h72
      have h62' : c6 ≤ 9223372036854775807 := h62
      have y0 : w7.cell? ⟨ub, 0, none⟩ = some (.slice (some ⟨g, 0, none⟩) T.length cv) := cell_of_one S7.ub
      have y0z : ub < w7.heap.size := lt_of_block S7.ub
      have zg : g < w7.heap.size := (row_lt S7.row g rfl).1
      have hlk6 : (L.length : Int) ≤ (c6 : Int) := by omega
      have hlk7 : (M.length : Int) ≤ (c7 : Int) := by omega
      have SS7 := Lib.hid S7
      clear S7 a28 own7 gr7 pl7 SS6 OW SR NEW h61 h62 h71 h72 hz
      have hw6 : IntKind.i64.wrap (L.length : Int) = (L.length : Int) := IntWalk.i64_in _ (by omega)
      have hw7 : IntKind.i64.wrap (M.length : Int) = (M.length : Int) := IntWalk.i64_in _ (by omega)
      have hn6 : 0 ≤ (L.length : Int) := by omega
      have hn7 : 0 ≤ (M.length : Int) := by omega
      go_upto_region 8 with (fail)
      go_still_tail 10, (by kernel_rfl)
      change wpList _ _ _ _ _ w7.drew
      generalize hq : w7.drew = w8
      have S8 := SS7.out.later (show Below w7.heap.size w7 w8 by rw [← hq]; exact Below.drew (Below.refl _ _))
      have a3 : w8.cell? ⟨g, k * 34 + 3, none⟩ = some (.slice pk L.length ck) := by
        have := row_cells S8.row (k * 34 + 3) (.slice pk L.length ck) (by rw [ndsV_get T _ _ hlt (by decide)]; show some (cutV (kf k) (lnK T k)) = _; rw [HKF.out, HLN.out]; rfl)
        rwa [Nat.zero_add] at this
      have f3 : w8.frozen? ⟨g, k * 34 + 3, none⟩ = false := S8.row.frozenAt _
      have zg : g < w8.heap.size := (row_lt S8.row g rfl).1
      have SS8 := Lib.hid S8
      clear hq S8 SS7 y0 y0z
      go_upto_region 9 with (fail)
      generalize hw9 : World.setCell _ _ _ = w9
      have S9 := LtG.nset3 (n := 0) SS8.out hlt (.slice (some ⟨g6, 0, none⟩) L.length c6)
      rw [hw9] at S9
      have y0 : w9.cell? ⟨ub, 0, none⟩ = some (.slice (some ⟨g, 0, none⟩) T.length cv) := cell_of_one S9.ub
      have y0z : ub < w9.heap.size := lt_of_block S9.ub
      have zg : g < w9.heap.size := (row_lt S9.row g rfl).1
      have SS9 := Lib.hid S9
      clear hw9 S9 SS8 a3 f3
      go_still_tail 10, (by kernel_rfl)
      change wpList _ _ _ _ _ w9.drew
      generalize hq : w9.drew = w10
      have S10 := SS9.out.later (show Below w9.heap.size w9 w10 by rw [← hq]; exact Below.drew (Below.refl _ _))
      have a28 : w10.cell? ⟨g, k * 34 + 28, none⟩ = some (.slice pc M.length cc) := by
        have := row_cells S10.row (k * 34 + 28) (.slice pc M.length cc) (by rw [ndsV_get T _ _ hlt (by decide)]; show some (cutV (cf k) (lnC T k)) = _; rw [HCF.out, HMN.out]; rfl)
        rwa [Nat.zero_add] at this
      have f28 : w10.frozen? ⟨g, k * 34 + 28, none⟩ = false := S10.row.frozenAt _
      have zg : g < w10.heap.size := (row_lt S10.row g rfl).1
      have SS10 := Lib.hid S10
      clear hq S10 SS9 y0 y0z
      go_upto_region 10 with (fail)
      generalize hw11 : World.setCell _ _ _ = w11
      have S11 := LtG.nset28 (n := 0) SS10.out hlt (.slice (some ⟨g7, 0, none⟩) M.length c7)
      rw [hw11] at S11
      have q2 : w11.cell? ⟨w.heap.size + 1 + 1, 2, none⟩ = some vk := blk_cell (cs := [.slice none 0 0, .slice none 0 0, vk, vc]) S11.xb rfl
      have qz : w.heap.size + 1 + 1 < w11.heap.size := lt_of_block S11.xb
      have OW := Lib.hid (row_later S11.kl (below_al (Below.refl _ _) (.cells #[.slice (some ⟨g6, 0, none⟩) (L.length + 3) c6] 45)))
      have SR := Lib.hid (src_new w11 #[.slice (some ⟨g6, 0, none⟩) (L.length + 3) c6] 45 1 1 rfl)
      have hz : w.heap.size ≤ w11.heap.size := S11.be.size
      have hkl2 : ((List.range k).map kf).length = k := by simp
      rw [hkl2] at OW
      have HKL := Lib.hid hkl2
      have SS11 := Lib.hid S11
      clear hw11 S11 SS10 a28 f28 zg hkl2
      have hkm : k + 1 ≤ maxLen := by unfold maxLen; omega
      go_wp2_with (at_builtin; refine wpList_append_src _ rfl (.tmp 56) (.tmp 58) 26 rfl w.heap.size 45 l0 _ 1 24 Try.underlying26 HLL.out.1 HLL.out.2.1 HLL.out.2.2.1 HLL.out.2.2.2 rfl (by decide) _ k _ rfl OW.out (some ⟨w11.heap.size, 0, none⟩) 1 1 _ rfl SR.out ?j1 hkm ?j3 ?j4 ?_)
      case j1 => first | rfl | (intro u hu; simp at hu; subst hu; rfl)
      case j3 => omega
      case j4 => first | omega | (simp; omega)
      intro v12 w12 own12 gr12 pl12
      obtain ⟨b12, S12⟩ := LtG.lpush SS11.out (below_al (Below.refl _ _) (.cells #[.slice (some ⟨g6, 0, none⟩) (L.length + 3) c6] 45)) gr12 (u := .slice (some ⟨g6, 0, none⟩) (L.length + 3) c6) own12 (by rw [List.length_append, HKL.out]; rfl) rfl
      obtain ⟨g12, c12, rfl⟩ : ∃ g12 c12, v12 = .slice (some ⟨g12, 0, none⟩) (k + 1) c12 := by
        rcases row_form own12 with ⟨_, h0, _⟩ | ⟨g, c, h1, _⟩
        · omega
        · exact ⟨g, c, h1⟩
      have q2 : w12.cell? ⟨w.heap.size + 1 + 1, 2, none⟩ = some vk := blk_cell (cs := [.slice none 0 0, .slice none 0 0, vk, vc]) b12 rfl
      have q2f : w12.frozen? ⟨w.heap.size + 1 + 1, 2, none⟩ = false := frozen_of_row _ _ _ _ _ b12
      have qz : w.heap.size + 1 + 1 < w12.heap.size := lt_of_block b12
      have SS12 := Lib.hid S12
      clear own12 gr12 pl12 b12 S12 SS11 OW SR hz
      go_upto_region 11 with (fail)
      generalize hw13 : World.setCell _ _ _ = w13
      rw [hw13] at SS12
      have q3 : w13.cell? ⟨w.heap.size + 1 + 1, 3, none⟩ = some vc := blk_cell (cs := [.slice none 0 0, .slice none 0 0, .slice (some ⟨g12, 0, none⟩) (k + 1) c12, vc]) SS12.out.xb rfl
      have qz : w.heap.size + 1 + 1 < w13.heap.size := lt_of_block SS12.out.xb
      have OW := Lib.hid (row_later SS12.out.cl (below_al (Below.refl _ _) (.cells #[.slice (some ⟨g7, 0, none⟩) (M.length + 2) c7] 62)))
      have SR := Lib.hid (src_new w13 #[.slice (some ⟨g7, 0, none⟩) (M.length + 2) c7] 62 1 1 rfl)
      have hz : w.heap.size ≤ w13.heap.size := SS12.out.be.size
      have hkl2 : ((List.range k).map cf).length = k := by simp
      rw [hkl2] at OW
      have HCL := Lib.hid hkl2
      clear hw13 q2 q2f hkl2
      go_wp2_with (at_builtin; refine wpList_append_src _ rfl (.tmp 62) (.tmp 64) 27 rfl w.heap.size 62 m0 _ 1 24 Try.underlying27 HMM.out.1 HMM.out.2.1 HMM.out.2.2.1 HMM.out.2.2.2 rfl (by decide) _ k _ rfl OW.out (some ⟨w13.heap.size, 0, none⟩) 1 1 _ rfl SR.out ?k1 hkm ?k3 ?k4 ?_)
      case k1 => first | rfl | (intro u hu; simp at hu; subst hu; rfl)
      case k3 => omega
      case k4 => first | omega | (simp; omega)
      intro v14 w14 own14 gr14 pl14
      obtain ⟨b14, S14⟩ := LtG.clpush SS12.out (below_al (Below.refl _ _) (.cells #[.slice (some ⟨g7, 0, none⟩) (M.length + 2) c7] 62)) gr14 (u := .slice (some ⟨g7, 0, none⟩) (M.length + 2) c7) own14 (by rw [List.length_append, HCL.out]; rfl) rfl
      obtain ⟨g14, c14, rfl⟩ : ∃ g14 c14, v14 = .slice (some ⟨g14, 0, none⟩) (k + 1) c14 := by
        rcases row_form own14 with ⟨_, h0, _⟩ | ⟨g, c, h1, _⟩
        · omega
        · exact ⟨g, c, h1⟩
      have q3 : w14.cell? ⟨w.heap.size + 1 + 1, 3, none⟩ = some vc := blk_cell (cs := [.slice none 0 0, .slice none 0 0, .slice (some ⟨g12, 0, none⟩) (k + 1) c12, vc]) b14 rfl
      have q3f : w14.frozen? ⟨w.heap.size + 1 + 1, 3, none⟩ = false := frozen_of_row _ _ _ _ _ b14
      have qz : w.heap.size + 1 + 1 < w14.heap.size := lt_of_block b14
      have SN := Lib.hid (LtS.next (kf := kf) (cf := cf) (k := k) (v6 := .slice (some ⟨g6, 0, none⟩) (L.length + 3) c6) (v7 := .slice (some ⟨g7, 0, none⟩) (M.length + 2) c7) (by rw [HLN.out, HMN.out]; exact S14))
      clear own14 gr14 pl14 b14 S14 SS12 OW SR hz
      go_wp2
      go_roundw
      case rel => exact ⟨k + 1, _, _, _, _, by omega, by go_num, SN⟩
      case measure => simp [intOf]; omega
    · obtain rfl : k = T.length := by omega
      clear hlt hk
      have S : LtG w wr T ub (.slice pv T.length cv) (fun i => cutV (kf i) (lnK T i)) (fun i => cutV (cf i) (lnC T i)) kf cf (fulK T T.length) (fulC T T.length) vk vc ((List.range T.length).map kf) ((List.range T.length).map cf) := HS.out
      obtain ⟨qk, dk, rfl⟩ : ∃ q c, vk = .slice q T.length c := by
        rcases row_form S.kl with ⟨h1, h2, _⟩ | ⟨g, c, h1, _⟩
        · exact ⟨none, 0, by rw [List.length_map, List.length_range] at h2; rw [h2]; exact h1⟩
        · rw [List.length_map, List.length_range] at h1; exact ⟨_, _, h1⟩
      obtain ⟨qc, dc, rfl⟩ : ∃ q c, vc = .slice q T.length c := by
        rcases row_form S.cl with ⟨h1, h2, _⟩ | ⟨g, c, h1, _⟩
        · exact ⟨none, 0, by rw [List.length_map, List.length_range] at h2; rw [h2]; exact h1⟩
        · rw [List.length_map, List.length_range] at h1; exact ⟨_, _, h1⟩
      have BA : Below wr.heap.size wr (wr.alloc (.cells [n71V, n72V].flatten.toArray 64)) := below_al (Below.refl _ _) _
      have OW := Lib.hid (row_later S.row BA)
      have SR := Lib.hid (src_new wr [n71V, n72V].flatten.toArray 64 2 34 rfl)
      have hone : RowKit.Hid (∀ u ∈ [n71V, n72V].flatten.toArray.toList, u.oneCell' = true) := Lib.hid (by decide)
      have hkm : T.length + 2 ≤ maxLen := by unfold maxLen; omega
      have hz : w.heap.size ≤ wr.heap.size := S.be.size
      have SS := Lib.hid (S.later BA)
      clear S HS BA
      go_upto_region 12 with (fail)
      go_wp2_with (first | ((with_reducible refine wpList_buildSlice_all _ ?b1 22 64 2 #[(0, .tmp 69), (1, .tmp 70)] ?b2 i0 _ 34 Try.underlying22 HI.out.1 HI.out.2.1 HI.out.2.2.1 ?b6 [n71V, n72V] ?b7 ?b3 ?b4 ?b5 ?_); (case b1 => rfl); (case b2 => rfl); (case b6 => decide); (case b7 => rfl); (case b3 => rfl); (case b4 => (intro a ha; simp at ha; rcases ha with rfl | rfl <;> rfl)); (case b5 => (show 2 * 34 ≤ 16777216; decide))) | (at_builtin; go_must (refine wpList_append_src _ rfl (.tmp 68) (.tmp 71) 22 rfl w.heap.size 64 i0 _ 34 288 Try.underlying22 HI.out.1 HI.out.2.1 HI.out.2.2.1 HI.out.2.2.2 rfl (by decide) _ T.length _ rfl OW.out (some ⟨wr.heap.size, 0, none⟩) 2 2 _ rfl SR.out ?q1 hkm ?q2 ?q3 ?_)))
      case q1 => first | exact hone.out | (intro u hu; exact hone.out u (by simp [hu]))
      case q2 => omega
      case q3 => first | omega | (simp; omega)
      intro v2 w2 own2 gr2 pl2
      have gr2' : (wr.alloc (.cells [n71V, n72V].flatten.toArray 64)).grownBy w2 (Value.slice pv T.length cv).ownBlock := by simpa using gr2
      have kd := row_kind SS.out.row
      have own2' : w2.ownsRow w.heap.size 64 34 v2 (T.length + 2) (ndsV T (fun i => cutV (kf i) (lnK T i)) (fun i => cutV (cf i) (lnC T i)) ++ (n71V ++ n72V)) := by simpa using own2
      have LC2 : LentC w2 w.heap.size v2 (.slice qk T.length dk) (.slice qc T.length dc) kf cf T := by
        refine ⟨own2', fun i hi => ?_, fun i hi => ?_, ?_, ?_⟩
        · have := keep_row gr2' kd (SS.out.kr i hi) (by decide)
          unfold fulK at this
          rw [if_pos hi] at this
          simpa [lnK, mkK] using this
        · have := keep_row gr2' kd (SS.out.cr i hi) (by decide)
          unfold fulC at this
          rw [if_pos hi] at this
          simpa [lnC, mkC] using this
        · have := keep_row gr2' kd SS.out.kl (by decide)
          simpa using this
        · have := keep_row gr2' kd SS.out.cl (by decide)
          simpa using this
      have B2 : Below w.heap.size w w2 := Below.grown SS.out.be gr2' (by simp; omega) (fun g hg => (row_lt SS.out.row g hg).2)
      have xb2 := keep_blk gr2' kd SS.out.xb (by decide)
      have xr2 := keep_blk gr2' kd SS.out.xr (by decide)
      obtain ⟨g2, c2, rfl, h21, h22⟩ : ∃ g c, v2 = .slice (some ⟨g, 0, none⟩) (T.length + 2) c ∧ T.length + 2 ≤ c ∧ c ≤ maxLen := by
        rcases row_form own2' with ⟨_, h0, _⟩ | ⟨g, c, h1, h2, h3, _⟩
        · omega
        · exact ⟨g, c, h1, h2, h3⟩
      have h22' : c2 ≤ 9223372036854775807 := h22
      have q1 : w2.cell? ⟨w.heap.size + 1 + 1, 1, none⟩ = some (.slice none 0 0) := blk_cell (cs := [.slice none 0 0, .slice none 0 0, .slice qk T.length dk, .slice qc T.length dc]) xb2 rfl
      have q1f : w2.frozen? ⟨w.heap.size + 1 + 1, 1, none⟩ = false := frozen_of_row _ _ _ _ _ xb2
      have qz : w.heap.size + 1 + 1 < w2.heap.size := lt_of_block xb2
      have HLC := Lib.hid LC2
      have HB2 := Lib.hid B2
      have HXB := Lib.hid xb2
      have HXR := Lib.hid xr2
      have hlk : (T.length : Int) ≤ (c2 : Int) := by omega
      have hwt : IntKind.i64.wrap (T.length : Int) = (T.length : Int) := IntWalk.i64_in _ (by omega)
      have hnt : 0 ≤ (T.length : Int) := by omega
      clear own2 gr2 gr2' pl2 kd own2' LC2 B2 xb2 xr2 SS OW SR hone h21 h22 y0 y0z
      go_upto_region 13 with (fail)
      generalize hw3 : World.setCell _ _ _ = w3
      have xb3 : w3.heap[w.heap.size + 1 + 1]? = some (.cells #[.slice none 0 0, .slice (some ⟨g2, 0, none⟩) (T.length + 2) c2, .slice qk T.length dk, .slice qc T.length dc] 29 (0, 0)) := by rw [← hw3]; exact blk_set (cs := [.slice none 0 0, .slice none 0 0, .slice qk T.length dk, .slice qc T.length dc]) _ HXB.out
      have xr3 : w3.heap[w.heap.size + 1]? = some (.cells #[.slice none 0 0, .slice none 0 0, .slice none 0 0, .slice none 0 0] 29 (0, 0)) := by rw [← hw3]; exact (heap_setCell_other _ _ _ _ (by simp)).trans HXR.out
      have HLC3 := Lib.hid (show LentC w3 w.heap.size _ _ _ kf cf T by rw [← hw3]; exact HLC.out.set HXB.out 1 _)
      have HB3 := Lib.hid (show Below w.heap.size w w3 by rw [← hw3]; exact HB2.out.setCell (p := ⟨w.heap.size + 1 + 1, 1, none⟩) (by simp; omega) _)
      clear hw3 q1 q1f qz HLC HB2 HXB HXR
      have q0 : w3.cell? ⟨w.heap.size + 1 + 1, 0, none⟩ = some (.slice none 0 0) := blk_cell (cs := [.slice none 0 0, .slice (some ⟨g2, 0, none⟩) (T.length + 2) c2, .slice qk T.length dk, .slice qc T.length dc]) xb3 rfl
      have q1 : w3.cell? ⟨w.heap.size + 1 + 1, 1, none⟩ = some (.slice (some ⟨g2, 0, none⟩) (T.length + 2) c2) := blk_cell (cs := [.slice none 0 0, .slice (some ⟨g2, 0, none⟩) (T.length + 2) c2, .slice qk T.length dk, .slice qc T.length dc]) xb3 rfl
      have q0f : w3.frozen? ⟨w.heap.size + 1 + 1, 0, none⟩ = false := frozen_of_row _ _ _ _ _ xb3
      have qz : w.heap.size + 1 + 1 < w3.heap.size := lt_of_block xb3
      have HXB := Lib.hid xb3
      have HXR := Lib.hid xr3
      clear xb3 xr3
      go_upto_region 14 with (fail)
      generalize hw4 : World.setCell _ _ _ = w4
      have xb4 : w4.heap[w.heap.size + 1 + 1]? = some (.cells #[.slice (some ⟨g2, 0, none⟩) T.length c2, .slice (some ⟨g2, 0, none⟩) (T.length + 2) c2, .slice qk T.length dk, .slice qc T.length dc] 29 (0, 0)) := by rw [← hw4]; exact blk_set (cs := [.slice none 0 0, .slice (some ⟨g2, 0, none⟩) (T.length + 2) c2, .slice qk T.length dk, .slice qc T.length dc]) _ HXB.out
      have xr4 : w4.heap[w.heap.size + 1]? = some (.cells #[.slice none 0 0, .slice none 0 0, .slice none 0 0, .slice none 0 0] 29 (0, 0)) := by rw [← hw4]; exact (heap_setCell_other _ _ _ _ (by simp)).trans HXR.out
      have HLC4 := Lib.hid (show LentC w4 w.heap.size _ _ _ kf cf T by rw [← hw4]; exact HLC3.out.set HXB.out 0 _)
      have HB4 := Lib.hid (show Below w.heap.size w w4 by rw [← hw4]; exact HB3.out.setCell (p := ⟨w.heap.size + 1 + 1, 0, none⟩) (by simp; omega) _)
      clear hw4 q1 q0 q0f qz HLC3 HB3 HXB HXR
      have q0 : w4.cell? ⟨w.heap.size + 1 + 1, 0, none⟩ = some (.slice (some ⟨g2, 0, none⟩) T.length c2) := blk_cell (cs := [.slice (some ⟨g2, 0, none⟩) T.length c2, .slice (some ⟨g2, 0, none⟩) (T.length + 2) c2, .slice qk T.length dk, .slice qc T.length dc]) xb4 rfl
      have q1 : w4.cell? ⟨w.heap.size + 1 + 1, 1, none⟩ = some (.slice (some ⟨g2, 0, none⟩) (T.length + 2) c2) := blk_cell (cs := [.slice (some ⟨g2, 0, none⟩) T.length c2, .slice (some ⟨g2, 0, none⟩) (T.length + 2) c2, .slice qk T.length dk, .slice qc T.length dc]) xb4 rfl
      have q2 : w4.cell? ⟨w.heap.size + 1 + 1, 2, none⟩ = some (.slice qk T.length dk) := blk_cell (cs := [.slice (some ⟨g2, 0, none⟩) T.length c2, .slice (some ⟨g2, 0, none⟩) (T.length + 2) c2, .slice qk T.length dk, .slice qc T.length dc]) xb4 rfl
      have q3 : w4.cell? ⟨w.heap.size + 1 + 1, 3, none⟩ = some (.slice qc T.length dc) := blk_cell (cs := [.slice (some ⟨g2, 0, none⟩) T.length c2, .slice (some ⟨g2, 0, none⟩) (T.length + 2) c2, .slice qk T.length dk, .slice qc T.length dc]) xb4 rfl
      have qz : w.heap.size + 1 + 1 < w4.heap.size := lt_of_block xb4
      have r0 : w4.cell? ⟨w.heap.size + 1, 0, none⟩ = some (.slice none 0 0) := blk_cell (cs := [.slice none 0 0, .slice none 0 0, .slice none 0 0, .slice none 0 0]) xr4 rfl
      have r1 : w4.cell? ⟨w.heap.size + 1, 1, none⟩ = some (.slice none 0 0) := blk_cell (cs := [.slice none 0 0, .slice none 0 0, .slice none 0 0, .slice none 0 0]) xr4 rfl
      have r2 : w4.cell? ⟨w.heap.size + 1, 2, none⟩ = some (.slice none 0 0) := blk_cell (cs := [.slice none 0 0, .slice none 0 0, .slice none 0 0, .slice none 0 0]) xr4 rfl
      have r3 : w4.cell? ⟨w.heap.size + 1, 3, none⟩ = some (.slice none 0 0) := blk_cell (cs := [.slice none 0 0, .slice none 0 0, .slice none 0 0, .slice none 0 0]) xr4 rfl
      have r0f : w4.frozen? ⟨w.heap.size + 1, 0, none⟩ = false := frozen_of_row _ _ _ _ _ xr4
      have r1f : w4.frozen? ⟨w.heap.size + 1, 1, none⟩ = false := frozen_of_row _ _ _ _ _ xr4
      have r2f : w4.frozen? ⟨w.heap.size + 1, 2, none⟩ = false := frozen_of_row _ _ _ _ _ xr4
      have r3f : w4.frozen? ⟨w.heap.size + 1, 3, none⟩ = false := frozen_of_row _ _ _ _ _ xr4
      have rz : w.heap.size + 1 < w4.heap.size := lt_of_block xr4
      obtain ⟨hf, k5, b5⟩ := lent_ret HLC4.out HB4.out xr4 (.slice (some ⟨g2, 0, none⟩) T.length c2) (.slice (some ⟨g2, 0, none⟩) (T.length + 2) c2) (.slice qk T.length dk) (.slice qc T.length dc)
      have HF := Lib.hid hf
      have HK5 := Lib.hid k5
      have HB5 := Lib.hid b5
      clear xb4 xr4 hf k5 b5 HLC4 HB4
      go_wp2
      generalize hw5 : World.setCell _ _ _ = w5
      rw [hw5] at HF HK5 HB5
      have e0 : w5.cell? ⟨w.heap.size + 1, 0, none⟩ = some (.slice (some ⟨g2, 0, none⟩) T.length c2) := blk_cell (cs := [.slice (some ⟨g2, 0, none⟩) T.length c2, .slice (some ⟨g2, 0, none⟩) (T.length + 2) c2, .slice qk T.length dk, .slice qc T.length dc]) HF.out rfl
      have e1 : w5.cell? ⟨w.heap.size + 1, 1, none⟩ = some (.slice (some ⟨g2, 0, none⟩) (T.length + 2) c2) := blk_cell (cs := [.slice (some ⟨g2, 0, none⟩) T.length c2, .slice (some ⟨g2, 0, none⟩) (T.length + 2) c2, .slice qk T.length dk, .slice qc T.length dc]) HF.out rfl
      have e2 : w5.cell? ⟨w.heap.size + 1, 2, none⟩ = some (.slice qk T.length dk) := blk_cell (cs := [.slice (some ⟨g2, 0, none⟩) T.length c2, .slice (some ⟨g2, 0, none⟩) (T.length + 2) c2, .slice qk T.length dk, .slice qc T.length dc]) HF.out rfl
      have e3 : w5.cell? ⟨w.heap.size + 1, 3, none⟩ = some (.slice qc T.length dc) := blk_cell (cs := [.slice (some ⟨g2, 0, none⟩) T.length c2, .slice (some ⟨g2, 0, none⟩) (T.length + 2) c2, .slice qk T.length dk, .slice qc T.length dc]) HF.out rfl
      have ez := lt_of_block HF.out
      exact bodyPost_ret (v := .agg #[.slice (some ⟨g2, 0, none⟩) T.length c2, .slice (some ⟨g2, 0, none⟩) (T.length + 2) c2, .slice qk T.length dk, .slice qc T.length dc]) (by simp [results, Try.results14, go_sem, e0, e1, e2, e3, ez]) rfl ⟨_, _, _, _, rfl, ⟨rfl, kf, cf, HK5.out⟩, HB5.out⟩
end Go.Proofs.Ytcihihncgpddfaa
