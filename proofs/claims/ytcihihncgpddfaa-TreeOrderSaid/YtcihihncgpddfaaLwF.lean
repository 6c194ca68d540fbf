/- TreeOrder: the walk. -/
import Derived.Test.YtcihihncgpddfaaLwA
import Derived.Test.YtcihihncgpddfaaAnyH
import Derived.Test.YtcihihncgpddfaaOdD
import Derived.Test.YtcihihncgpddfaaApZ
import Derived.Test.YtcihihncgpddfaaDwr
namespace Go.Proofs.Ytcihihncgpddfaa
open Go.RowKit Go.Deep
set_option linter.unusedVariables false
set_option linter.unusedSimpArgs false

theorem ints_of {w : World} {base n : Nat} {v : Value} {L : List Int} (h : w.ownsRow base 3 1 v L.length (L.map (Value.int .i64))) : ∃ p c, v = .slice p L.length c ∧ IntsAt w v L := by
  have hi := row_ints h
  obtain ⟨p, c, rfl, h'⟩ := hi
  exact ⟨p, c, rfl, p, c, rfl, h'⟩
/-- four lists of the call's own, told by a block -/
theorem told_four {w : World} {base ob : Nat} {v0 v1 v2 v3 : Value} {P O : List Int} {b1 b2 b3 : Nat} (hb : w.heap[ob]? = some (.cells #[v0, v1, v2, v3] 45 (0, 0)))
    (h0 : w.ownsRow base 3 1 v0 P.length (P.map (Value.int .i64))) (h1 : w.ownsRow b1 3 1 v1 P.length (P.map (Value.int .i64))) (h2 : w.ownsRow b2 3 1 v2 O.length (O.map (Value.int .i64))) (h3 : w.ownsRow b3 3 1 v3 O.length (O.map (Value.int .i64)))
    (l0 : ∀ q, v0.ownBlock = some q → q < b1) (l1 : ∀ q, v1.ownBlock = some q → q < b2) (l2 : ∀ q, v2.ownBlock = some q → q < b3) (s1 : base ≤ b1) (s2 : b1 ≤ b2) (s3 : b2 ≤ b3) : ToldI w base ob 0 [v0, v1, v2, v3] [P, P, O, O] := by
  have g1 := fun q hq => (row_lt h1 q hq).2
  have g2 := fun q hq => (row_lt h2 q hq).2
  have g3 := fun q hq => (row_lt h3 q hq).2
  have ne : ∀ {a b : Value}, (∀ q, a.ownBlock = some q → b.ownBlock ≠ some q) → a.ownBlock = none ∨ a.ownBlock ≠ b.ownBlock := fun {a b} h => (Option.eq_none_or_eq_some a.ownBlock).elim .inl (fun ⟨q, e⟩ => .inr (fun e' => h q e (by rw [← e', e])))
  have n01 : ∀ q, v0.ownBlock = some q → v1.ownBlock ≠ some q := fun q h e => by have := l0 q h; have := g1 q e; omega
  have n02 : ∀ q, v0.ownBlock = some q → v2.ownBlock ≠ some q := fun q h e => by have := l0 q h; have := g2 q e; omega
  have n03 : ∀ q, v0.ownBlock = some q → v3.ownBlock ≠ some q := fun q h e => by have := l0 q h; have := g3 q e; omega
  have n12 : ∀ q, v1.ownBlock = some q → v2.ownBlock ≠ some q := fun q h e => by have := l1 q h; have := g2 q e; omega
  have n13 : ∀ q, v1.ownBlock = some q → v3.ownBlock ≠ some q := fun q h e => by have := l1 q h; have := g3 q e; omega
  have n23 : ∀ q, v2.ownBlock = some q → v3.ownBlock ≠ some q := fun q h e => by have := l2 q h; have := g3 q e; omega
  refine ⟨rfl, lt_of_block hb, fun i hi => ?_, fun i hi => ?_, fun i j hi hj hij => ?_, fun i hi => ?_⟩
  · have hi : i < 4 := hi
    rw [Nat.zero_add]
    rcases (show i = 0 ∨ i = 1 ∨ i = 2 ∨ i = 3 by omega) with rfl | rfl | rfl | rfl <;> exact blk_cell (cs := [v0, v1, v2, v3]) hb rfl
  · have hi : i < 4 := hi
    rcases (show i = 0 ∨ i = 1 ∨ i = 2 ∨ i = 3 by omega) with rfl | rfl | rfl | rfl
    · exact h0
    · exact row_base h1 s1
    · exact row_base h2 (Nat.le_trans s1 s2)
    · exact row_base h3 (Nat.le_trans s1 (Nat.le_trans s2 s3))
  · have hi : i < 4 := hi
    have hj : j < 4 := hj
    rcases (show i = 0 ∨ i = 1 ∨ i = 2 ∨ i = 3 by omega) with rfl | rfl | rfl | rfl <;> rcases (show j = 0 ∨ j = 1 ∨ j = 2 ∨ j = 3 by omega) with rfl | rfl | rfl | rfl
    · exact absurd rfl hij
    · exact ne n01
    · exact ne n02
    · exact ne n03
    · exact ne fun q h e => n01 q e h
    · exact absurd rfl hij
    · exact ne n12
    · exact ne n13
    · exact ne fun q h e => n02 q e h
    · exact ne fun q h e => n12 q e h
    · exact absurd rfl hij
    · exact ne n23
    · exact ne fun q h e => n03 q e h
    · exact ne fun q h e => n13 q e h
    · exact ne fun q h e => n23 q e h
    · exact absurd rfl hij
  · have hi : i < 4 := hi
    rcases (show i = 0 ∨ i = 1 ∨ i = 2 ∨ i = 3 by omega) with rfl | rfl | rfl | rfl
    · exact row_blk_ne h0 hb (by decide)
    · exact row_blk_ne h1 hb (by decide)
    · exact row_blk_ne h2 hb (by decide)
    · exact row_blk_ne h3 hb (by decide)
theorem par_len (T : List Nd) : (parL T).length ≤ 4096 := by
  by_cases h : (checkT T).1 = 0
  · rw [← refP_eq h, List.length_map, List.length_range]; exact (check_len h).2
  · rw [parL_wrong h]; simp
set_option maxRecDepth 100000 in
set_option maxHeartbeats 8000000 in
theorem TreeOrder_walk (pt : Option Addr) (ct : Nat) (T : List Nd) (w : World) (hT : TreeAt w (.slice pt T.length ct) T) (hD : ∀ x ∈ T, NdDeep x) : Calls Try.prog 11 #[.agg #[.slice pt T.length ct]] w fun e w' => e = .returned (.bool true) ∧ Below w.heap.size w w' := by
  obtain ⟨P, hP⟩ : ∃ x, x = parL T := ⟨_, rfl⟩
  obtain ⟨O, hO⟩ : ∃ x, x = ordL T := ⟨_, rfl⟩
  have hPl : P.length ≤ 4096 := by rw [hP]; exact par_len T
  have hOl : O.length ≤ 4096 := by rw [hO]; exact stepO_len T
  have EP := Lib.hid hP
  have EO := Lib.hid hO
  clear hP hO
  have HOK := Lib.hid hT.ok
  obtain ⟨w1, hw1⟩ : ∃ x, x = w.alloc (.cells #[.slice pt T.length ct] 24) := ⟨_, rfl⟩
  have B1 : Below w.heap.size w w1 := by rw [hw1]; exact below_al (Below.refl _ _) _
  have c1 : w1.cell? ⟨w.heap.size, 0, none⟩ = some (.slice pt T.length ct) := by rw [hw1]; simp [go_sem]
  have z1 : w.heap.size < w1.heap.size := by rw [hw1]; simp <;> omega
  have HT1 := Lib.hid (hT.later B1)
  have HB1 := Lib.hid B1
  obtain ⟨tb, htb⟩ : ∃ x, x = w.heap.size := ⟨_, rfl⟩
  have HC1 := Lib.hid c1
  have HCC := Lib.hid (fun w' (h : Below w1.heap.size w1 w') => show w'.cell? ⟨tb, 0, none⟩ = some (.slice pt T.length ct) by rw [htb, (bcell h).1 _ _ z1]; exact HC1.out)
  have HZZ := Lib.hid (fun w' (h : Below w1.heap.size w1 w') => show tb < w'.heap.size by have := h.size; omega)
  have HNB := Lib.hid (beyond_any pt ct T w1 HT1.out hD)
  rw [← htb] at c1 z1
  clear B1 hT hD
  go_enter Try.func11, Try.ntmps11
  go_upto_region 1 with (fail)
  rw [← hw1, ← htb]
  clear hw1 htb
  go_wp2_with fail
  refine HNB.out.mono ?_
  clear HNB
  rintro e w2 ⟨rfl, hb2⟩
  have c2 := HCC.out w2 hb2
  have z2 := HZZ.out w2 hb2
  have HB2 := Lib.hid hb2
  clear c1 z1 hb2
  by_cases hbig : 134217728 < sumW T
  · rw [decide_eq_true hbig]
    go_wp2
    go_ret
    exact ⟨rfl, below_via HB2.out HB1.out⟩
  · rw [decide_eq_false hbig]
    have HNK := Lib.hid (not_beyond hbig)
    clear hbig
    go_wp2_with fail
    refine (ref_Parents_any pt ct T w2 (HT1.out.later HB2.out)).mono ?_
    rw [← EP.out]
    rintro e w3 ⟨vp, rfl, ownp, hb3⟩
    have HB3 := Lib.hid (below_via hb3 HB2.out)
    have c3 := HCC.out w3 HB3.out
    have z3 := HZZ.out w3 HB3.out
    obtain ⟨pp, kp, rfl, ip⟩ := ints_of (n := 0) ownp
    have IP3 := Lib.hid ip
    clear c2 z2 hb3 ownp ip
    go_wp2_with fail
    refine (ref_Order_any pt ct T w3 (HT1.out.later HB3.out)).mono ?_
    rw [← EO.out]
    rintro e w4 ⟨vo, rfl, owno, hb4⟩
    have HB4 := Lib.hid (below_via hb4 HB3.out)
    have c4 := HCC.out w4 HB4.out
    have z4 := HZZ.out w4 HB4.out
    obtain ⟨po, ko, rfl, io⟩ := ints_of (n := 0) owno
    have IO4 := Lib.hid io
    have IP4 := Lib.hid (IP3.out.later hb4 (Nat.le_refl _))
    clear c3 z3 hb4 owno io IP3
    go_wp2_with fail
    refine (lent_any pt ct T w4 (HT1.out.later HB4.out) HNK.out.1 HNK.out.2).mono ?_
    rintro e wl ⟨tv, full, vk, vc, rfl, LA, hbl⟩
    obtain ⟨g, cg, qk, dk, qc, dc, rfl, rfl, rfl, rfl⟩ := LA.forms
    obtain ⟨w5, hw5⟩ : ∃ x, x = wl.alloc (.cells #[.slice (some ⟨g, 0, none⟩) T.length cg, .slice (some ⟨g, 0, none⟩) (T.length + 2) cg, .slice qk T.length dk, .slice qc T.length dc] 29) := ⟨_, rfl⟩
    have Bl5 : Below wl.heap.size wl w5 := by rw [hw5]; exact below_al (Below.refl _ _) _
    have HB5 := Lib.hid (below_via Bl5 (below_via hbl HB4.out))
    have HL5 := Lib.hid (LA.later Bl5)
    obtain ⟨xb, hxb⟩ : ∃ x, x = wl.heap.size := ⟨_, rfl⟩
    have HXK := Lib.hid (show w5.heap[xb]? = some (.cells #[.slice (some ⟨g, 0, none⟩) T.length cg, .slice (some ⟨g, 0, none⟩) (T.length + 2) cg, .slice qk T.length dk, .slice qc T.length dc] 29 (0, 0)) by rw [hw5, hxb]; exact heap_alloc_new _ _)
    have HXC := Lib.hid (fun w' (h : Below w5.heap.size w5 w') => show w'.cell? ⟨xb, 0, none⟩ = some (.slice (some ⟨g, 0, none⟩) T.length cg) ∧ w'.cell? ⟨xb, 1, none⟩ = some (.slice (some ⟨g, 0, none⟩) (T.length + 2) cg) ∧ w'.cell? ⟨xb, 2, none⟩ = some (.slice qk T.length dk) ∧ w'.cell? ⟨xb, 3, none⟩ = some (.slice qc T.length dc) ∧ xb < w'.heap.size from by
      have hx := (h.block _ (lt_of_block HXK.out)).trans HXK.out
      exact ⟨blk_cell (cs := [.slice (some ⟨g, 0, none⟩) T.length cg, .slice (some ⟨g, 0, none⟩) (T.length + 2) cg, .slice qk T.length dk, .slice qc T.length dc]) hx rfl, blk_cell (cs := [.slice (some ⟨g, 0, none⟩) T.length cg, .slice (some ⟨g, 0, none⟩) (T.length + 2) cg, .slice qk T.length dk, .slice qc T.length dc]) hx rfl, blk_cell (cs := [.slice (some ⟨g, 0, none⟩) T.length cg, .slice (some ⟨g, 0, none⟩) (T.length + 2) cg, .slice qk T.length dk, .slice qc T.length dc]) hx rfl, blk_cell (cs := [.slice (some ⟨g, 0, none⟩) T.length cg, .slice (some ⟨g, 0, none⟩) (T.length + 2) cg, .slice qk T.length dk, .slice qc T.length dc]) hx rfl, lt_of_block hx⟩)
    obtain ⟨x5, -, -, -, y5⟩ := HXC.out w5 (Below.refl _ _)
    have BlF := Bl5
    have hblF := hbl
    clear c4 z4 Bl5 hbl LA
    go_upto_region 6 with (fail)
    rw [← hw5, ← hxb]
    clear hw5 hxb
    have IO5 := Lib.hid (IO4.out.later (below_via BlF hblF) (Nat.le_refl _))
    have IP5 := Lib.hid (IP4.out.later (below_via BlF hblF) (Nat.le_refl _))
    have HLT := Lib.hid (HL5.out.at_ HOK.out)
    clear IO4 IP4 BlF hblF x5 y5
    have HF := Lib.hid (fun w' (h : Below w5.heap.size w5 w') => show w'.cell? ⟨xb, 0, none⟩ = some (.slice (some ⟨g, 0, none⟩) T.length cg) ∧ xb < w'.heap.size from ⟨(HXC.out w' h).1, (HXC.out w' h).2.2.2.2⟩)
    have HS5 := Lib.hid (Below.drew (Below.refl w5.heap.size w5))
    have CP := Lib.hid (fun w' (h : Below w5.heap.size w5 w') => show Calls Try.prog 33 #[.agg #[.slice (some ⟨g, 0, none⟩) T.length cg]] w' fun e w'' => ∃ v, e = .returned v ∧ w''.ownsRow w'.heap.size 3 1 v P.length (P.map (Value.int .i64)) ∧ Below w'.heap.size w' w'' from by rw [EP.out]; exact tree_Parents_any _ _ T w' (HLT.out.later h))
    have CO := Lib.hid (fun w' (h : Below w5.heap.size w5 w') => show Calls Try.prog 34 #[.agg #[.slice (some ⟨g, 0, none⟩) T.length cg]] w' fun e w'' => ∃ v, e = .returned v ∧ w''.ownsRow w'.heap.size 3 1 v O.length (O.map (Value.int .i64)) ∧ Below w'.heap.size w' w'' from by rw [EO.out]; exact tree_Order_any _ _ T w' (HLT.out.later h))
    clear EP EO
    refine wp_region_noPanic ?_
    refine wp_region_held (S := fun w' => Below w5.heap.size w5 w') (by kernel_rfl) ?_
    change wpAnyH _ _ _ _ _ 14 (Array.replicate 14 false) _ _
    refine wpAnyH_take (i := 0) (v := ?v0) (by simp only [List.getElem?_toArray, List.getElem?_cons_succ, List.getElem?_cons_zero]; rfl) (by kernel_rfl) (by kernel_rfl) (by kernel_rfl) (fun _ _ _ h => h) (.inl ⟨by rfl, ?t0⟩) ?s0 ?_
    case t0 => (intro w' h; clear h; go_simp; try rfl)
    case s0 => exact HS5.out
    (try simp only [Act.put, List.setIfInBounds_toArray, List.set_cons_zero, List.set_cons_succ])
    refine wpAnyH_take (i := 1) (v := ?v1) (by simp only [List.getElem?_toArray, List.getElem?_cons_succ, List.getElem?_cons_zero]; rfl) (by kernel_rfl) (by kernel_rfl) (by kernel_rfl) (fun _ _ _ h => h) (.inl ⟨by rfl, ?t1⟩) ?s1 ?_
    case t1 => (intro w' h; have FK := HF.out w' h; clear h; go_split_ands; go_simp; try rfl)
    case s1 => exact HS5.out
    (try simp only [Act.put, List.setIfInBounds_toArray, List.set_cons_zero, List.set_cons_succ])
    refine wpAnyH_take (i := 3) (v := ?v3) (by simp only [List.getElem?_toArray, List.getElem?_cons_succ, List.getElem?_cons_zero]; rfl) (by kernel_rfl) (by kernel_rfl) (by kernel_rfl) (fun _ _ _ h => h) (.inl ⟨by rfl, ?t3⟩) ?s3 ?_
    case t3 => (intro w' h; clear h; go_simp; try rfl)
    case s3 => exact HS5.out
    (try simp only [Act.put, List.setIfInBounds_toArray, List.set_cons_zero, List.set_cons_succ])
    refine wpAnyH_take (i := 4) (v := ?v4) (by simp only [List.getElem?_toArray, List.getElem?_cons_succ, List.getElem?_cons_zero]; rfl) (by kernel_rfl) (by kernel_rfl) (by kernel_rfl) (fun _ _ _ h => h) (.inl ⟨by rfl, ?t4⟩) ?s4 ?_
    case t4 => (intro w' h; have FK := HF.out w' h; clear h; go_split_ands; go_simp; try rfl)
    case s4 => exact HS5.out
    (try simp only [Act.put, List.setIfInBounds_toArray, List.set_cons_zero, List.set_cons_succ])
    refine wpAnyH_take (i := 6) (v := ?v6) (by simp only [List.getElem?_toArray, List.getElem?_cons_succ, List.getElem?_cons_zero]; rfl) (by kernel_rfl) (by kernel_rfl) (by kernel_rfl) (fun _ _ _ h => h) (.inl ⟨by rfl, ?t6⟩) ?s6 ?_
    case t6 => (intro w' h; clear h; go_simp; try rfl)
    case s6 => exact HS5.out
    (try simp only [Act.put, List.setIfInBounds_toArray, List.set_cons_zero, List.set_cons_succ])
    refine wpAnyH_take (i := 7) (v := ?v7) (by simp only [List.getElem?_toArray, List.getElem?_cons_succ, List.getElem?_cons_zero]; rfl) (by kernel_rfl) (by kernel_rfl) (by kernel_rfl) (fun _ _ _ h => h) (.inl ⟨by rfl, ?t7⟩) ?s7 ?_
    case t7 => (intro w' h; have FK := HF.out w' h; clear h; go_split_ands; go_simp; try rfl)
    case s7 => exact HS5.out
    (try simp only [Act.put, List.setIfInBounds_toArray, List.set_cons_zero, List.set_cons_succ])
    refine wpAnyH_take (i := 9) (v := ?v9) (by simp only [List.getElem?_toArray, List.getElem?_cons_succ, List.getElem?_cons_zero]; rfl) (by kernel_rfl) (by kernel_rfl) (by kernel_rfl) (fun _ _ _ h => h) (.inl ⟨by rfl, ?t9⟩) ?s9 ?_
    case t9 => (intro w' h; clear h; go_simp; try rfl)
    case s9 => exact HS5.out
    (try simp only [Act.put, List.setIfInBounds_toArray, List.set_cons_zero, List.set_cons_succ])
    refine wpAnyH_take (i := 10) (v := ?v10) (by simp only [List.getElem?_toArray, List.getElem?_cons_succ, List.getElem?_cons_zero]; rfl) (by kernel_rfl) (by kernel_rfl) (by kernel_rfl) (fun _ _ _ h => h) (.inl ⟨by rfl, ?t10⟩) ?s10 ?_
    case t10 => (intro w' h; have FK := HF.out w' h; clear h; go_split_ands; go_simp; try rfl)
    case s10 => exact HS5.out
    (try simp only [Act.put, List.setIfInBounds_toArray, List.set_cons_zero, List.set_cons_succ])
    refine wpAnyH_one (i := 2) (by kernel_rfl) ?_
    refine wpOp_call (by simp only [List.getElem?_toArray, List.getElem?_cons_succ, List.getElem?_cons_zero]; rfl) (by rfl) (by go_simp; first | exact ⟨rfl, rfl⟩ | rfl) ?_
    refine (CP.out _ HS5.out).mono ?_
    rintro e w6 ⟨u0, rfl, own0, hb0⟩
    obtain ⟨a0, k0, rfl, -⟩ := ints_of (n := 0) own0
    have OW0 := Lib.hid own0
    have HBC0 := Lib.hid hb0
    have H6 := Lib.hid (below_via hb0 HS5.out)
    clear own0 hb0
    refine ⟨_, rfl, H6.out, ?_⟩
    (try simp only [Act.put, List.setIfInBounds_toArray, List.set_cons_zero, List.set_cons_succ])
    refine wpAnyH_one (i := 5) (by kernel_rfl) ?_
    refine wpOp_call (by simp only [List.getElem?_toArray, List.getElem?_cons_succ, List.getElem?_cons_zero]; rfl) (by rfl) (by go_simp; first | exact ⟨rfl, rfl⟩ | rfl) ?_
    refine (CP.out _ H6.out).mono ?_
    rintro e w7 ⟨u1, rfl, own1, hb1⟩
    obtain ⟨a1, k1, rfl, -⟩ := ints_of (n := 0) own1
    have OW1 := Lib.hid own1
    have HBC1 := Lib.hid hb1
    have H7 := Lib.hid (below_via hb1 H6.out)
    clear own1 hb1
    refine ⟨_, rfl, H7.out, ?_⟩
    (try simp only [Act.put, List.setIfInBounds_toArray, List.set_cons_zero, List.set_cons_succ])
    refine wpAnyH_one (i := 8) (by kernel_rfl) ?_
    refine wpOp_call (by simp only [List.getElem?_toArray, List.getElem?_cons_succ, List.getElem?_cons_zero]; rfl) (by rfl) (by go_simp; first | exact ⟨rfl, rfl⟩ | rfl) ?_
    refine (CO.out _ H7.out).mono ?_
    rintro e w8 ⟨u2, rfl, own2, hb2⟩
    obtain ⟨a2, k2, rfl, -⟩ := ints_of (n := 0) own2
    have OW2 := Lib.hid own2
    have HBC2 := Lib.hid hb2
    have H8 := Lib.hid (below_via hb2 H7.out)
    clear own2 hb2
    refine ⟨_, rfl, H8.out, ?_⟩
    (try simp only [Act.put, List.setIfInBounds_toArray, List.set_cons_zero, List.set_cons_succ])
    refine wpAnyH_one (i := 11) (by kernel_rfl) ?_
    refine wpOp_call (by simp only [List.getElem?_toArray, List.getElem?_cons_succ, List.getElem?_cons_zero]; rfl) (by rfl) (by go_simp; first | exact ⟨rfl, rfl⟩ | rfl) ?_
    refine (CO.out _ H8.out).mono ?_
    rintro e w9 ⟨u3, rfl, own3, hb3⟩
    obtain ⟨a3, k3, rfl, -⟩ := ints_of (n := 0) own3
    have OW3 := Lib.hid own3
    have HBC3 := Lib.hid hb3
    have H9 := Lib.hid (below_via hb3 H8.out)
    clear own3 hb3
    refine ⟨_, rfl, H9.out, ?_⟩
    (try simp only [Act.put, List.setIfInBounds_toArray, List.set_cons_zero, List.set_cons_succ])
    refine wpAnyH_one (i := 12) (by kernel_rfl) ?_
    refine wpOp_value (v := .slice (some ⟨w9.heap.size, 0, none⟩) 4 4) (w' := w9.alloc (.cells #[.slice a0 P.length k0, .slice a1 P.length k1, .slice a2 O.length k2, .slice a3 O.length k3] 45)) (by simp only [List.getElem?_toArray, List.getElem?_cons_succ, List.getElem?_cons_zero]; rfl) (by rfl) ?mk (below_al H9.out _) ?_
    case mk => (go_simp; try rfl)
    (try simp only [Act.put, List.setIfInBounds_toArray, List.set_cons_zero, List.set_cons_succ])
    refine wpAnyH_take (i := 13) (v := ?v13) (by simp only [List.getElem?_toArray, List.getElem?_cons_succ, List.getElem?_cons_zero]; rfl) (by kernel_rfl) (by kernel_rfl) (by kernel_rfl) (fun _ _ _ h => h) (.inl ⟨by rfl, ?t13⟩) ?s13 ?_
    case t13 => (intro w' h; clear h; go_simp; try rfl)
    case s13 => exact (below_al H9.out _)
    (try simp only [Act.put, List.setIfInBounds_toArray, List.set_cons_zero, List.set_cons_succ])
    refine wpAnyH_done (by kernel_rfl) (NoPanic.normal ?_) _
    obtain ⟨ob, hob⟩ : ∃ x, x = w9.heap.size := ⟨_, rfl⟩
    obtain ⟨w10, hw10⟩ : ∃ x, x = w9.alloc (.cells #[.slice a0 P.length k0, .slice a1 P.length k1, .slice a2 O.length k2, .slice a3 O.length k3] 45) := ⟨_, rfl⟩
    have B910 : Below w9.heap.size w9 w10 := by rw [hw10]; exact below_al (Below.refl _ _) _
    have OB := Lib.hid (show w10.heap[ob]? = some (.cells #[.slice a0 P.length k0, .slice a1 P.length k1, .slice a2 O.length k2, .slice a3 O.length k3] 45 (0, 0)) by rw [hw10, hob]; exact heap_alloc_new _ _)
    have B810 := below_via B910 HBC3.out
    have B710 := below_via B810 HBC2.out
    have B610 := below_via B710 HBC1.out
    have R0 := Lib.hid (row_later OW0.out B610)
    have R1 := Lib.hid (row_later OW1.out B710)
    have R2 := Lib.hid (row_later OW2.out B810)
    have R3 := Lib.hid (row_later OW3.out B910)
    have L0 := Lib.hid (fun q hq => (row_lt OW0.out q hq).1)
    have L1 := Lib.hid (fun q hq => (row_lt OW1.out q hq).1)
    have L2 := Lib.hid (fun q hq => (row_lt OW2.out q hq).1)
    have SZ := Lib.hid (And.intro HBC0.out.size (And.intro HBC1.out.size (And.intro HBC2.out.size HBC3.out.size)))
    have H10 := Lib.hid (below_via B910 H9.out)
    have HG := Lib.hid (fun w' (h : Below w10.heap.size w10 w') => show w'.cell? ⟨ob, 0, none⟩ = some (.slice a0 P.length k0) ∧ w'.cell? ⟨ob, 1, none⟩ = some (.slice a1 P.length k1) ∧ w'.cell? ⟨ob, 2, none⟩ = some (.slice a2 O.length k2) ∧ w'.cell? ⟨ob, 3, none⟩ = some (.slice a3 O.length k3) ∧ ob < w'.heap.size from by
      have hx := (h.block _ (lt_of_block OB.out)).trans OB.out
      exact ⟨blk_cell (cs := [.slice a0 P.length k0, .slice a1 P.length k1, .slice a2 O.length k2, .slice a3 O.length k3]) hx rfl, blk_cell (cs := [.slice a0 P.length k0, .slice a1 P.length k1, .slice a2 O.length k2, .slice a3 O.length k3]) hx rfl, blk_cell (cs := [.slice a0 P.length k0, .slice a1 P.length k1, .slice a2 O.length k2, .slice a3 O.length k3]) hx rfl, blk_cell (cs := [.slice a0 P.length k0, .slice a1 P.length k1, .slice a2 O.length k2, .slice a3 O.length k3]) hx rfl, lt_of_block hx⟩)
    have E0 := Lib.hid (row_ints R0.out)
    have E1 := Lib.hid (row_ints R1.out)
    have E2 := Lib.hid (row_ints R2.out)
    have E3 := Lib.hid (row_ints R3.out)
    rw [← hw10, ← hob]
    clear hw10 hob B910 B810 B710 B610 OW0 OW1 OW2 OW3 HBC0 HBC1 HBC2 HBC3 H6 H7 H8 H9 HS5
    obtain ⟨g0, -, -, -, gz⟩ := HG.out w10 (Below.refl _ _)
    go_wp2_with fail
    refine (same_Ints_any _ _ P w10 E0.out (IP5.out.later H10.out (Nat.le_refl _))).mono ?_
    rintro e w11 ⟨rfl, hb11⟩
    have N11 := Lib.hid hb11
    clear g0 gz hb11
    obtain ⟨-, g1, -, -, gz⟩ := HG.out w11 N11.out
    go_wp2_with fail
    refine (same_Ints_any _ _ P w11 (E1.out.later N11.out (Nat.le_refl _)) (IP5.out.later (below_via N11.out H10.out) (Nat.le_refl _))).mono ?_
    rintro e w12 ⟨rfl, hb12⟩
    have N12 := Lib.hid (below_via hb12 N11.out)
    clear g1 gz hb12
    obtain ⟨-, -, g2, -, gz⟩ := HG.out w12 N12.out
    go_wp2_with fail
    refine (same_Ints_any _ _ O w12 (E2.out.later N12.out (Nat.le_refl _)) (IO5.out.later (below_via N12.out H10.out) (Nat.le_refl _))).mono ?_
    rintro e w13 ⟨rfl, hb13⟩
    have N13 := Lib.hid (below_via hb13 N12.out)
    clear g2 gz hb13
    obtain ⟨-, -, -, g3, gz⟩ := HG.out w13 N13.out
    go_wp2_with fail
    refine (same_Ints_any _ _ O w13 (E3.out.later N13.out (Nat.le_refl _)) (IO5.out.later (below_via N13.out H10.out) (Nat.le_refl _))).mono ?_
    rintro e w14 ⟨rfl, hb14⟩
    have N14 := Lib.hid (below_via hb14 N13.out)
    clear g3 gz hb14 E0 E1 E2 E3 HG
    have TD := Lib.hid (told_four (base := w5.heap.size) ((N14.out.block _ (lt_of_block OB.out)).trans OB.out) (row_later R0.out N14.out) (row_later R1.out N14.out) (row_later R2.out N14.out) (row_later R3.out N14.out) L0.out L1.out L2.out SZ.out.1 SZ.out.2.1 SZ.out.2.2.1)
    have H14 := Lib.hid (below_via N14.out H10.out)
    have AP := Lib.hid (apart_some w5.heap.size ob 0 4 4 _ _ w14 rfl TD.out (by omega) (fun L hL => by
      simp only [List.mem_cons, List.not_mem_nil, or_false] at hL
      rcases hL with rfl | rfl | rfl | rfl <;> omega) H14.out.size)
    clear TD R0 R1 R2 R3 L0 L1 L2 SZ OB N11 N12 N13 N14 H10
    go_wp2_with fail
    refine AP.out.mono ?_
    clear AP
    rintro e w15 ⟨rfl, hb15⟩
    have H15 := Lib.hid (H14.out.trans hb15)
    clear hb15 H14
    obtain ⟨x15, y15⟩ := HF.out w15 H15.out
    go_wp2_with fail
    refine (CP.out w15 H15.out).mono ?_
    rintro e w16 ⟨v16, rfl, own16, hb16⟩
    obtain ⟨p16, k16, rfl, i16⟩ := ints_of (n := 0) own16
    have I16 := Lib.hid i16
    have H16 := Lib.hid (below_via hb16 H15.out)
    clear own16 i16 hb16 x15 y15
    go_wp2_with fail
    refine (same_Ints_any _ _ P w16 I16.out (IP5.out.later H16.out (Nat.le_refl _))).mono ?_
    rintro e w17 ⟨rfl, hb17⟩
    have H17 := Lib.hid (below_via hb17 H16.out)
    clear hb17 I16
    obtain ⟨x17, y17⟩ := HF.out w17 H17.out
    go_wp2_with fail
    refine (CO.out w17 H17.out).mono ?_
    rintro e w18 ⟨v18, rfl, own18, hb18⟩
    obtain ⟨p18, k18, rfl, i18⟩ := ints_of (n := 0) own18
    have I18 := Lib.hid i18
    have H18 := Lib.hid (below_via hb18 H17.out)
    clear own18 i18 hb18 x17 y17
    go_wp2_with fail
    refine (same_Ints_any _ _ O w18 I18.out (IO5.out.later H18.out (Nat.le_refl _))).mono ?_
    rintro e w19 ⟨rfl, hb19⟩
    have HM19 := Lib.hid (below_via hb19 H18.out)
    clear hb19 I18
    have HB19 := Lib.hid (below_via HM19.out HB5.out)
    have c19 := HCC.out w19 HB19.out
    have z19 := HZZ.out w19 HB19.out
    obtain ⟨x190, x191, x192, x193, y19⟩ := HXC.out w19 HM19.out
    go_wp2_with fail
    refine (stays_any _ _ _ _ pt ct T _ w19 (HL5.out.later HM19.out) (HT1.out.later HB19.out)).mono ?_
    rintro e ws ⟨rfl, hbs⟩
    have HBs := Lib.hid (below_via hbs HB19.out)
    clear hbs
    go_wp2_with fail
    refine (wakes_any _).mono ?_
    rintro e wf ⟨rfl, hbf⟩
    have BF := Lib.hid (below_via (below_via hbf HBs.out) HB1.out)
    clear hbf
    go_wp2
    go_ret
    exact ⟨rfl, BF.out⟩
end Go.Proofs.Ytcihihncgpddfaa
