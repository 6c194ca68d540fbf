/- Layer 07: RectSets' walk. -/
import Derived.Test.YtekcheccelllcaaRgU
import Derived.Test.YtekcheccelllcaaRgCc
import Derived.Test.YtekcheccelllcaaRgT
import Derived.Test.YtekcheccelllcaaHeld
import Derived.Test.YtekcheccelllcaaAnyH
import Derived.BigQuiet
namespace Go.Proofs.Ytekcheccelllcaa
open Go.RowKit
set_option linter.unusedVariables false
set_option linter.unusedSimpArgs false

/-- points that lie in memory one behind the other -/
def PntAt (w : World) (g : Nat) (C : List (Int × Int)) : Prop := g < w.heap.size ∧ ∀ i, i < C.length → w.cell? ⟨g, i * 2, none⟩ = some (.int .i64 (C.getD i (0, 0)).1) ∧ w.cell? ⟨g, i * 2 + 1, none⟩ = some (.int .i64 (C.getD i (0, 0)).2)
theorem PntAt.later {w wr : World} {g : Nat} {C : List (Int × Int)} (h : PntAt w g C) (hb : Below w.heap.size w wr) : PntAt wr g C := by
  obtain ⟨h1, h2⟩ := h
  refine ⟨Nat.lt_of_lt_of_le h1 hb.size, fun i hi => ?_⟩
  rw [(bcell hb).1 _ _ h1, (bcell hb).1 _ _ h1]
  exact h2 i hi
theorem cellsP_rd (C : List (Int × Int)) (i : Nat) (h : i < C.length) : (cellsP C)[i * 2]? = some (.int .i64 (C.getD i (0, 0)).1) ∧ (cellsP C)[i * 2 + 1]? = some (.int .i64 (C.getD i (0, 0)).2) := by
  induction C generalizing i with
  | nil => simp at h
  | cons r C ih =>
    have e : cellsP (r :: C) = .int .i64 r.1 :: .int .i64 r.2 :: cellsP C := by simp [cellsP]
    rw [e]
    cases i with
    | zero => simp
    | succ i =>
      have := ih i (by simpa using h)
      rw [show (i + 1) * 2 = i * 2 + 1 + 1 by omega]
      simpa using this
theorem own_pnt {w : World} {base g n m cap : Nat} {C : List (Int × Int)} (h : w.ownsRow base 42 2 (.slice (some ⟨g, 0, none⟩) n cap) m (cellsP C)) : PntAt w g C := by
  refine ⟨(own_lt h g (by simp [Value.ownBlock])).1, fun i hi => ?_⟩
  have hc := h.cells (g := g) (by simp [Value.ownBlock])
  obtain ⟨d0, d1⟩ := cellsP_rd C i hi
  have c0 := hc _ _ d0
  have c1 := hc _ _ d1
  rw [addr_add] at c0 c1
  simpa using And.intro c0 c1
theorem own_stp {w : World} {base : Nat} {v : Value} {D : List (Int × R4)} {n : Nat} (h : w.ownsRow base 66 5 v n (stsV D)) (hn : n = D.length) : ∃ p c, v = .slice p n c ∧ StpAt w p D := by
  rcases row_form h with ⟨rfl, h0, _⟩ | ⟨g, c, rfl, _, _, hg, _⟩
  · exact ⟨none, 0, by rw [h0], fun h => by omega⟩
  · refine ⟨some ⟨g, 0, none⟩, c, rfl, fun _ => ⟨g, 0, rfl, hg, fun i hi j hj => ?_⟩⟩
    have e := stsV_at D i j hi hj
    obtain ⟨u, hu⟩ : ∃ u, (stC (D.getD i zS))[j]? = some u := by
      have : j < (stC (D.getD i zS)).length := by simpa [stC] using hj
      exact ⟨_, List.getElem?_eq_getElem this⟩
    rw [hu] at e ⊢
    have := row_cells h _ u e
    exact this
set_option maxRecDepth 100000 in
set_option maxHeartbeats 8000000 in
theorem within_any (r : R4) (x y : Int) (w : World) (h : PlaneR r) : Calls Try.prog 45 #[.agg #[.int .i64 r.x, .int .i64 r.y, .int .i64 r.w, .int .i64 r.h], .int .i64 x, .int .i64 y] w fun e w' => e = .returned (.bool (withinR r x y)) ∧ Below w.heap.size w w' := by
  obtain ⟨hsx, hsy⟩ := h.sums
  have b1 := h.x
  have b2 := h.y
  have b3 := h.w
  have b4 := h.h
  have b5 := h.xw
  have b6 := h.yh
  have hw1 : IntKind.i64.wrap (r.x + r.w) = r.x + r.w := wrap_small _ (by omega)
  have hw2 : IntKind.i64.wrap (r.y + r.h) = r.y + r.h := wrap_small _ (by omega)
  have HW := Lib.hid (show withinR r x y = decide (r.x ≤ x ∧ x < r.x + r.w ∧ r.y ≤ y ∧ y < r.y + r.h) from rfl)
  clear h b1 b2 b3 b4 b5 b6
  go_enter Try.func45, Try.ntmps45
  go_upto_region 1 with (fail)
  by_cases q0 : r.x ≤ x
  case neg =>
    go_wp2
    go_ret
    exact ⟨by (try rfl); (try simp [HW.out, q0]); (try omega), below_al (Below.refl _ _) _⟩
  by_cases q1 : x < r.x + r.w
  case neg =>
    go_wp2
    go_ret
    exact ⟨by (try rfl); (try simp [HW.out, q1]); (try omega), below_al (Below.refl _ _) _⟩
  by_cases q2 : r.y ≤ y
  case neg =>
    go_wp2
    go_ret
    exact ⟨by (try rfl); (try simp [HW.out, q2]); (try omega), below_al (Below.refl _ _) _⟩
  by_cases q3 : y < r.y + r.h
  case neg =>
    go_wp2
    go_ret
    exact ⟨by (try rfl); (try simp [HW.out, q3]); (try omega), below_al (Below.refl _ _) _⟩
  go_wp2
  go_ret
  exact ⟨by rw [HW.out, decide_eq_true (show _ from ⟨q0, q1, q2, q3⟩)]; rfl, below_al (Below.refl _ _) _⟩
theorem infoStep7 : (Try.prog.info? 66).map (fun i => (i.zero, i.size, i.bytes)) = some (some (.agg #[.int .i64 0, .int .i64 0, .int .i64 0, .int .i64 0, .int .i64 0]), 5, 40) := by kernel_rfl
theorem infoRect7 : (Try.prog.info? 23).map (fun i => (i.zero, i.size, i.bytes)) = some (some (.agg #[.int .i64 0, .int .i64 0, .int .i64 0, .int .i64 0]), 4, 32) := by kernel_rfl
/-- the state behind i steps -/
structure SetI (w w1 wr : World) (g : Nat) (D : List (Int × R4)) (dv : Value) (A : List R4) (av : Value) (i : Nat) : Prop where
  be : Below w.heap.size w wr
  z1 : w1.heap.size ≤ wr.heap.size
  rw : RwI w1.heap.size wr dv D av A
  rg : RgI w.heap.size wr g D
  ln : A.length = D.length
  dl : D.length ≤ i
  ao : ∀ r ∈ A, OwnF r
  dr : ∀ d ∈ D, isR d.2
theorem SetI.later {w w1 wr w' : World} {g : Nat} {D : List (Int × R4)} {dv : Value} {A : List R4} {av : Value} {i : Nat} (h : SetI w w1 wr g D dv A av i) (hb : Below wr.heap.size wr w') : SetI w w1 w' g D dv A av i :=
  ⟨below_via hb h.be, Nat.le_trans h.z1 hb.size, h.rw.later hb, h.rg.later hb, h.ln, h.dl, h.ao, h.dr⟩
theorem SetI.next {w w1 wr : World} {g : Nat} {D : List (Int × R4)} {dv : Value} {A : List R4} {av : Value} {i : Nat} (h : SetI w w1 wr g D dv A av i) : SetI w w1 wr g D dv A av (i + 1) := ⟨h.be, h.z1, h.rw, h.rg, h.ln, by have := h.dl; omega, h.ao, h.dr⟩
/-- one step more was done -/
theorem SetI.done {w w1 wr w2 w3 w4 : World} {g : Nat} {D : List (Int × R4)} {dv dv' : Value} {A : List R4} {av av' : Value} {i : Nat} {s : Int × R4} {r : R4}
    (hg : g < w1.heap.size) (hz : w.heap.size ≤ w1.heap.size) (be : Below w.heap.size w wr) (z1 : w1.heap.size ≤ wr.heap.size) (hr : RwI w1.heap.size wr dv D av A) (rg : RgI w.heap.size wr g (D ++ [s])) (ln : A.length = D.length) (dl : D.length ≤ i) (ao : ∀ r ∈ A, OwnF r) (dr : ∀ d ∈ D, isR d.2)
    (hs : isR s.2) (hor : OwnF r)
    (g2 : wr.grownBy w2 dv.ownBlock) (d2 : w2.ownsRow w1.heap.size 66 5 dv' (D.length + 1) (stsV D ++ stC s))
    (b3 : Below w2.heap.size w2 w3) (g4 : w3.grownBy w4 av.ownBlock) (a4 : w4.ownsRow w1.heap.size 23 4 av' (D.length + 1) (cellsR A ++ [.int .i64 r.x, .int .i64 r.y, .int .i64 r.w, .int .i64 r.h])) : SetI w w1 w4 g (D ++ [s]) dv' (A ++ [r]) av' (i + 1) := by
  have e2 := rg.grown hg hr.dw (by decide) (by decide) g2
  have e3 := e2.later b3
  have ha2 : w2.ownsRow w1.heap.size 23 4 av A.length (cellsR A) := hr.aw.kept g2 (row_ne hr.aw hr.dw (by decide))
  have ha3 := row_later ha2 b3
  have e4 := e3.grown hg ha3 (by decide) (by decide) g4
  have hd3 := row_later d2 b3
  have hd4 : w4.ownsRow w1.heap.size 66 5 dv' (D.length + 1) (stsV D ++ stC s) := hd3.kept g4 (row_ne hd3 ha3 (by decide))
  have B2 : Below w.heap.size w w2 := Below.grown be g2 (by omega) (fun q hq => by have := (row_lt hr.dw q hq).2; omega)
  have B3 := below_via b3 B2
  have zz := g2.size
  have zz3 := b3.size
  refine ⟨Below.grown B3 g4 (by omega) (fun q hq => by have := (row_lt ha3 q hq).2; omega), by have := g4.size; omega, ⟨?_, ?_⟩, e4, by simp [ln], by simp; omega, fun q hq => ?_, fun q hq => ?_⟩
  · rw [List.length_append, stsV_app]; exact hd4
  · rw [List.length_append, cellsR_append, ln]; exact a4
  · rcases List.mem_append.1 hq with h | h
    · exact ao q h
    · rw [List.mem_singleton.1 h]; exact hor
  · rcases List.mem_append.1 hq with h | h
    · exact dr q h
    · rw [List.mem_singleton.1 h]; exact hs
set_option maxRecDepth 100000 in
set_option maxHeartbeats 32000000 in
def RectSets_A (p : Option Addr) (c : Nat) (S : List (Int × R4)) (x y : Int) (w : World) (hSS : S.length ≤ 1048576) (HP : RowKit.Hid (StpAt w p S)) (HR : RowKit.Hid (∀ s ∈ S, isR s.2)) : {P : Prop // RowKit.Hid P → Calls Try.prog 13 #[.slice p S.length c, .int .i64 x, .int .i64 y] w fun e w' => e = .returned (.bool true) ∧ Below w.heap.size w w'} := ⟨_, fun hP => by
  have hS := hSS
  obtain ⟨i0, hi0, hz0, hz1, hz2⟩ := info_parts infoStep7
  have HI0 := Lib.hid (And.intro hi0 (And.intro hz0 (And.intro hz1 hz2)))
  clear hi0 hz0 hz1 hz2
  obtain ⟨j0, hi0, hz0, hz1, hz2⟩ := info_parts infoRect7
  have HJ0 := Lib.hid (And.intro hi0 (And.intro hz0 (And.intro hz1 hz2)))
  clear hi0 hz0 hz1 hz2
  obtain ⟨n, hn⟩ : ∃ n, n = S.length := ⟨_, rfl⟩
  rw [← hn] at hS ⊢
  have HNN := Lib.hid hn
  clear hn
  go_enter Try.func13, Try.ntmps13
  go_wp2_with fail
  refine (new_any none 0 0 [] w rfl (by omega) (fun h => absurd rfl h) (fun r hr => (by cases hr))).mono ?_
  intro e w1 hn
  obtain ⟨hb1, g, v0, l0, rfl, hreg, hnil⟩ : Below w.heap.size w w1 ∧ ∃ g v l, e = .returned (.tuple #[.pointer (some ⟨g, 0, none⟩), .int .i64 0]) ∧ RegAt w.heap.size w1 g v l ∧ bdsOf l = [] := hn
  have hz1 := hb1.size
  have HGB := Lib.hid hreg.bg
  have HGZ := Lib.hid (lt_of_block hreg.pr)
  have HS0 := Lib.hid (show SetI w w1 w1 g [] (.slice none 0 0) [] (.slice none 0 0) 0 from ⟨hb1, Nat.le_refl _, RwI.nil _ _, ⟨v0, l0, hreg, by rw [hnil]; exact regOk_nil, by rw [hnil]; exact nums_nil, fun x y => by rw [hnil]; rfl⟩, rfl, Nat.le_refl _, fun r hr => (by cases hr), fun d hd => (by cases hd)⟩)
  clear hb1 hreg hnil
  go_wp2
  go_loopw [9, 10, 11] (fun dv av iv wr => ∃ (i : Nat) (D : List (Int × R4)) (A : List R4), iv = .int .i64 i ∧ i ≤ n ∧ RowKit.Hid (SetI w w1 wr g D dv A av i)) (fun _ _ iv _ => n - (intOf iv).toNat)
  case atStart => exact ⟨0, [], [], rfl, Nat.zero_le _, HS0⟩
  case round =>
    clear HS0
    (try clear HS0)
    obtain ⟨i, D, A, rfl, hi, HS⟩ := hrel
    by_cases hlt : i < n
    · have hii : (i : Int) < (n : Int) := by omega
      obtain ⟨rb, ro, rfl, zr, hc⟩ := HP.out (by rw [← HNN.out]; omega)
      have hBW := HS.out.be
      have hc5 := fun j hj => hc i (by rw [← HNN.out]; exact hlt) j hj
      have c0 := hc5 0 (by decide)
      have c1 := hc5 1 (by decide)
      have c2 := hc5 2 (by decide)
      have c3 := hc5 3 (by decide)
      have c4 := hc5 4 (by decide)
      clear hc hc5
      have HIR0 := Lib.hid (HR.out (S.getD i zS) (by rw [List.getD_eq_getElem?_getD, List.getElem?_eq_getElem (by rw [← HNN.out]; exact hlt)]; exact List.getElem_mem _))
      generalize S.getD i zS = s at c0 c1 c2 c3 c4 HIR0
      obtain ⟨dd, rx, ry, rw_, rh⟩ := s
      have HIR : RowKit.Hid (isR ⟨rx, ry, rw_, rh⟩) := HIR0
      clear HIR0
      rw [← (bcell hBW).1 _ _ zr] at c0 c1 c2 c3 c4
      have zr2 : rb < wr.heap.size := Nat.lt_of_lt_of_le zr hBW.size
      clear hBW
      simp only [stC, List.getElem?_cons_zero, List.getElem?_cons_succ, ← Nat.add_assoc, Nat.add_zero] at c0 c1 c2 c3 c4
      go_upto_region 12 with (fail)
      obtain ⟨sb, hsb⟩ : ∃ q, q = wr.heap.size := ⟨_, rfl⟩
      obtain ⟨w3, hw3⟩ : ∃ q : World, q = wr.alloc (.cells #[.int .i64 dd, .int .i64 rx, .int .i64 ry, .int .i64 rw_, .int .i64 rh] 66) := ⟨_, rfl⟩
      rw [← hw3, ← hsb]
      have hb3 : Below wr.heap.size wr w3 := by rw [hw3]; exact below_al (Below.refl _ _) _
      have HN3 := Lib.hid (show w3.heap[sb]? = some (.cells #[.int .i64 dd, .int .i64 rx, .int .i64 ry, .int .i64 rw_, .int .i64 rh] 66 (0, 0)) from by rw [hw3, hsb]; exact heap_alloc_new _ _)
      have HS3 := Lib.hid (HS.out.later hb3)
      have HSL := Lib.hid (show ∀ q, u9.ownBlock = some q → q ≠ sb from fun q hq => by have := (row_lt HS.out.rw.dw q hq).1; omega)
      clear hw3 hsb hb3 HS c0 c1 c2 c3 c4 zr2 zr
      have HCB := Lib.hid (show ∀ W : World, W.heap[sb]? = some (.cells #[.int .i64 dd, .int .i64 rx, .int .i64 ry, .int .i64 rw_, .int .i64 rh] 66 (0, 0)) → sb < W.heap.size ∧ W.cell? ⟨sb, 0, none⟩ = some (.int .i64 dd) ∧ W.cell? ⟨sb, 1, none⟩ = some (.int .i64 rx) ∧ W.cell? ⟨sb, 2, none⟩ = some (.int .i64 ry) ∧ W.cell? ⟨sb, 3, none⟩ = some (.int .i64 rw_) ∧ W.cell? ⟨sb, 4, none⟩ = some (.int .i64 rh) from fun W h => ⟨lt_of_block h, by rw [cell_of_row _ _ _ _ _ _ h]; rfl, by rw [cell_of_row _ _ _ _ _ _ h]; rfl, by rw [cell_of_row _ _ _ _ _ _ h]; rfl, by rw [cell_of_row _ _ _ _ _ _ h]; rfl, by rw [cell_of_row _ _ _ _ _ _ h]; rfl⟩)
      obtain ⟨z3, a0, a1, a2, a3, a4⟩ := HCB.out _ HN3.out
      by_cases hdd : dd = 1 ∨ dd = 2 ∨ dd = 3
      · obtain ⟨v, l, hrg, hok, hnu, hin⟩ := HS3.out.rg
        have HRG := Lib.hid hrg
        have HOK := Lib.hid hok
        have HNU := Lib.hid hnu
        have HIN := Lib.hid hin
        have hsg : sb ≠ g := blk_ne HN3.out hrg.pr (by decide)
        clear hrg hok hnu hin
        rcases hdd with rfl | rfl | rfl
        · have CL := add_any w.heap.size w3 g v l HRG.out HOK.out ⟨rx, ry, rw_, rh⟩ HIR.out
          have CL := Lib.hid CL
          go_wp2_with fail
          refine CL.out.mono ?_
          intro e w4 hc
          have hsb4 : w4.heap[sb]? = w3.heap[sb]? := by obtain ⟨_, _, _, _, _, q, _⟩ := hc; exact q.block sb z3 hsg
          obtain ⟨hb4, hr4, hq⟩ := RgI.call (d := 1) HGZ.out HS3.out.rw (by decide) HOK.out HNU.out HIN.out HGB.out HS3.out.be.size hc
          clear hc CL a0 a1 a2 a3 a4
          have HB4 := Lib.hid (HS3.out.be.trans hb4)
          have z4 : w3.heap.size ≤ w4.heap.size := hb4.size
          have HR4 := Lib.hid hr4
          have HN4 := Lib.hid (hsb4.trans HN3.out)
          obtain ⟨zs, a0, a1, a2, a3, a4⟩ := HCB.out _ HN4.out
          clear hb4 hr4 hsb4
          rcases hq with ⟨rfl, h3, hen, hrg4⟩ | ⟨rfl, hrg4⟩
          · have HEN := Lib.hid hen
            have HSN := Lib.hid (show SetI w w1 w4 g D u9 A u10 (i + 1) from ⟨HB4.out, by have := HS3.out.z1; omega, HR4.out, hrg4, HS3.out.ln, by have := HS3.out.dl; omega, HS3.out.ao, HS3.out.dr⟩)
            have hdl := HS3.out.dl
            clear hen hrg4 h3 HS3
            obtain ⟨pd, cd, rfl⟩ := row_slice HR4.out.dw
            have hwd : IntKind.i64.wrap ((D.length : Int) + 1) = ((D.length + 1 : Nat) : Int) := by rw [wrap_small _ (by omega)]; omega
            go_wp2_with fail
            refine (enough_yes (D.length + 1) (by omega) HEN.out _).mono ?_
            rintro e w9 ⟨rfl, rfl⟩
            go_wp2
            go_roundw
            case rel => exact ⟨i + 1, D, A, by go_num, by omega, HSN⟩
            case measure => simp [intOf] <;> omega
          · have hdl := HS3.out.dl
            have HRG4 := Lib.hid hrg4
            clear hrg4
            have hln := HS3.out.ln
            have z1 := HS3.out.z1
            have HD4 := Lib.hid (row_later HR4.out.dw (below_al (Below.refl w4.heap.size w4) (.cells #[.int .i64 1, .int .i64 rx, .int .i64 ry, .int .i64 rw_, .int .i64 rh] 66)))
            go_upto_region 23 with (fail)
            go_wp2_with (at_builtin; go_must (refine append_keep rfl (.tmp 76) (.tmp 78) 58 rfl w1.heap.size 66 i0 (.agg #[.int .i64 0, .int .i64 0, .int .i64 0, .int .i64 0, .int .i64 0]) 5 40 Try.underlying58 HI0.out.1 HI0.out.2.1 HI0.out.2.2.1 HI0.out.2.2.2 rfl (by decide) _ D.length _ rfl HD4.out ⟨w4.heap.size, 0, none⟩ 1 1 [.int .i64 1, .int .i64 rx, .int .i64 ry, .int .i64 rw_, .int .i64 rh] rfl rfl ?e0 ?e1 ?e2 ?e3 ?e4 ?_))
            (try case e0 => exact World.news_of_block (cs := #[.int .i64 1, .int .i64 rx, .int .i64 ry, .int .i64 rw_, .int .i64 rh]) (t := 66) (fr := (0, 0)) (heap_alloc_new _ _))
            case e1 => (intro u hu; simp at hu; rcases hu with rfl | rfl | rfl | rfl | rfl <;> rfl)
            case e2 => unfold maxLen; omega
            case e3 => omega
            case e4 => first | omega | (simp; omega)
            intro v6 w6 own6 gr6 loc6
            have HB5 := Lib.hid (show Below w4.heap.size w4 (w4.alloc (.cells #[.int .i64 1, .int .i64 rx, .int .i64 ry, .int .i64 rw_, .int .i64 rh] 66)) from below_al (Below.refl _ _) _)
            have HN5 := Lib.hid ((HB5.out.block sb zs).trans HN4.out)
            obtain ⟨w5, hw5⟩ : ∃ q : World, q = w4.alloc (.cells #[.int .i64 1, .int .i64 rx, .int .i64 ry, .int .i64 rw_, .int .i64 rh] 66) := ⟨_, rfl⟩
            rw [← hw5] at gr6 HB5 HN5
            clear hw5 loc6
            have HN6 := Lib.hid ((gr6.block sb (lt_of_block HN5.out) (fun e => HSL.out sb e.symm rfl)).trans HN5.out)
            have HG6 := Lib.hid gr6
            have HO6 := Lib.hid own6
            have z6 : w4.heap.size ≤ w6.heap.size := Nat.le_trans HB5.out.size gr6.size
            clear own6 gr6 a0 a1 a2 a3 a4 zs HD4
            obtain ⟨zs, a0, a1, a2, a3, a4⟩ := HCB.out _ HN6.out
            have HA6 := Lib.hid ((row_later HR4.out.aw HB5.out).kept HG6.out (row_ne HR4.out.aw HR4.out.dw (by decide)))
            obtain ⟨hx, hy, hw, hh⟩ := HIR.out
            simp only at hx hy hw hh
            have CM := Lib.hid (rect_Meet_any rx ry rw_ rh rx ry rw_ rh w6 hx hy hw hh hx hy hw hh)
            clear hx hy hw hh
            go_upto_region 24 with (fail)
            go_wp2_with fail
            refine CM.out.mono ?_
            rintro e w7 ⟨rfl, hb7⟩
            have HMO := Lib.hid (ownF_meet ⟨rx, ry, rw_, rh⟩ ⟨rx, ry, rw_, rh⟩)
            generalize meetR ⟨rx, ry, rw_, rh⟩ ⟨rx, ry, rw_, rh⟩ = M at HMO ⊢
            obtain ⟨mx, my, mw, mh⟩ := M
            simp only
            have HB7 := Lib.hid hb7
            clear hb7 CM a0 a1 a2 a3 a4 zs
            have z7 := HB7.out.size
            have HA8 := Lib.hid (row_later (row_later HA6.out HB7.out) (below_al (Below.refl w7.heap.size w7) (.cells #[.int .i64 mx, .int .i64 my, .int .i64 mw, .int .i64 mh] 23)))
            go_wp2_with (at_builtin; go_must (refine append_keep rfl (.tmp 80) (.tmp 86) 26 rfl w1.heap.size 23 j0 (.agg #[.int .i64 0, .int .i64 0, .int .i64 0, .int .i64 0]) 4 32 Try.underlying26 HJ0.out.1 HJ0.out.2.1 HJ0.out.2.2.1 HJ0.out.2.2.2 rfl (by decide) _ A.length _ rfl HA8.out ⟨w7.heap.size, 0, none⟩ 1 1 [.int .i64 mx, .int .i64 my, .int .i64 mw, .int .i64 mh] rfl rfl ?e0 ?e1 ?e2 ?e3 ?e4 ?_))
            (try case e0 => exact World.news_of_block (cs := #[.int .i64 mx, .int .i64 my, .int .i64 mw, .int .i64 mh]) (t := 23) (fr := (0, 0)) (heap_alloc_new _ _))
            case e1 => (intro u hu; simp at hu; rcases hu with rfl | rfl | rfl | rfl <;> rfl)
            case e2 => unfold maxLen; omega
            case e3 => omega
            case e4 => first | omega | (simp; omega)
            intro v8 w8 own8 gr8 loc8
            have HSN := Lib.hid (SetI.done (s := (1, ⟨rx, ry, rw_, rh⟩)) (r := ⟨mx, my, mw, mh⟩) HGZ.out hz1 (below_via HB5.out HB4.out) (by have := HB5.out.size; omega) (HR4.out.later HB5.out) (HRG4.out.later HB5.out) HS3.out.ln HS3.out.dl HS3.out.ao HS3.out.dr HIR.out HMO.out HG6.out HO6.out (below_al HB7.out (.cells #[.int .i64 mx, .int .i64 my, .int .i64 mw, .int .i64 mh] 23)) gr8 own8)
            clear own8 gr8 loc8 HA8 HA6 HS3 HR4 HRG4 HB4 HB5 HB7 HG6 HO6 HN4 HN5 HN6
            go_wp2
            go_roundw
            case rel => exact ⟨i + 1, _, _, by go_num, by omega, HSN⟩
            case measure => simp [intOf] <;> omega
        · have CL := cut_any w.heap.size w3 g v l HRG.out HOK.out ⟨rx, ry, rw_, rh⟩ HIR.out
          have CL := Lib.hid CL
          go_wp2_with fail
          refine CL.out.mono ?_
          intro e w4 hc
          have hsb4 : w4.heap[sb]? = w3.heap[sb]? := by obtain ⟨_, _, _, _, _, q, _⟩ := hc; exact q.block sb z3 hsg
          obtain ⟨hb4, hr4, hq⟩ := RgI.call (d := 2) HGZ.out HS3.out.rw (by decide) HOK.out HNU.out HIN.out HGB.out HS3.out.be.size hc
          clear hc CL a0 a1 a2 a3 a4
          have HB4 := Lib.hid (HS3.out.be.trans hb4)
          have z4 : w3.heap.size ≤ w4.heap.size := hb4.size
          have HR4 := Lib.hid hr4
          have HN4 := Lib.hid (hsb4.trans HN3.out)
          obtain ⟨zs, a0, a1, a2, a3, a4⟩ := HCB.out _ HN4.out
          clear hb4 hr4 hsb4
          rcases hq with ⟨rfl, h3, hen, hrg4⟩ | ⟨rfl, hrg4⟩
          · have HEN := Lib.hid hen
            have HSN := Lib.hid (show SetI w w1 w4 g D u9 A u10 (i + 1) from ⟨HB4.out, by have := HS3.out.z1; omega, HR4.out, hrg4, HS3.out.ln, by have := HS3.out.dl; omega, HS3.out.ao, HS3.out.dr⟩)
            have hdl := HS3.out.dl
            clear hen hrg4 h3 HS3
            obtain ⟨pd, cd, rfl⟩ := row_slice HR4.out.dw
            have hwd : IntKind.i64.wrap ((D.length : Int) + 1) = ((D.length + 1 : Nat) : Int) := by rw [wrap_small _ (by omega)]; omega
            go_wp2_with fail
            refine (enough_yes (D.length + 1) (by omega) HEN.out _).mono ?_
            rintro e w9 ⟨rfl, rfl⟩
            go_wp2
            go_roundw
            case rel => exact ⟨i + 1, D, A, by go_num, by omega, HSN⟩
            case measure => simp [intOf] <;> omega
          · have hdl := HS3.out.dl
            have HRG4 := Lib.hid hrg4
            clear hrg4
            have hln := HS3.out.ln
            have z1 := HS3.out.z1
            have HD4 := Lib.hid (row_later HR4.out.dw (below_al (Below.refl w4.heap.size w4) (.cells #[.int .i64 2, .int .i64 rx, .int .i64 ry, .int .i64 rw_, .int .i64 rh] 66)))
            go_upto_region 23 with (fail)
            go_wp2_with (at_builtin; go_must (refine append_keep rfl (.tmp 76) (.tmp 78) 58 rfl w1.heap.size 66 i0 (.agg #[.int .i64 0, .int .i64 0, .int .i64 0, .int .i64 0, .int .i64 0]) 5 40 Try.underlying58 HI0.out.1 HI0.out.2.1 HI0.out.2.2.1 HI0.out.2.2.2 rfl (by decide) _ D.length _ rfl HD4.out ⟨w4.heap.size, 0, none⟩ 1 1 [.int .i64 2, .int .i64 rx, .int .i64 ry, .int .i64 rw_, .int .i64 rh] rfl rfl ?e0 ?e1 ?e2 ?e3 ?e4 ?_))
            (try case e0 => exact World.news_of_block (cs := #[.int .i64 2, .int .i64 rx, .int .i64 ry, .int .i64 rw_, .int .i64 rh]) (t := 66) (fr := (0, 0)) (heap_alloc_new _ _))
            case e1 => (intro u hu; simp at hu; rcases hu with rfl | rfl | rfl | rfl | rfl <;> rfl)
            case e2 => unfold maxLen; omega
            case e3 => omega
            case e4 => first | omega | (simp; omega)
            intro v6 w6 own6 gr6 loc6
            have HB5 := Lib.hid (show Below w4.heap.size w4 (w4.alloc (.cells #[.int .i64 2, .int .i64 rx, .int .i64 ry, .int .i64 rw_, .int .i64 rh] 66)) from below_al (Below.refl _ _) _)
            have HN5 := Lib.hid ((HB5.out.block sb zs).trans HN4.out)
            obtain ⟨w5, hw5⟩ : ∃ q : World, q = w4.alloc (.cells #[.int .i64 2, .int .i64 rx, .int .i64 ry, .int .i64 rw_, .int .i64 rh] 66) := ⟨_, rfl⟩
            rw [← hw5] at gr6 HB5 HN5
            clear hw5 loc6
            have HN6 := Lib.hid ((gr6.block sb (lt_of_block HN5.out) (fun e => HSL.out sb e.symm rfl)).trans HN5.out)
            have HG6 := Lib.hid gr6
            have HO6 := Lib.hid own6
            have z6 : w4.heap.size ≤ w6.heap.size := Nat.le_trans HB5.out.size gr6.size
            clear own6 gr6 a0 a1 a2 a3 a4 zs HD4
            obtain ⟨zs, a0, a1, a2, a3, a4⟩ := HCB.out _ HN6.out
            have HA6 := Lib.hid ((row_later HR4.out.aw HB5.out).kept HG6.out (row_ne HR4.out.aw HR4.out.dw (by decide)))
            obtain ⟨hx, hy, hw, hh⟩ := HIR.out
            simp only at hx hy hw hh
            have CM := Lib.hid (rect_Meet_any rx ry rw_ rh rx ry rw_ rh w6 hx hy hw hh hx hy hw hh)
            clear hx hy hw hh
            go_upto_region 24 with (fail)
            go_wp2_with fail
            refine CM.out.mono ?_
            rintro e w7 ⟨rfl, hb7⟩
            have HMO := Lib.hid (ownF_meet ⟨rx, ry, rw_, rh⟩ ⟨rx, ry, rw_, rh⟩)
            generalize meetR ⟨rx, ry, rw_, rh⟩ ⟨rx, ry, rw_, rh⟩ = M at HMO ⊢
            obtain ⟨mx, my, mw, mh⟩ := M
            simp only
            have HB7 := Lib.hid hb7
            clear hb7 CM a0 a1 a2 a3 a4 zs
            have z7 := HB7.out.size
            have HA8 := Lib.hid (row_later (row_later HA6.out HB7.out) (below_al (Below.refl w7.heap.size w7) (.cells #[.int .i64 mx, .int .i64 my, .int .i64 mw, .int .i64 mh] 23)))
            go_wp2_with (at_builtin; go_must (refine append_keep rfl (.tmp 80) (.tmp 86) 26 rfl w1.heap.size 23 j0 (.agg #[.int .i64 0, .int .i64 0, .int .i64 0, .int .i64 0]) 4 32 Try.underlying26 HJ0.out.1 HJ0.out.2.1 HJ0.out.2.2.1 HJ0.out.2.2.2 rfl (by decide) _ A.length _ rfl HA8.out ⟨w7.heap.size, 0, none⟩ 1 1 [.int .i64 mx, .int .i64 my, .int .i64 mw, .int .i64 mh] rfl rfl ?e0 ?e1 ?e2 ?e3 ?e4 ?_))
            (try case e0 => exact World.news_of_block (cs := #[.int .i64 mx, .int .i64 my, .int .i64 mw, .int .i64 mh]) (t := 23) (fr := (0, 0)) (heap_alloc_new _ _))
            case e1 => (intro u hu; simp at hu; rcases hu with rfl | rfl | rfl | rfl <;> rfl)
            case e2 => unfold maxLen; omega
            case e3 => omega
            case e4 => first | omega | (simp; omega)
            intro v8 w8 own8 gr8 loc8
            have HSN := Lib.hid (SetI.done (s := (2, ⟨rx, ry, rw_, rh⟩)) (r := ⟨mx, my, mw, mh⟩) HGZ.out hz1 (below_via HB5.out HB4.out) (by have := HB5.out.size; omega) (HR4.out.later HB5.out) (HRG4.out.later HB5.out) HS3.out.ln HS3.out.dl HS3.out.ao HS3.out.dr HIR.out HMO.out HG6.out HO6.out (below_al HB7.out (.cells #[.int .i64 mx, .int .i64 my, .int .i64 mw, .int .i64 mh] 23)) gr8 own8)
            clear own8 gr8 loc8 HA8 HA6 HS3 HR4 HRG4 HB4 HB5 HB7 HG6 HO6 HN4 HN5 HN6
            go_wp2
            go_roundw
            case rel => exact ⟨i + 1, _, _, by go_num, by omega, HSN⟩
            case measure => simp [intOf] <;> omega
        · have CL := clip_any w.heap.size w3 g v l HRG.out HOK.out ⟨rx, ry, rw_, rh⟩ HIR.out
          have CL := Lib.hid CL
          go_wp2_with fail
          refine CL.out.mono ?_
          intro e w4 hc
          have hsb4 : w4.heap[sb]? = w3.heap[sb]? := by obtain ⟨_, _, _, _, _, q, _⟩ := hc; exact q.block sb z3 hsg
          obtain ⟨hb4, hr4, hq⟩ := RgI.call (d := 3) HGZ.out HS3.out.rw (by decide) HOK.out HNU.out HIN.out HGB.out HS3.out.be.size hc
          clear hc CL a0 a1 a2 a3 a4
          have HB4 := Lib.hid (HS3.out.be.trans hb4)
          have z4 : w3.heap.size ≤ w4.heap.size := hb4.size
          have HR4 := Lib.hid hr4
          have HN4 := Lib.hid (hsb4.trans HN3.out)
          obtain ⟨zs, a0, a1, a2, a3, a4⟩ := HCB.out _ HN4.out
          clear hb4 hr4 hsb4
          rcases hq with ⟨rfl, h3, hen, hrg4⟩ | ⟨rfl, hrg4⟩
          · exact absurd rfl h3
          · have hdl := HS3.out.dl
            have HRG4 := Lib.hid hrg4
            clear hrg4
            have hln := HS3.out.ln
            have z1 := HS3.out.z1
            have HD4 := Lib.hid (row_later HR4.out.dw (below_al (Below.refl w4.heap.size w4) (.cells #[.int .i64 3, .int .i64 rx, .int .i64 ry, .int .i64 rw_, .int .i64 rh] 66)))
            go_upto_region 23 with (fail)
            go_wp2_with (at_builtin; go_must (refine append_keep rfl (.tmp 76) (.tmp 78) 58 rfl w1.heap.size 66 i0 (.agg #[.int .i64 0, .int .i64 0, .int .i64 0, .int .i64 0, .int .i64 0]) 5 40 Try.underlying58 HI0.out.1 HI0.out.2.1 HI0.out.2.2.1 HI0.out.2.2.2 rfl (by decide) _ D.length _ rfl HD4.out ⟨w4.heap.size, 0, none⟩ 1 1 [.int .i64 3, .int .i64 rx, .int .i64 ry, .int .i64 rw_, .int .i64 rh] rfl rfl ?e0 ?e1 ?e2 ?e3 ?e4 ?_))
            (try case e0 => exact World.news_of_block (cs := #[.int .i64 3, .int .i64 rx, .int .i64 ry, .int .i64 rw_, .int .i64 rh]) (t := 66) (fr := (0, 0)) (heap_alloc_new _ _))
            case e1 => (intro u hu; simp at hu; rcases hu with rfl | rfl | rfl | rfl | rfl <;> rfl)
            case e2 => unfold maxLen; omega
            case e3 => omega
            case e4 => first | omega | (simp; omega)
            intro v6 w6 own6 gr6 loc6
            have HB5 := Lib.hid (show Below w4.heap.size w4 (w4.alloc (.cells #[.int .i64 3, .int .i64 rx, .int .i64 ry, .int .i64 rw_, .int .i64 rh] 66)) from below_al (Below.refl _ _) _)
            have HN5 := Lib.hid ((HB5.out.block sb zs).trans HN4.out)
            obtain ⟨w5, hw5⟩ : ∃ q : World, q = w4.alloc (.cells #[.int .i64 3, .int .i64 rx, .int .i64 ry, .int .i64 rw_, .int .i64 rh] 66) := ⟨_, rfl⟩
            rw [← hw5] at gr6 HB5 HN5
            clear hw5 loc6
            have HN6 := Lib.hid ((gr6.block sb (lt_of_block HN5.out) (fun e => HSL.out sb e.symm rfl)).trans HN5.out)
            have HG6 := Lib.hid gr6
            have HO6 := Lib.hid own6
            have z6 : w4.heap.size ≤ w6.heap.size := Nat.le_trans HB5.out.size gr6.size
            clear own6 gr6 a0 a1 a2 a3 a4 zs HD4
            obtain ⟨zs, a0, a1, a2, a3, a4⟩ := HCB.out _ HN6.out
            have HA6 := Lib.hid ((row_later HR4.out.aw HB5.out).kept HG6.out (row_ne HR4.out.aw HR4.out.dw (by decide)))
            obtain ⟨hx, hy, hw, hh⟩ := HIR.out
            simp only at hx hy hw hh
            have CM := Lib.hid (rect_Meet_any rx ry rw_ rh rx ry rw_ rh w6 hx hy hw hh hx hy hw hh)
            clear hx hy hw hh
            go_upto_region 24 with (fail)
            go_wp2_with fail
            refine CM.out.mono ?_
            rintro e w7 ⟨rfl, hb7⟩
            have HMO := Lib.hid (ownF_meet ⟨rx, ry, rw_, rh⟩ ⟨rx, ry, rw_, rh⟩)
            generalize meetR ⟨rx, ry, rw_, rh⟩ ⟨rx, ry, rw_, rh⟩ = M at HMO ⊢
            obtain ⟨mx, my, mw, mh⟩ := M
            simp only
            have HB7 := Lib.hid hb7
            clear hb7 CM a0 a1 a2 a3 a4 zs
            have z7 := HB7.out.size
            have HA8 := Lib.hid (row_later (row_later HA6.out HB7.out) (below_al (Below.refl w7.heap.size w7) (.cells #[.int .i64 mx, .int .i64 my, .int .i64 mw, .int .i64 mh] 23)))
            go_wp2_with (at_builtin; go_must (refine append_keep rfl (.tmp 80) (.tmp 86) 26 rfl w1.heap.size 23 j0 (.agg #[.int .i64 0, .int .i64 0, .int .i64 0, .int .i64 0]) 4 32 Try.underlying26 HJ0.out.1 HJ0.out.2.1 HJ0.out.2.2.1 HJ0.out.2.2.2 rfl (by decide) _ A.length _ rfl HA8.out ⟨w7.heap.size, 0, none⟩ 1 1 [.int .i64 mx, .int .i64 my, .int .i64 mw, .int .i64 mh] rfl rfl ?e0 ?e1 ?e2 ?e3 ?e4 ?_))
            (try case e0 => exact World.news_of_block (cs := #[.int .i64 mx, .int .i64 my, .int .i64 mw, .int .i64 mh]) (t := 23) (fr := (0, 0)) (heap_alloc_new _ _))
            case e1 => (intro u hu; simp at hu; rcases hu with rfl | rfl | rfl | rfl <;> rfl)
            case e2 => unfold maxLen; omega
            case e3 => omega
            case e4 => first | omega | (simp; omega)
            intro v8 w8 own8 gr8 loc8
            have HSN := Lib.hid (SetI.done (s := (3, ⟨rx, ry, rw_, rh⟩)) (r := ⟨mx, my, mw, mh⟩) HGZ.out hz1 (below_via HB5.out HB4.out) (by have := HB5.out.size; omega) (HR4.out.later HB5.out) (HRG4.out.later HB5.out) HS3.out.ln HS3.out.dl HS3.out.ao HS3.out.dr HIR.out HMO.out HG6.out HO6.out (below_al HB7.out (.cells #[.int .i64 mx, .int .i64 my, .int .i64 mw, .int .i64 mh] 23)) gr8 own8)
            clear own8 gr8 loc8 HA8 HA6 HS3 HR4 HRG4 HB4 HB5 HB7 HG6 HO6 HN4 HN5 HN6
            go_wp2
            go_roundw
            case rel => exact ⟨i + 1, _, _, by go_num, by omega, HSN⟩
            case measure => simp [intOf] <;> omega
      · have hd1 : (dd == 1) = false := by simp; intro h; exact hdd (.inl h)
        have hd2 : (dd == 2) = false := by simp; intro h; exact hdd (.inr (.inl h))
        have hd3 : (dd == 3) = false := by simp; intro h; exact hdd (.inr (.inr h))
        have hn1 : ¬ dd = 1 := fun h => hdd (.inl h)
        have hn2 : ¬ dd = 2 := fun h => hdd (.inr (.inl h))
        have hn3 : ¬ dd = 3 := fun h => hdd (.inr (.inr h))
        have HSN := Lib.hid HS3.out.next
        clear hdd HS3
        go_wp2
        go_roundw
        case rel => exact ⟨i + 1, D, A, by go_num, by omega, HSN⟩
        case measure => simp [intOf] <;> omega
    · have hii : ¬ (i : Int) < (n : Int) := by omega
      obtain rfl : n = i := by omega
      (repeat (rename_i zzA; revert zzA))
      revert i0 HI0 j0 HJ0 n hS HNN w1 g v0 l0 hz1 HGB HGZ wr u6 u9 u10 u12 u13 u36 u37 u38 u39 u40 u41 u42 u43 u44 u45 u46 u47 u48 u49 u50 u51 u52 u53 u54 u55 u56 u57 u58 u59 u60 u61 u62 u63 u64 u65 u66 u67 u68 u69 u70 u71 u72 u73 u74 u75 u76 u77 u78 u79 u80 u81 u82 u83 u84 u85 u86 u87 u88 u89 u90 u91 u92 D A hi HS hlt hii
      exact hP.out⟩
end Go.Proofs.Ytekcheccelllcaa
