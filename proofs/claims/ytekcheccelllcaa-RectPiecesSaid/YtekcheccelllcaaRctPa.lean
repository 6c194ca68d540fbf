/- The walk of RectPieces. -/
import Derived.Test.YtekcheccelllcaaRctPl
import Derived.Test.YtekcheccelllcaaRctPr
import Derived.Test.YtekcheccelllcaaRctY
import Derived.Test.YtekcheccelllcaaRctW
import Derived.Test.YtekcheccelllcaaRctMi
namespace Go.Proofs.Ytekcheccelllcaa
open Go.RowKit
set_option linter.unusedVariables false
set_option linter.unusedSimpArgs false

section
variable {P : Program} (w : World)
/-- nothing is appended, whatever the address -/
theorem run_append_owned_zero (base : Nat) (t ty e : TypeId) (i : TypeInfo) (size : Nat) (ht : P.underlying t = some (.slice e)) (hi : P.info? e = some i) (v : Value) (n : Nat) (xs : List Value) (hown : w.ownsRow base e size v n xs) (p : Option Addr) (c : Nat) :
    (Builtin.append_ #[t, t] ty #[v, .slice p 0 c]).run P w = .ok v w := by
  have hf : ∀ (s : Nat) (w : World), (Builtin.firstCells s 0 (.slice p 0 c)).run P w = .ok #[] w := by
    intro s w
    cases p <;> simp [Builtin.firstCells, loadCells, loadCellsFrom]
  rcases hown.2 with ⟨rfl, rfl⟩ | ⟨g, cap, cur, rfl, _, _, hnc, _⟩
  · simp [Builtin.append_, run_underlying ht, sizeOf, typeInfo, hi, Builtin.lenOf, hf]
  · simp [Builtin.append_, run_underlying ht, sizeOf, typeInfo, hi, Builtin.lenOf, hf, hnc, storeCells]
theorem step_append_zero {ops : Array Oper} {o : Oper} {a : Act} {K : Act → World → Prop} {Q : Exit → Act → World → Prop} {E : Prop} (hgd : o.guard = none) (s x : Operand) (t : TypeId)
    (ho : o.op = .call { callee := .builtin .append, args := #[s, x], argTypes := #[t, t] })
    (base : Nat) (e : TypeId) (i : TypeInfo) (size : Nat) (ht : P.underlying t = some (.slice e)) (hi : P.info? e = some i)
    (v : Value) (n : Nat) (xs : List Value) (hs : a.eval s = v) (hown : w.ownsRow base e size v n xs) (p : Option Addr) (c : Nat) (hx : a.eval x = .slice p 0 c)
    (h : K (a.put o.dst v) w) :
    if Region.wanted o (yielded ops a.tmps) = true then Oper.wp P o a w K Q else E := by
  have hw : Region.wanted o (yielded ops a.tmps) = true := by simp [Region.wanted, hgd]
  rw [if_pos hw]
  have hrun := run_append_owned_zero (P := P) w base t o.type e i size ht hi v n xs hown p c
  unfold Oper.wp
  simp [execOp, ho, resolve, invoke, builtin, hs, hx, hrun, Result.andThen]
  exact h
end
/-- points that lie in memory one behind the other -/
def PtsAt (w : World) (g : Nat) (C : List (Int × Int)) : Prop := g < w.heap.size ∧ ∀ i, i < C.length → w.cell? ⟨g, i * 2, none⟩ = some (.int .i64 (C.getD i (0, 0)).1) ∧ w.cell? ⟨g, i * 2 + 1, none⟩ = some (.int .i64 (C.getD i (0, 0)).2)
theorem PtsAt.later {w wr : World} {g : Nat} {C : List (Int × Int)} (h : PtsAt w g C) (hb : Below w.heap.size w wr) : PtsAt wr g C := by
  obtain ⟨h1, h2⟩ := h
  refine ⟨Nat.lt_of_lt_of_le h1 hb.size, fun i hi => ?_⟩
  rw [(bcell hb).1 _ _ h1, (bcell hb).1 _ _ h1]
  exact h2 i hi
theorem cellsP_at (C : List (Int × Int)) (i : Nat) (h : i < C.length) : (cellsP C)[i * 2]? = some (.int .i64 (C.getD i (0, 0)).1) ∧ (cellsP C)[i * 2 + 1]? = some (.int .i64 (C.getD i (0, 0)).2) := by
  induction C generalizing i with
  | nil => simp at h
  | cons r C ih =>
    have e : cellsP (r :: C) = .int .i64 r.1 :: .int .i64 r.2 :: cellsP C := by simp [cellsP]
    rw [e]
    cases i with
    | zero => simp
    | succ i =>
      have := ih i (by simpa using h)
      rw [show (i + 1) * 2 = i * 2 + 1 + 1 by omega]
      simpa using this
theorem own_pts {w : World} {base g n m cap : Nat} {C : List (Int × Int)} (h : w.ownsRow base 42 2 (.slice (some ⟨g, 0, none⟩) n cap) m (cellsP C)) : PtsAt w g C := by
  refine ⟨(own_lt h g (by simp [Value.ownBlock])).1, fun i hi => ?_⟩
  have hc := h.cells (g := g) (by simp [Value.ownBlock])
  obtain ⟨d0, d1⟩ := cellsP_at C i hi
  have c0 := hc _ _ d0
  have c1 := hc _ _ d1
  rw [addr_add] at c0 c1
  simpa using And.intro c0 c1
theorem pieces_own (a b : R4) (k : Nat) (hk : k < 3 + (minusR a b).length) : OwnF (([meetR a b, meetR a a, meetR b b] ++ minusR a b).getD k zR) ∧ (2 < k → (([meetR a b, meetR a a, meetR b b] ++ minusR a b).getD k zR).w ≠ 0) := by
  rcases k with _ | _ | _ | k
  · exact ⟨ownF_meet _ _, fun h => by omega⟩
  · exact ⟨ownF_meet _ _, fun h => by omega⟩
  · exact ⟨ownF_meet _ _, fun h => by omega⟩
  · have hk' : k < (minusR a b).length := by omega
    have e : ([meetR a b, meetR a a, meetR b b] ++ minusR a b).getD (k + 1 + 1 + 1) zR = (minusR a b)[k] := by
      simp [List.getD_eq_getElem?_getD, hk']
    rw [e]
    have := minus_own a b _ (List.getElem_mem hk')
    exact ⟨this.1, fun _ => this.2⟩
theorem pieces_all (a b : R4) : ∀ r ∈ [meetR a b, meetR a a, meetR b b] ++ minusR a b, OwnF r := by
  intro r hr
  simp only [List.mem_append, List.mem_cons, List.not_mem_nil, or_false] at hr
  rcases hr with (rfl | rfl | rfl) | hr
  · exact ownF_meet _ _
  · exact ownF_meet _ _
  · exact ownF_meet _ _
  · exact (minus_own a b _ hr).1
theorem own_slat {w : World} {base g n m cap : Nat} {L : List R4} (h : w.ownsRow base 23 4 (.slice (some ⟨g, 0, none⟩) n cap) m (cellsR L)) : SlAt w (some ⟨g, 0, none⟩) L := by
  intro h0
  refine ⟨g, 0, rfl, (own_lt h g (by simp [Value.ownBlock])).1, fun i hi => ?_⟩
  have hc := h.cells (g := g) (by simp [Value.ownBlock])
  obtain ⟨d0, d1, d2, d3⟩ := cellsR_at L i hi
  have c0 := hc _ _ d0
  have c1 := hc _ _ d1
  have c2 := hc _ _ d2
  have c3 := hc _ _ d3
  rw [addr_add] at c0 c1 c2 c3
  simpa using And.intro c0 (And.intro c1 (And.intro c2 c3))
theorem cell_ald {w : World} {o : Obj} {b i : Nat} {v : Value} (h : b < w.heap.size) (hc : w.cell? ⟨b, i, none⟩ = some v) : (w.alloc o).drew.cell? ⟨b, i, none⟩ = some v := by
  show (w.alloc o).cell? _ = _
  rw [(bcell (below_al (Below.refl w.heap.size w) o)).1 b i h]; exact hc
theorem below_via2 {w0 w w1 : World} (h2 : Below w.heap.size w w1) (h1 : Below w0.heap.size w0 w) : Below w0.heap.size w0 w1 := below_via h2 h1
theorem cell_al {w : World} {o : Obj} {b i : Nat} {v : Value} (h : b < w.heap.size) (hc : w.cell? ⟨b, i, none⟩ = some v) : (w.alloc o).cell? ⟨b, i, none⟩ = some v := by
  rw [(bcell (below_al (Below.refl w.heap.size w) o)).1 b i h]; exact hc
theorem isR_self (r : R4) : isR (meetR r r) := isR_meet r r

set_option maxRecDepth 100000 in
set_option maxHeartbeats 32000000 in
def RectPieces_A (ax ay aw ah bx b2 bw bh cx cy : Int) (w : World) (hax : -9223372036854775808 ≤ ax ∧ ax ≤ 9223372036854775807) (hay : -9223372036854775808 ≤ ay ∧ ay ≤ 9223372036854775807) (haw : -9223372036854775808 ≤ aw ∧ aw ≤ 9223372036854775807) (hah : -9223372036854775808 ≤ ah ∧ ah ≤ 9223372036854775807) (hbx : -9223372036854775808 ≤ bx ∧ bx ≤ 9223372036854775807) (hb2 : -9223372036854775808 ≤ b2 ∧ b2 ≤ 9223372036854775807) (hbw : -9223372036854775808 ≤ bw ∧ bw ≤ 9223372036854775807) (hbh : -9223372036854775808 ≤ bh ∧ bh ≤ 9223372036854775807) : {P : Prop × Prop × Prop × Prop // RowKit.Hid P.1 → RowKit.Hid P.2.1 → RowKit.Hid P.2.2.1 → RowKit.Hid P.2.2.2 → Calls Try.prog 9 #[.agg #[.int .i64 ax, .int .i64 ay, .int .i64 aw, .int .i64 ah], .agg #[.int .i64 bx, .int .i64 b2, .int .i64 bw, .int .i64 bh], .agg #[.int .i64 cx, .int .i64 cy]] w fun e w' => e = .returned (.bool true) ∧ Below w.heap.size w w'} := ⟨(_, _, _, _), fun hP0 hP1 hP2 hP3 => by
  obtain ⟨i0, hi, hz0, hz1, hz2⟩ := info_parts infoRect
  obtain ⟨j0, hj, hy0, hy1, hy2⟩ := info_parts infoP
  have I0 := Lib.hid (And.intro hi (And.intro hz0 (And.intro hz1 hz2)))
  have J0 := Lib.hid (And.intro hj (And.intro hy0 (And.intro hy1 hy2)))
  clear hi hz0 hz1 hz2 hj hy0 hy1 hy2
  go_enter Try.func9, Try.ntmps9
  go_wp2_with fail
  refine (rect_Minus_any _ _ _ _ _ _ _ _ _ hax hay haw hah hbx hb2 hbw hbh).mono ?_
  rintro e w1 ⟨v1, rfl, o1, hq1⟩
  have B1 : Below w.heap.size w w1 := below_via hq1 (by go_grown)
  have S1 := B1.size
  have F1 : w.heap.size < w1.heap.size ∧ w.heap.size + 1 < w1.heap.size ∧ w.heap.size + 2 < w1.heap.size ∧ w1.cell? ⟨w.heap.size, 0, none⟩ = some (.int .i64 ax) ∧ w1.cell? ⟨w.heap.size, 1, none⟩ = some (.int .i64 ay) ∧ w1.cell? ⟨w.heap.size, 2, none⟩ = some (.int .i64 aw) ∧ w1.cell? ⟨w.heap.size, 3, none⟩ = some (.int .i64 ah) ∧ w1.cell? ⟨w.heap.size + 1, 0, none⟩ = some (.int .i64 bx) ∧ w1.cell? ⟨w.heap.size + 1, 1, none⟩ = some (.int .i64 b2) ∧ w1.cell? ⟨w.heap.size + 1, 2, none⟩ = some (.int .i64 bw) ∧ w1.cell? ⟨w.heap.size + 1, 3, none⟩ = some (.int .i64 bh) ∧ w1.cell? ⟨w.heap.size + 2, 0, none⟩ = some (.int .i64 cx) ∧ w1.cell? ⟨w.heap.size + 2, 1, none⟩ = some (.int .i64 cy) := by
    obtain ⟨hc, hf⟩ := bcell hq1
    have hz := hq1.size
    (try simp only [World.size_alloc, World.size_drew, World.size_setCell] at hz)
    (repeat' apply And.intro) <;> (first | omega | (rw [hc _ _ (by first | omega | (simp only [World.size_alloc, World.size_drew, World.size_setCell]; omega))]; first | (simp [go_sem]; done) | (simp [*]; done)) | (rw [hf _ _ (by first | omega | (simp only [World.size_alloc, World.size_drew, World.size_setCell]; omega))]; first | (simp [go_sem]; done) | (simp [*]; done)))
  clear hq1
  obtain ⟨L, hL⟩ : ∃ L, L = minusR ⟨ax, ay, aw, ah⟩ ⟨bx, b2, bw, bh⟩ := ⟨_, rfl⟩
  have HL := Lib.hid hL
  have hlen : L.length ≤ 4 := by rw [hL]; exact minus_len _ _
  rw [← hL] at o1
  clear hL
  obtain ⟨p1, c1, rfl, _, s1, _, _⟩ := own_sl o1 rfl
  have H1 := Lib.hid s1
  clear s1 o1
  have ⟨m1, m2, m3, m4⟩ := (fun h : isR (meetR ⟨ax, ay, aw, ah⟩ ⟨bx, b2, bw, bh⟩) => And.intro h.x (And.intro h.y (And.intro h.w h.h))) (isR_meet _ _)
  have ⟨k1, k2, k3, k4⟩ := (fun h : isR (meetR ⟨ax, ay, aw, ah⟩ ⟨ax, ay, aw, ah⟩) => And.intro h.x (And.intro h.y (And.intro h.w h.h))) (isR_meet _ _)
  obtain ⟨⟨mx, my, mw, mh⟩, hM⟩ : ∃ r, r = meetR ⟨ax, ay, aw, ah⟩ ⟨bx, b2, bw, bh⟩ := ⟨_, rfl⟩
  obtain ⟨⟨ox, oy, ow, oh⟩, hO⟩ : ∃ r, r = meetR ⟨ax, ay, aw, ah⟩ ⟨ax, ay, aw, ah⟩ := ⟨_, rfl⟩
  obtain ⟨⟨qx, qy, qw, qh⟩, hQ⟩ : ∃ r, r = meetR ⟨bx, b2, bw, bh⟩ ⟨bx, b2, bw, bh⟩ := ⟨_, rfl⟩
  rw [← hM] at m1 m2 m3 m4
  rw [← hO] at k1 k2 k3 k4
  have MB := Lib.hid (show _ ∧ _ ∧ _ ∧ _ from ⟨m1, m2, m3, m4⟩)
  have OB := Lib.hid (show _ ∧ _ ∧ _ ∧ _ from ⟨k1, k2, k3, k4⟩)
  have HM := Lib.hid hM
  have HO := Lib.hid hO
  have HQ := Lib.hid hQ
  clear m1 m2 m3 m4 k1 k2 k3 k4 hM hO hQ
  go_wp2_with fail
  refine (rect_Meet_any _ _ _ _ _ _ _ _ _ hax hay haw hah hbx hb2 hbw hbh).mono ?_
  rw [← HM.out]
  rintro e w2 ⟨rfl, hq2⟩
  have B2 : Below w.heap.size w w2 := below_via hq2 (by go_grown)
  have G2 : Below w1.heap.size w1 w2 := below_via hq2 (by go_grown)
  have Z2 := G2.size
  have S2 := B2.size
  have F2 : w.heap.size < w2.heap.size ∧ w.heap.size + 1 < w2.heap.size ∧ w.heap.size + 2 < w2.heap.size ∧ w2.cell? ⟨w.heap.size, 0, none⟩ = some (.int .i64 ax) ∧ w2.cell? ⟨w.heap.size, 1, none⟩ = some (.int .i64 ay) ∧ w2.cell? ⟨w.heap.size, 2, none⟩ = some (.int .i64 aw) ∧ w2.cell? ⟨w.heap.size, 3, none⟩ = some (.int .i64 ah) ∧ w2.cell? ⟨w.heap.size + 1, 0, none⟩ = some (.int .i64 bx) ∧ w2.cell? ⟨w.heap.size + 1, 1, none⟩ = some (.int .i64 b2) ∧ w2.cell? ⟨w.heap.size + 1, 2, none⟩ = some (.int .i64 bw) ∧ w2.cell? ⟨w.heap.size + 1, 3, none⟩ = some (.int .i64 bh) ∧ w2.cell? ⟨w.heap.size + 2, 0, none⟩ = some (.int .i64 cx) ∧ w2.cell? ⟨w.heap.size + 2, 1, none⟩ = some (.int .i64 cy) := by
    obtain ⟨hc, hf⟩ := bcell hq2
    have hz := hq2.size
    (try simp only [World.size_alloc, World.size_drew, World.size_setCell] at hz)
    (repeat' apply And.intro) <;> (first | omega | (rw [hc _ _ (by first | omega | (simp only [World.size_alloc, World.size_drew, World.size_setCell]; omega))]; first | (simp [go_sem, F1]; done) | (simp [*]; done)) | (rw [hf _ _ (by first | omega | (simp only [World.size_alloc, World.size_drew, World.size_setCell]; omega))]; first | (simp [go_sem, F1]; done) | (simp [*]; done)))
  clear hq2
  go_wp2_with fail
  refine (rect_Meet_any _ _ _ _ _ _ _ _ _ hax hay haw hah hax hay haw hah).mono ?_
  rw [← HO.out]
  rintro e w3 ⟨rfl, hq3⟩
  have B3 : Below w.heap.size w w3 := below_via hq3 (by go_grown)
  have G3 : Below w1.heap.size w1 w3 := below_via hq3 (by go_grown)
  have Z3 := G3.size
  have S3 := B3.size
  obtain ⟨bm, hbm⟩ : ∃ z, z = w2.heap.size := ⟨_, rfl⟩
  have zbm : bm < w3.heap.size := by have := hq3.size; simp at this; omega
  have zb0 : w.heap.size + 2 < bm := by omega
  rw [← hbm]
  have F3 : w.heap.size < w3.heap.size ∧ w.heap.size + 1 < w3.heap.size ∧ w.heap.size + 2 < w3.heap.size ∧ bm < w3.heap.size ∧ w3.cell? ⟨w.heap.size, 0, none⟩ = some (.int .i64 ax) ∧ w3.cell? ⟨w.heap.size, 1, none⟩ = some (.int .i64 ay) ∧ w3.cell? ⟨w.heap.size, 2, none⟩ = some (.int .i64 aw) ∧ w3.cell? ⟨w.heap.size, 3, none⟩ = some (.int .i64 ah) ∧ w3.cell? ⟨w.heap.size + 1, 0, none⟩ = some (.int .i64 bx) ∧ w3.cell? ⟨w.heap.size + 1, 1, none⟩ = some (.int .i64 b2) ∧ w3.cell? ⟨w.heap.size + 1, 2, none⟩ = some (.int .i64 bw) ∧ w3.cell? ⟨w.heap.size + 1, 3, none⟩ = some (.int .i64 bh) ∧ w3.cell? ⟨w.heap.size + 2, 0, none⟩ = some (.int .i64 cx) ∧ w3.cell? ⟨w.heap.size + 2, 1, none⟩ = some (.int .i64 cy) ∧ w3.cell? ⟨bm, 0, none⟩ = some (.int .i64 mx) ∧ w3.cell? ⟨bm, 1, none⟩ = some (.int .i64 my) ∧ w3.cell? ⟨bm, 2, none⟩ = some (.int .i64 mw) ∧ w3.cell? ⟨bm, 3, none⟩ = some (.int .i64 mh) := by
    rw [hbm] at zbm ⊢
    obtain ⟨hc, hf⟩ := bcell hq3
    have hz := hq3.size
    (try simp only [World.size_alloc, World.size_drew, World.size_setCell] at hz)
    (repeat' apply And.intro) <;> (first | omega | (rw [hc _ _ (by first | omega | (simp only [World.size_alloc, World.size_drew, World.size_setCell]; omega))]; first | (simp [go_sem, F2]; done) | (simp [*]; done)))
  clear hq3 F2 B2 S2 hbm G2 F1 B1 S1
  go_upto_region 4 with (fail)
  obtain ⟨w4, hw4⟩ : ∃ x, x = w3.alloc (.cells #[.int .i64 ox, .int .i64 oy, .int .i64 ow, .int .i64 oh] 23) := ⟨_, rfl⟩
  obtain ⟨bo, hbo⟩ : ∃ z, z = w3.heap.size := ⟨_, rfl⟩
  have B4 : Below w.heap.size w w4 := by rw [hw4]; go_grown
  have G4 : Below w1.heap.size w1 w4 := by rw [hw4]; go_grown
  have S4 := B4.size
  have F4 : w.heap.size < w4.heap.size ∧ w.heap.size + 1 < w4.heap.size ∧ w.heap.size + 2 < w4.heap.size ∧ bm < w4.heap.size ∧ bo < w4.heap.size ∧ w4.cell? ⟨w.heap.size, 0, none⟩ = some (.int .i64 ax) ∧ w4.cell? ⟨w.heap.size, 1, none⟩ = some (.int .i64 ay) ∧ w4.cell? ⟨w.heap.size, 2, none⟩ = some (.int .i64 aw) ∧ w4.cell? ⟨w.heap.size, 3, none⟩ = some (.int .i64 ah) ∧ w4.cell? ⟨w.heap.size + 1, 0, none⟩ = some (.int .i64 bx) ∧ w4.cell? ⟨w.heap.size + 1, 1, none⟩ = some (.int .i64 b2) ∧ w4.cell? ⟨w.heap.size + 1, 2, none⟩ = some (.int .i64 bw) ∧ w4.cell? ⟨w.heap.size + 1, 3, none⟩ = some (.int .i64 bh) ∧ w4.cell? ⟨w.heap.size + 2, 0, none⟩ = some (.int .i64 cx) ∧ w4.cell? ⟨w.heap.size + 2, 1, none⟩ = some (.int .i64 cy) ∧ w4.cell? ⟨bm, 0, none⟩ = some (.int .i64 mx) ∧ w4.cell? ⟨bm, 1, none⟩ = some (.int .i64 my) ∧ w4.cell? ⟨bm, 2, none⟩ = some (.int .i64 mw) ∧ w4.cell? ⟨bm, 3, none⟩ = some (.int .i64 mh) ∧ w4.cell? ⟨bo, 0, none⟩ = some (.int .i64 ox) ∧ w4.cell? ⟨bo, 1, none⟩ = some (.int .i64 oy) ∧ w4.cell? ⟨bo, 2, none⟩ = some (.int .i64 ow) ∧ w4.cell? ⟨bo, 3, none⟩ = some (.int .i64 oh) := by
    rw [hw4, hbo]
    (repeat' apply And.intro) <;> first | (simp; omega) | (simp [go_sem, F3]; done)
  rw [← hw4, ← hbo]
  have zb1 : bm < bo := by omega
  clear hw4 hbo F3 B3 G3 S3 zbm
  have H4 := Lib.hid (H1.out.later G4)
  clear G4 H1
  have HIX := I0.out
  go_cut [10] (fun s wx => ∃ p n c, s = .slice p n c ∧ n = 3 + L.length ∧ SlAt wx p ([⟨mx, my, mw, mh⟩, ⟨ox, oy, ow, oh⟩, ⟨qx, qy, qw, qh⟩] ++ L) ∧ SlAt wx p1 L ∧ (w.heap.size < wx.heap.size ∧ w.heap.size + 1 < wx.heap.size ∧ w.heap.size + 2 < wx.heap.size ∧ bm < wx.heap.size ∧ bo < wx.heap.size ∧ wx.cell? ⟨w.heap.size, 0, none⟩ = some (.int .i64 ax) ∧ wx.cell? ⟨w.heap.size, 1, none⟩ = some (.int .i64 ay) ∧ wx.cell? ⟨w.heap.size, 2, none⟩ = some (.int .i64 aw) ∧ wx.cell? ⟨w.heap.size, 3, none⟩ = some (.int .i64 ah) ∧ wx.cell? ⟨w.heap.size + 1, 0, none⟩ = some (.int .i64 bx) ∧ wx.cell? ⟨w.heap.size + 1, 1, none⟩ = some (.int .i64 b2) ∧ wx.cell? ⟨w.heap.size + 1, 2, none⟩ = some (.int .i64 bw) ∧ wx.cell? ⟨w.heap.size + 1, 3, none⟩ = some (.int .i64 bh) ∧ wx.cell? ⟨w.heap.size + 2, 0, none⟩ = some (.int .i64 cx) ∧ wx.cell? ⟨w.heap.size + 2, 1, none⟩ = some (.int .i64 cy) ∧ wx.cell? ⟨bm, 0, none⟩ = some (.int .i64 mx) ∧ wx.cell? ⟨bm, 1, none⟩ = some (.int .i64 my) ∧ wx.cell? ⟨bm, 2, none⟩ = some (.int .i64 mw) ∧ wx.cell? ⟨bm, 3, none⟩ = some (.int .i64 mh) ∧ wx.cell? ⟨bo, 0, none⟩ = some (.int .i64 ox) ∧ wx.cell? ⟨bo, 1, none⟩ = some (.int .i64 oy) ∧ wx.cell? ⟨bo, 2, none⟩ = some (.int .i64 ow) ∧ wx.cell? ⟨bo, 3, none⟩ = some (.int .i64 oh)) ∧ Below w.heap.size w wx)
  case first =>
    (repeat (rename_i hh; revert hh))
    revert i0 j0 I0 J0 w1 L HL hlen p1 c1 mx my mw mh ox oy ow oh qx qy qw qh MB OB HM HO HQ w2 Z2 w3 Z3 bm zb0 w4 bo B4 S4 F4 zb1 H4 HIX
    exact hP0.out
  case rest =>
    clear hP0
    obtain ⟨p, n, c, rfl, hn, hs, h1, FX, BX⟩ := hcut
    have hn1 : n ≤ 3 + L.length := by omega
    have hn2 : 3 + L.length ≤ n := by omega
    have HNN := Lib.hid hn
    clear hn
    have SX := BX.size
    obtain ⟨w4', hw4'⟩ : ∃ x : World, x = wc := ⟨_, rfl⟩
    rw [← hw4'] at hs h1 FX BX SX ⊢
    clear hw4' F4 B4 S4 H4 HIX
    have HS := Lib.hid hs
    have H1 := Lib.hid h1
    clear hs h1
    go_upto_region 5 with (fail)
    go_cut [65] (fun s wx => s = .bool false ∧ (w.heap.size < wx.heap.size ∧ w.heap.size + 1 < wx.heap.size ∧ w.heap.size + 2 < wx.heap.size ∧ bm < wx.heap.size ∧ bo < wx.heap.size ∧ wx.cell? ⟨w.heap.size, 0, none⟩ = some (.int .i64 ax) ∧ wx.cell? ⟨w.heap.size, 1, none⟩ = some (.int .i64 ay) ∧ wx.cell? ⟨w.heap.size, 2, none⟩ = some (.int .i64 aw) ∧ wx.cell? ⟨w.heap.size, 3, none⟩ = some (.int .i64 ah) ∧ wx.cell? ⟨w.heap.size + 1, 0, none⟩ = some (.int .i64 bx) ∧ wx.cell? ⟨w.heap.size + 1, 1, none⟩ = some (.int .i64 b2) ∧ wx.cell? ⟨w.heap.size + 1, 2, none⟩ = some (.int .i64 bw) ∧ wx.cell? ⟨w.heap.size + 1, 3, none⟩ = some (.int .i64 bh) ∧ wx.cell? ⟨w.heap.size + 2, 0, none⟩ = some (.int .i64 cx) ∧ wx.cell? ⟨w.heap.size + 2, 1, none⟩ = some (.int .i64 cy) ∧ wx.cell? ⟨bm, 0, none⟩ = some (.int .i64 mx) ∧ wx.cell? ⟨bm, 1, none⟩ = some (.int .i64 my) ∧ wx.cell? ⟨bm, 2, none⟩ = some (.int .i64 mw) ∧ wx.cell? ⟨bm, 3, none⟩ = some (.int .i64 mh) ∧ wx.cell? ⟨bo, 0, none⟩ = some (.int .i64 ox) ∧ wx.cell? ⟨bo, 1, none⟩ = some (.int .i64 oy) ∧ wx.cell? ⟨bo, 2, none⟩ = some (.int .i64 ow) ∧ wx.cell? ⟨bo, 3, none⟩ = some (.int .i64 oh)) ∧ Below w4'.heap.size w4' wx)
    case first =>
      (repeat (rename_i hh; revert hh))
      revert i0 j0 I0 J0 w1 L HL hlen p1 c1 mx my mw mh ox oy ow oh qx qy qw qh MB OB HM HO HQ w2 Z2 w3 Z3 bm zb0 w4 bo zb1 wc u18 u19 u20 u21 u22 u23 u24 u25 u26 u27 u28 u29 u30 u31 u32 u33 u34 u35 u36 u37 u38 u39 u40 u41 u42 u43 u44 u45 u46 u47 u48 u49 u50 u51 u52 u53 u54 u55 u56 u57 u58 u59 u60 u61 u62 u63 u64 u65 u66 u67 u68 u69 u70 u71 u72 u73 u74 u75 u76 u77 u78 u79 u80 u81 u82 u83 u84 u85 u86 u87 u88 u89 u90 u91 u92 u93 u94 u95 u96 u97 u98 u99 u100 u101 u102 u103 u104 u105 u106 u107 u108 u109 u110 u111 u112 u113 u114 u115 u116 u117 u118 u119 u120 u121 u122 u123 u124 u125 u126 u127 u128 u129 u130 u131 u132 u133 u134 u135 u136 u137 u138 u139 u140 u141 u142 u143 u144 u145 u146 u147 u148 u149 u150 u151 u152 u153 u154 u155 u156 u157 u158 u159 u160 u161 u162 u163 u164 u165 u166 u167 u168 u169 u170 u171 u172 u173 u174 u175 u176 u177 u178 u179 u180 u181 u182 u183 u184 u185 u186 u187 u188 u189 u190 u191 u192 u193 u194 u195 p n c hn1 hn2 HNN w4' SX BX FX HS H1
      exact hP1.out
    case rest =>
      clear hP1
      obtain ⟨rfl, F5, B5⟩ := hcut
      obtain ⟨w5, hw5⟩ : ∃ x : World, x = wc := ⟨_, rfl⟩
      rw [← hw5] at F5 B5 ⊢
      clear hw5 FX
      have BW5 : Below w.heap.size w w5 := below_via B5 BX
      have S5 := BW5.size
      have HS5 := Lib.hid (HS.out.later B5)
      have HL5 := Lib.hid (H1.out.later B5)
      clear B5 BX SX HS H1
      have HP := Lib.hid (pieces_own ⟨ax, ay, aw, ah⟩ ⟨bx, b2, bw, bh⟩)
      have HAA := Lib.hid (pieces_all ⟨ax, ay, aw, ah⟩ ⟨bx, b2, bw, bh⟩)
      rw [← HM.out, ← HO.out, ← HQ.out, ← HL.out] at HP HAA
      obtain ⟨ALL, hALL⟩ : ∃ x, x = [⟨mx, my, mw, mh⟩, ⟨ox, oy, ow, oh⟩, ⟨qx, qy, qw, qh⟩] ++ L := ⟨_, rfl⟩
      have hlA : ALL.length = n := by rw [hALL, HNN.out]; simp; omega
      rw [← hALL] at HS5 HP HAA
      clear hALL
      have F5h := Lib.hid F5
      go_wp2
      go_loopw [11] (fun i wr => ∃ k : Nat, k ≤ n ∧ i = .int .i64 k ∧ Below w5.heap.size w5 wr) (fun i _ => n - (intOf i).toNat)
      case atStart => exact ⟨0, Nat.zero_le _, rfl, Below.refl _ _⟩
      case round =>
        clear F5
        obtain ⟨k, hk, rfl, BW⟩ := hrel
        by_cases hlt : k < n
        · obtain ⟨b, off, rfl, hb, hc⟩ := HS5.out (by omega)
          obtain ⟨q0, q1, q2, q3⟩ := (hc.later BW hb) k (by omega)
          obtain ⟨ob, nz⟩ := HP.out k (by omega)
          generalize ALL.getD k zR = r at *
          obtain ⟨X, Y, W, H⟩ := r
          simp only [] at q0 q1 q2 q3 ob nz
          have S0 := BW.size
          have hb' : b < wr.heap.size := by omega
          clear hc
          have OB' := Lib.hid ob
          have NZ := Lib.hid nz
          clear ob nz
          go_wp2_with fail
          refine (own_any _ _ _ _ _ OB'.out).mono ?_
          rintro e w6 ⟨rfl, hb6⟩
          have B6 : Below w5.heap.size w5 w6 := below_via hb6 BW
          rw [← (bcell hb6).1 _ _ hb'] at q2
          clear hb6 q0 q1 q3
          rcases (show ¬ (2 < k) ∨ 2 < k by omega) with h2 | h2
          · have d : decide ((2 : Int) < (k : Int)) = false := by rw [decide_eq_false_iff_not]; omega
            go_wp2
            go_roundw
            case rel => first | exact ⟨k + 1, by omega, by go_num, B6⟩ | ((repeat apply Exists.intro); exact ⟨⟨k + 1, by omega, by go_num, B6⟩, rfl⟩)
            case measure => simp [intOf]; omega
          · have d : decide ((2 : Int) < (k : Int)) = true := by rw [decide_eq_true_eq]; omega
            have nz := NZ.out h2
            go_wp2
            go_roundw
            case rel => first | exact ⟨k + 1, by omega, by go_num, B6⟩ | ((repeat apply Exists.intro); exact ⟨⟨k + 1, by omega, by go_num, B6⟩, rfl⟩)
            case measure => simp [intOf]; omega
        · obtain rfl : n = k := by omega
          clear hlt hk
          have BWn : Below w.heap.size w wr := below_via BW BW5
          have F6 : w.heap.size < wr.heap.size ∧ w.heap.size + 1 < wr.heap.size ∧ w.heap.size + 2 < wr.heap.size ∧ bm < wr.heap.size ∧ bo < wr.heap.size ∧ wr.cell? ⟨w.heap.size, 0, none⟩ = some (.int .i64 ax) ∧ wr.cell? ⟨w.heap.size, 1, none⟩ = some (.int .i64 ay) ∧ wr.cell? ⟨w.heap.size, 2, none⟩ = some (.int .i64 aw) ∧ wr.cell? ⟨w.heap.size, 3, none⟩ = some (.int .i64 ah) ∧ wr.cell? ⟨w.heap.size + 1, 0, none⟩ = some (.int .i64 bx) ∧ wr.cell? ⟨w.heap.size + 1, 1, none⟩ = some (.int .i64 b2) ∧ wr.cell? ⟨w.heap.size + 1, 2, none⟩ = some (.int .i64 bw) ∧ wr.cell? ⟨w.heap.size + 1, 3, none⟩ = some (.int .i64 bh) ∧ wr.cell? ⟨w.heap.size + 2, 0, none⟩ = some (.int .i64 cx) ∧ wr.cell? ⟨w.heap.size + 2, 1, none⟩ = some (.int .i64 cy) ∧ wr.cell? ⟨bm, 0, none⟩ = some (.int .i64 mx) ∧ wr.cell? ⟨bm, 1, none⟩ = some (.int .i64 my) ∧ wr.cell? ⟨bm, 2, none⟩ = some (.int .i64 mw) ∧ wr.cell? ⟨bm, 3, none⟩ = some (.int .i64 mh) ∧ wr.cell? ⟨bo, 0, none⟩ = some (.int .i64 ox) ∧ wr.cell? ⟨bo, 1, none⟩ = some (.int .i64 oy) ∧ wr.cell? ⟨bo, 2, none⟩ = some (.int .i64 ow) ∧ wr.cell? ⟨bo, 3, none⟩ = some (.int .i64 oh) := by
            have F5 := F5h.out
            obtain ⟨hc, hf⟩ := bcell BW
            have hz := BW.size
            (repeat' apply And.intro) <;> (first | omega | (rw [hc _ _ (by omega)]; simp [F5]; done))
          go_upto_region 12 with (fail)
          obtain ⟨w7, hw7⟩ : ∃ x : World, x = wr := ⟨_, rfl⟩
          rw [← hw7] at F6 BWn BW ⊢
          clear hw7 F5h
          have S7 := BWn.size
          have F7 : w.heap.size < w7.heap.size ∧ w.heap.size + 1 < w7.heap.size ∧ w.heap.size + 2 < w7.heap.size ∧ w7.cell? ⟨w.heap.size + 2, 0, none⟩ = some (.int .i64 cx) ∧ w7.cell? ⟨w.heap.size + 2, 1, none⟩ = some (.int .i64 cy) := by
            go_split_ands
            (repeat' apply And.intro) <;> assumption
          have F6h := Lib.hid F6
          clear F6
          have HS7 := Lib.hid (HS5.out.later BW)
          have HL7 := Lib.hid (HL5.out.later BW)
          clear HS5 HL5 BW BW5 S5
          go_cut [12] (fun s wx => ∃ g m c, ∃ CC : List (Int × Int), s = .slice (some ⟨g, 0, none⟩) m c ∧ m ≤ 1000 ∧ CC.length = m ∧ PtsAt wx g CC ∧ Below w7.heap.size w7 wx)
          case first =>
            (repeat (rename_i hh; revert hh))
            revert i0 j0 I0 J0 w1 L HL hlen p1 c1 mx my mw mh ox oy ow oh qx qy qw qh MB OB HM HO HQ w2 Z2 w3 Z3 bm zb0 w4 bo zb1 u65 p n c hn1 hn2 HNN w4' wc u18 u19 u20 u21 u22 u23 u24 u25 u26 u27 u28 u29 u30 u31 u32 u33 u34 u35 u36 u37 u38 u39 u40 u41 u42 u43 u44 u45 u46 u47 u48 u49 u50 u51 u52 u53 u54 u55 u56 u57 u58 u59 u60 u61 u62 u63 u64 u90 u91 u92 u93 u94 u95 u96 u97 u98 u99 u100 u101 u102 u103 u104 u105 u106 u107 u108 u109 u110 u111 u112 u113 u114 u115 u116 u117 u118 u119 u120 u121 u122 u123 u124 u125 u126 u127 u128 u129 u130 u131 u132 u133 u134 u135 u136 u137 u138 u139 u140 u141 u142 u143 u144 u145 u146 u147 u148 u149 u150 u151 u152 u153 u154 u155 u156 u157 u158 u159 u160 u161 u162 u163 u164 u165 u166 u167 u168 u169 u170 u171 u172 u173 u174 u175 u176 u177 u178 u179 u180 u181 u182 u183 u184 u185 u186 u187 u188 u189 u190 u191 u192 u193 u194 u195 w5 ALL HAA HP hlA wr u6 u66 u67 u68 u69 u70 u71 u72 u73 u74 u75 u76 u77 u78 u79 u80 u81 u82 u83 u84 u85 u86 u87 u88 u89 w7 BWn S7 F7 F6h HS7 HL7
            exact hP2.out
          case rest =>
            clear hP2
            obtain ⟨g, m, c, CC, rfl, hm1000, hCC, hP, BX⟩ := hcut
            obtain ⟨w8, hw8⟩ : ∃ x : World, x = wc := ⟨_, rfl⟩
            rw [← hw8] at hP BX ⊢
            have BW8 : Below w.heap.size w w8 := below_via BX BWn
            have S8 := BX.size
            have F8 : w.heap.size < w8.heap.size ∧ w.heap.size + 1 < w8.heap.size ∧ w.heap.size + 2 < w8.heap.size ∧ bm < w8.heap.size ∧ bo < w8.heap.size ∧ w8.cell? ⟨w.heap.size, 0, none⟩ = some (.int .i64 ax) ∧ w8.cell? ⟨w.heap.size, 1, none⟩ = some (.int .i64 ay) ∧ w8.cell? ⟨w.heap.size, 2, none⟩ = some (.int .i64 aw) ∧ w8.cell? ⟨w.heap.size, 3, none⟩ = some (.int .i64 ah) ∧ w8.cell? ⟨w.heap.size + 1, 0, none⟩ = some (.int .i64 bx) ∧ w8.cell? ⟨w.heap.size + 1, 1, none⟩ = some (.int .i64 b2) ∧ w8.cell? ⟨w.heap.size + 1, 2, none⟩ = some (.int .i64 bw) ∧ w8.cell? ⟨w.heap.size + 1, 3, none⟩ = some (.int .i64 bh) ∧ w8.cell? ⟨w.heap.size + 2, 0, none⟩ = some (.int .i64 cx) ∧ w8.cell? ⟨w.heap.size + 2, 1, none⟩ = some (.int .i64 cy) ∧ w8.cell? ⟨bm, 0, none⟩ = some (.int .i64 mx) ∧ w8.cell? ⟨bm, 1, none⟩ = some (.int .i64 my) ∧ w8.cell? ⟨bm, 2, none⟩ = some (.int .i64 mw) ∧ w8.cell? ⟨bm, 3, none⟩ = some (.int .i64 mh) ∧ w8.cell? ⟨bo, 0, none⟩ = some (.int .i64 ox) ∧ w8.cell? ⟨bo, 1, none⟩ = some (.int .i64 oy) ∧ w8.cell? ⟨bo, 2, none⟩ = some (.int .i64 ow) ∧ w8.cell? ⟨bo, 3, none⟩ = some (.int .i64 oh) := by
              have F6 := F6h.out
              go_split_ands
              (repeat' apply And.intro) <;> (first | omega | (rw [(bcell BX).1 _ _ (by omega)]; assumption))
            have F8h := Lib.hid F8
            have HP8 := Lib.hid hP
            have HL8 := Lib.hid (HL7.out.later BX)
            have hm : CC.length = m := hCC
            have HM8 := Lib.hid hm
            have HOWN := Lib.hid (show ∀ r ∈ L, OwnF r by rw [HL.out]; exact fun r hr => (minus_own _ _ r hr).1)
            have HCNT := Lib.hid (show ∀ x y, cntR L x y = if hasR ⟨ax, ay, aw, ah⟩ x y = true ∧ hasR ⟨bx, b2, bw, bh⟩ x y = false then 1 else 0 by rw [HL.out]; exact minus_cells _ _)
            have HHM := Lib.hid (show ∀ x y, hasR ⟨mx, my, mw, mh⟩ x y = (hasR ⟨ax, ay, aw, ah⟩ x y && hasR ⟨bx, b2, bw, bh⟩ x y) by rw [HM.out]; exact has_meet _ _)
            have HHO := Lib.hid (show ∀ x y, hasR ⟨ox, oy, ow, oh⟩ x y = hasR ⟨ax, ay, aw, ah⟩ x y by rw [HO.out]; intro x y; rw [has_meet, Bool.and_self])
            clear F8 hP hCC hm hw8 F6h F7 HS7 HL7 BX S7 BWn S8 HL HM HO HQ HP HAA hlA HNN hn1 hn2
            go_wp2
            go_loopw [13] (fun i wr => ∃ k : Nat, k ≤ m ∧ i = .int .i64 k ∧ Below w8.heap.size w8 wr) (fun i _ => m - (intOf i).toNat)
            case atStart => exact ⟨0, Nat.zero_le _, rfl, Below.refl _ _⟩
            case round =>
              obtain ⟨k, hk, rfl, BW⟩ := hrel
              by_cases hlt : k < m
              · obtain ⟨pq0, pq1⟩ := HP8.out.2 k (by rw [HM8.out]; exact hlt)
                have zg := HP8.out.1
                generalize CC.getD k (0, 0) = pt at pq0 pq1
                obtain ⟨px, py⟩ := pt
                simp only [] at pq0 pq1
                have PQ := Lib.hid (And.intro pq0 pq1)
                have hkm : (k : Int) < (m : Int) := by omega
                clear pq0 pq1
                go_wp2
                go_loopw [15, 14] (fun i v wr => ∃ j : Nat, j ≤ L.length ∧ i = .int .i64 j ∧ v = .int .i64 (cntR (L.take j) px py : Nat) ∧ Below w8.heap.size w8 wr) (fun i _ _ => L.length - (intOf i).toNat)
                case atStart => exact ⟨0, Nat.zero_le _, rfl, by simp [cntR], BW⟩
                case round =>
                  clear BW
                  obtain ⟨j, hj, rfl, rfl, BW⟩ := hrel
                  have SW := BW.size
                  have pc0 : wr.cell? ⟨g, k * 2, none⟩ = some (.int .i64 px) := by rw [(bcell BW).1 _ _ zg]; exact PQ.out.1
                  have pc1 : wr.cell? ⟨g, k * 2 + 1, none⟩ = some (.int .i64 py) := by rw [(bcell BW).1 _ _ zg]; exact PQ.out.2
                  have zgw : g < wr.heap.size := by omega
                  by_cases hjl : j < L.length
                  · obtain ⟨bl, ol, rfl, hbl, hlc⟩ := HL8.out (by omega)
                    obtain ⟨q0, q1, q2, q3⟩ := (hlc.later BW hbl) j hjl
                    have hblw : bl < wr.heap.size := by omega
                    have ob := own_bound _ (HOWN.out (L.getD j zR) (by rw [List.getD_eq_getElem?_getD, List.getElem?_eq_getElem hjl]; simp))
                    have HT := Lib.hid (cntR_take L j hjl px py)
                    generalize L.getD j zR = r at *
                    obtain ⟨rx, ry, rw_, rh⟩ := r
                    simp only [] at q0 q1 q2 q3 ob
                    have hjL : (j : Int) < (L.length : Int) := by omega
                    have OBB := Lib.hid ob
                    clear hlc ob
                    have hle := cntR_le (L.take j) px py
                    have hle2 : (L.take j).length ≤ j := List.length_take_le _ _
                    generalize cntR (L.take j) px py = cn at *
                    go_upto_region 20 with (fail)
                    go_still_tail 14, (by as_aux_lemma => kernel_rfl)
                    change wpList _ _ _ _ _ wr.drew
                    generalize hq : wr.drew = w9
                    have B9 : Below w8.heap.size w8 w9 := by rw [← hq]; exact Below.drew BW
                    clear hq q0 q1 q2 q3 pc0 pc1 BW SW
                    go_wp2_with fail
                    refine (rect_Has_any rx ry rw_ rh px py _ (by have := OBB.out; omega) (by have := OBB.out; omega) (by have := OBB.out; omega) (by have := OBB.out; omega)).mono ?_
                    cases hh : hasR ⟨rx, ry, rw_, rh⟩ px py
                    · have HT' := Lib.hid (show cntR (L.take (j + 1)) px py = cn by rw [HT.out, hh]; rfl)
                      clear hh HT
                      rintro e w10 ⟨rfl, hb10⟩
                      have B10 : Below w8.heap.size w8 w10 := below_via hb10 B9
                      clear hb10
                      go_wp2
                      go_roundw
                      case rel => exact ⟨j + 1, by omega, by go_num, by rw [HT'.out], B10⟩
                      case measure => simp [intOf]; omega
                    · have HT' := Lib.hid (show cntR (L.take (j + 1)) px py = cn + 1 by rw [HT.out, hh]; rfl)
                      clear hh HT
                      rintro e w10 ⟨rfl, hb10⟩
                      have B10 : Below w8.heap.size w8 w10 := below_via hb10 B9
                      clear hb10
                      go_wp2
                      go_roundw
                      case rel => exact ⟨j + 1, by omega, by go_num, by rw [HT'.out]; go_num, B10⟩
                      case measure => simp [intOf]; omega
                  · obtain rfl : j = L.length := by omega
                    have HN := Lib.hid (show cntR (L.take L.length) px py = if hasR ⟨ax, ay, aw, ah⟩ px py = true ∧ hasR ⟨bx, b2, bw, bh⟩ px py = false then 1 else 0 by rw [List.take_length]; exact HCNT.out px py)
                    have HOX := Lib.hid (HHO.out px py)
                    have HMX := Lib.hid (HHM.out px py)
                    generalize cntR (L.take L.length) px py = cn at *
                    have z8 : w8.heap.size ≤ wr.heap.size := SW
                    have F9 : w.heap.size < wr.heap.size ∧ w.heap.size + 1 < wr.heap.size ∧ w.heap.size + 2 < wr.heap.size ∧ bm < wr.heap.size ∧ bo < wr.heap.size ∧ wr.cell? ⟨w.heap.size, 0, none⟩ = some (.int .i64 ax) ∧ wr.cell? ⟨w.heap.size, 1, none⟩ = some (.int .i64 ay) ∧ wr.cell? ⟨w.heap.size, 2, none⟩ = some (.int .i64 aw) ∧ wr.cell? ⟨w.heap.size, 3, none⟩ = some (.int .i64 ah) ∧ wr.cell? ⟨w.heap.size + 1, 0, none⟩ = some (.int .i64 bx) ∧ wr.cell? ⟨w.heap.size + 1, 1, none⟩ = some (.int .i64 b2) ∧ wr.cell? ⟨w.heap.size + 1, 2, none⟩ = some (.int .i64 bw) ∧ wr.cell? ⟨w.heap.size + 1, 3, none⟩ = some (.int .i64 bh) ∧ wr.cell? ⟨w.heap.size + 2, 0, none⟩ = some (.int .i64 cx) ∧ wr.cell? ⟨w.heap.size + 2, 1, none⟩ = some (.int .i64 cy) ∧ wr.cell? ⟨bm, 0, none⟩ = some (.int .i64 mx) ∧ wr.cell? ⟨bm, 1, none⟩ = some (.int .i64 my) ∧ wr.cell? ⟨bm, 2, none⟩ = some (.int .i64 mw) ∧ wr.cell? ⟨bm, 3, none⟩ = some (.int .i64 mh) ∧ wr.cell? ⟨bo, 0, none⟩ = some (.int .i64 ox) ∧ wr.cell? ⟨bo, 1, none⟩ = some (.int .i64 oy) ∧ wr.cell? ⟨bo, 2, none⟩ = some (.int .i64 ow) ∧ wr.cell? ⟨bo, 3, none⟩ = some (.int .i64 oh) := by
                      have F8 := F8h.out
                      go_split_ands
                      (repeat' apply And.intro) <;> (first | omega | (rw [(bcell BW).1 _ _ (by omega)]; assumption))
                    go_upto_region 22 with (fail)
                    go_still_tail 11, (by as_aux_lemma => kernel_rfl)
                    change wpList _ _ _ _ _ wr.drew
                    generalize hq : wr.drew = w9
                    have B9 : Below w8.heap.size w8 w9 := by rw [← hq]; exact Below.drew BW
                    have S9 := B9.size
                    clear hq pc0 pc1 BW SW F9 z8 zgw hjl hj
                    go_wp2_with fail
                    refine (rect_Has_any ax ay aw ah px py _ hax hay haw hah).mono ?_
                    rintro e w10 ⟨rfl, hb10⟩
                    generalize hasR ⟨ax, ay, aw, ah⟩ px py = ia at *
                    have B10 : Below w8.heap.size w8 w10 := below_via hb10 B9
                    have S10 := B10.size
                    clear hb10 B9 S9
                    have pc0 : w10.cell? ⟨g, k * 2, none⟩ = some (.int .i64 px) := by rw [(bcell B10).1 _ _ zg]; exact PQ.out.1
                    have pc1 : w10.cell? ⟨g, k * 2 + 1, none⟩ = some (.int .i64 py) := by rw [(bcell B10).1 _ _ zg]; exact PQ.out.2
                    have zgw : g < w10.heap.size := by omega
                    have F10 : w.heap.size < w10.heap.size ∧ w.heap.size + 1 < w10.heap.size ∧ w.heap.size + 2 < w10.heap.size ∧ bm < w10.heap.size ∧ bo < w10.heap.size ∧ w10.cell? ⟨w.heap.size, 0, none⟩ = some (.int .i64 ax) ∧ w10.cell? ⟨w.heap.size, 1, none⟩ = some (.int .i64 ay) ∧ w10.cell? ⟨w.heap.size, 2, none⟩ = some (.int .i64 aw) ∧ w10.cell? ⟨w.heap.size, 3, none⟩ = some (.int .i64 ah) ∧ w10.cell? ⟨w.heap.size + 1, 0, none⟩ = some (.int .i64 bx) ∧ w10.cell? ⟨w.heap.size + 1, 1, none⟩ = some (.int .i64 b2) ∧ w10.cell? ⟨w.heap.size + 1, 2, none⟩ = some (.int .i64 bw) ∧ w10.cell? ⟨w.heap.size + 1, 3, none⟩ = some (.int .i64 bh) ∧ w10.cell? ⟨w.heap.size + 2, 0, none⟩ = some (.int .i64 cx) ∧ w10.cell? ⟨w.heap.size + 2, 1, none⟩ = some (.int .i64 cy) ∧ w10.cell? ⟨bm, 0, none⟩ = some (.int .i64 mx) ∧ w10.cell? ⟨bm, 1, none⟩ = some (.int .i64 my) ∧ w10.cell? ⟨bm, 2, none⟩ = some (.int .i64 mw) ∧ w10.cell? ⟨bm, 3, none⟩ = some (.int .i64 mh) ∧ w10.cell? ⟨bo, 0, none⟩ = some (.int .i64 ox) ∧ w10.cell? ⟨bo, 1, none⟩ = some (.int .i64 oy) ∧ w10.cell? ⟨bo, 2, none⟩ = some (.int .i64 ow) ∧ w10.cell? ⟨bo, 3, none⟩ = some (.int .i64 oh) := by
                      have F8 := F8h.out
                      go_split_ands
                      (repeat' apply And.intro) <;> (first | omega | (rw [(bcell B10).1 _ _ (by omega)]; assumption))
                    go_upto_region 23 with (fail)
                    go_still_tail 11, (by as_aux_lemma => kernel_rfl)
                    change wpList _ _ _ _ _ w10.drew
                    generalize hq : w10.drew = w11
                    have B11 : Below w8.heap.size w8 w11 := by rw [← hq]; exact Below.drew B10
                    have S11 := B11.size
                    clear hq pc0 pc1 B10 S10 F10 zgw
                    go_wp2_with fail
                    refine (rect_Has_any bx b2 bw bh px py _ hbx hb2 hbw hbh).mono ?_
                    rintro e w12 ⟨rfl, hb12⟩
                    generalize hasR ⟨bx, b2, bw, bh⟩ px py = ib at *
                    have B12 : Below w8.heap.size w8 w12 := below_via hb12 B11
                    have S12 := B12.size
                    clear hb12 B11 S11
                    have pc0 : w12.cell? ⟨g, k * 2, none⟩ = some (.int .i64 px) := by rw [(bcell B12).1 _ _ zg]; exact PQ.out.1
                    have pc1 : w12.cell? ⟨g, k * 2 + 1, none⟩ = some (.int .i64 py) := by rw [(bcell B12).1 _ _ zg]; exact PQ.out.2
                    have zgw : g < w12.heap.size := by omega
                    have F12 : w.heap.size < w12.heap.size ∧ w.heap.size + 1 < w12.heap.size ∧ w.heap.size + 2 < w12.heap.size ∧ bm < w12.heap.size ∧ bo < w12.heap.size ∧ w12.cell? ⟨w.heap.size, 0, none⟩ = some (.int .i64 ax) ∧ w12.cell? ⟨w.heap.size, 1, none⟩ = some (.int .i64 ay) ∧ w12.cell? ⟨w.heap.size, 2, none⟩ = some (.int .i64 aw) ∧ w12.cell? ⟨w.heap.size, 3, none⟩ = some (.int .i64 ah) ∧ w12.cell? ⟨w.heap.size + 1, 0, none⟩ = some (.int .i64 bx) ∧ w12.cell? ⟨w.heap.size + 1, 1, none⟩ = some (.int .i64 b2) ∧ w12.cell? ⟨w.heap.size + 1, 2, none⟩ = some (.int .i64 bw) ∧ w12.cell? ⟨w.heap.size + 1, 3, none⟩ = some (.int .i64 bh) ∧ w12.cell? ⟨w.heap.size + 2, 0, none⟩ = some (.int .i64 cx) ∧ w12.cell? ⟨w.heap.size + 2, 1, none⟩ = some (.int .i64 cy) ∧ w12.cell? ⟨bm, 0, none⟩ = some (.int .i64 mx) ∧ w12.cell? ⟨bm, 1, none⟩ = some (.int .i64 my) ∧ w12.cell? ⟨bm, 2, none⟩ = some (.int .i64 mw) ∧ w12.cell? ⟨bm, 3, none⟩ = some (.int .i64 mh) ∧ w12.cell? ⟨bo, 0, none⟩ = some (.int .i64 ox) ∧ w12.cell? ⟨bo, 1, none⟩ = some (.int .i64 oy) ∧ w12.cell? ⟨bo, 2, none⟩ = some (.int .i64 ow) ∧ w12.cell? ⟨bo, 3, none⟩ = some (.int .i64 oh) := by
                      have F8 := F8h.out
                      go_split_ands
                      (repeat' apply And.intro) <;> (first | omega | (rw [(bcell B12).1 _ _ (by omega)]; assumption))
                    have o1 : -9223372036854775808 ≤ ox ∧ ox ≤ 9223372036854775807 := by have := OB.out; omega
                    have o2 : -9223372036854775808 ≤ oy ∧ oy ≤ 9223372036854775807 := by have := OB.out; omega
                    have o3 : -9223372036854775808 ≤ ow ∧ ow ≤ 9223372036854775807 := by have := OB.out; omega
                    have o4 : -9223372036854775808 ≤ oh ∧ oh ≤ 9223372036854775807 := by have := OB.out; omega
                    have m1 : -9223372036854775808 ≤ mx ∧ mx ≤ 9223372036854775807 := by have := MB.out; omega
                    have m2 : -9223372036854775808 ≤ my ∧ my ≤ 9223372036854775807 := by have := MB.out; omega
                    have m3 : -9223372036854775808 ≤ mw ∧ mw ≤ 9223372036854775807 := by have := MB.out; omega
                    have m4 : -9223372036854775808 ≤ mh ∧ mh ≤ 9223372036854775807 := by have := MB.out; omega
                    have F13 : bm < w12.heap.size ∧ bo < w12.heap.size ∧ g < w12.heap.size ∧ w12.cell? ⟨bm, 0, none⟩ = some (.int .i64 mx) ∧ w12.cell? ⟨bm, 1, none⟩ = some (.int .i64 my) ∧ w12.cell? ⟨bm, 2, none⟩ = some (.int .i64 mw) ∧ w12.cell? ⟨bm, 3, none⟩ = some (.int .i64 mh) ∧ w12.cell? ⟨bo, 0, none⟩ = some (.int .i64 ox) ∧ w12.cell? ⟨bo, 1, none⟩ = some (.int .i64 oy) ∧ w12.cell? ⟨bo, 2, none⟩ = some (.int .i64 ow) ∧ w12.cell? ⟨bo, 3, none⟩ = some (.int .i64 oh) ∧ w12.cell? ⟨g, k * 2, none⟩ = some (.int .i64 px) ∧ w12.cell? ⟨g, k * 2 + 1, none⟩ = some (.int .i64 py) := by
                      go_split_ands
                      (repeat' apply And.intro) <;> assumption
                    clear F12 pc0 pc1 zgw
                    go_upto_region 24 with (fail)
                    have KF := Lib.hid (show ∀ w' : World, Below w12.heap.size w12 w' → (bm < w'.heap.size ∧ bo < w'.heap.size ∧ g < w'.heap.size ∧ w'.cell? ⟨bm, 0, none⟩ = some (.int .i64 mx) ∧ w'.cell? ⟨bm, 1, none⟩ = some (.int .i64 my) ∧ w'.cell? ⟨bm, 2, none⟩ = some (.int .i64 mw) ∧ w'.cell? ⟨bm, 3, none⟩ = some (.int .i64 mh) ∧ w'.cell? ⟨bo, 0, none⟩ = some (.int .i64 ox) ∧ w'.cell? ⟨bo, 1, none⟩ = some (.int .i64 oy) ∧ w'.cell? ⟨bo, 2, none⟩ = some (.int .i64 ow) ∧ w'.cell? ⟨bo, 3, none⟩ = some (.int .i64 oh) ∧ w'.cell? ⟨g, k * 2, none⟩ = some (.int .i64 px) ∧ w'.cell? ⟨g, k * 2 + 1, none⟩ = some (.int .i64 py)) from fun w' h => by
                      have S := h.size
                      go_split_ands
                      (repeat' apply And.intro) <;> (first | omega | (rw [(bcell h).1 _ _ (by assumption)]; assumption)))
                    clear F13 S12
                    (repeat (rename_i hh; revert hh))
                    revert i0 j0 I0 J0 w1 L hlen p1 c1 mx my mw mh ox oy ow oh qx qy qw qh MB OB w2 Z2 w3 Z3 bm zb0 w4 bo zb1 p n w4' w5 ALL w7 wc u18 u19 u20 u21 u22 u23 u24 u25 u26 u27 u28 u29 u30 u31 u32 u33 u34 u35 u36 u37 u38 u39 u40 u41 u42 u43 u44 u45 u46 u47 u48 u49 u50 u51 u52 u53 u54 u55 u56 u57 u58 u59 u60 u61 u62 u63 u64 u65 u66 u67 u68 u69 u70 u71 u72 u73 u74 u75 u76 u77 u78 u79 u80 u81 u82 u83 u84 u85 u86 u87 u88 u89 u90 u91 u92 u93 u94 u195 g m c CC hm1000 w8 BW8 F8h HP8 HL8 HM8 HOWN HCNT HHM HHO u6 u14 u15 u16 u17 u95 u96 u97 u98 u99 u100 u124 u125 u126 u127 u128 u129 u130 u131 u132 u133 u134 u135 u136 u137 u138 u139 u140 u141 u142 u143 u144 u145 u146 u147 u148 u149 u150 u151 u152 u153 u154 u155 u156 u157 u158 u159 u160 u161 u162 u163 u164 u165 u166 u167 u168 u169 u170 u171 u172 u173 u174 u175 u176 u177 u178 u179 u180 u181 u182 u183 u184 u185 u186 u187 u188 u189 u190 u191 u192 u193 u194 k hk hlt zg px py PQ hkm wr u101 u102 u103 u104 u105 u106 u107 u108 u109 u110 u111 u112 u113 u114 u115 u116 u117 u118 u119 u120 u121 u122 u123 cn w9 w10 ia HOX w11 w12 ib HMX HN B12 o1 o2 o3 o4 m1 m2 m3 m4 KF
                    exact hP3.out
              · obtain rfl : m = k := by omega
                clear hP3
                have BF : Below w.heap.size w wr := below_via BW BW8
                clear hlt hk
                go_wp2_with fail
                refine (wakes_any _).mono ?_
                rintro e w11 ⟨rfl, hb11⟩
                go_wp2
                go_ret
                exact ⟨rfl, below_via hb11 BF⟩⟩
end Go.Proofs.Ytekcheccelllcaa
