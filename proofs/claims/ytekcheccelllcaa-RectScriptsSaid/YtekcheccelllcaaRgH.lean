/- Layer 07: a region in memory; a call that changes it. -/
import Derived.Test.YtekcheccelllcaaRgF
import Derived.Test.YtekcheccelllcaaRgZ
import Derived.Test.YtekcheccelllcaaKep
import Derived.Test.YtekcheccelllcaaRctA
import Derived.Deep.CutRange
import Derived.BigQuiet
namespace Go.Proofs.Ytekcheccelllcaa
open Go.RowKit
set_option linter.unusedVariables false
set_option linter.unusedSimpArgs false

/-- a band, and the slice of its ends -/
abbrev BV := Bd × Value
def zBV : BV := (zB, .slice none 0 0)
def bnV (e : BV) : List Value := [.int .i64 e.1.y0, .int .i64 e.1.y1, e.2]
def bnsV (l : List BV) : List Value := l.flatMap bnV
theorem bnsV_len (l : List BV) : (bnsV l).length = l.length * 3 := by
  induction l with
  | nil => rfl
  | cons e l ih => rw [bnsV, List.flatMap_cons, List.length_append]; rw [bnsV] at ih; rw [ih, List.length_cons]; simp [bnV]; omega
theorem bnsV_app (l m : List BV) : bnsV (l ++ m) = bnsV l ++ bnsV m := by simp [bnsV]
theorem bnsV_at (l : List BV) (i : Nat) (h : i < l.length) : (bnsV l)[i * 3]? = some (.int .i64 (l.getD i zBV).1.y0) ∧ (bnsV l)[i * 3 + 1]? = some (.int .i64 (l.getD i zBV).1.y1) ∧ (bnsV l)[i * 3 + 2]? = some (l.getD i zBV).2 := by
  induction l generalizing i with
  | nil => cases h
  | cons e l ih =>
    cases i with
    | zero => exact ⟨rfl, rfl, rfl⟩
    | succ i =>
      have e0 : bnsV (e :: l) = bnV e ++ bnsV l := rfl
      have hl : (bnV e).length = 3 := rfl
      have := ih i (by simpa using h)
      refine ⟨?_, ?_, ?_⟩
      · rw [e0, List.getElem?_append_right (by rw [hl]; omega), hl, show (i + 1) * 3 - 3 = i * 3 by omega]; exact this.1
      · rw [e0, List.getElem?_append_right (by rw [hl]; omega), hl, show (i + 1) * 3 + 1 - 3 = i * 3 + 1 by omega]; exact this.2.1
      · rw [e0, List.getElem?_append_right (by rw [hl]; omega), hl, show (i + 1) * 3 + 2 - 3 = i * 3 + 2 by omega]; exact this.2.2
/-- bands of the call's own -/
structure Bnds (base : Nat) (w : World) (v : Value) (l : List BV) : Prop where
  row : w.ownsRow base 86 3 v l.length (bnsV l)
  en : ∀ e ∈ l, w.ownsRow base 3 1 e.2 e.1.es.length (vI e.1.es)
theorem Bnds.later {base : Nat} {w w' : World} {v : Value} {l : List BV} (h : Bnds base w v l) (hb : Below w.heap.size w w') : Bnds base w' v l := ⟨row_later h.row hb, fun e he => row_later (h.en e he) hb⟩
theorem getD_mem' {l : List BV} {i : Nat} (h : i < l.length) : l.getD i zBV ∈ l := by
  rw [List.getD_eq_getElem?_getD, List.getElem?_eq_getElem h]; exact List.getElem_mem h
/-- the cells of band i -/
theorem Bnds.cells {base : Nat} {w : World} {p : Option Addr} {n c : Nat} {l : List BV} (h : Bnds base w (.slice p n c) l) {i : Nat} (hi : i < l.length) : ∃ b, p = some ⟨b, 0, none⟩ ∧ b < w.heap.size ∧ base ≤ b ∧ w.cell? ⟨b, i * 3, none⟩ = some (.int .i64 (l.getD i zBV).1.y0) ∧ w.cell? ⟨b, i * 3 + 1, none⟩ = some (.int .i64 (l.getD i zBV).1.y1) ∧ w.cell? ⟨b, i * 3 + 2, none⟩ = some (l.getD i zBV).2 := by
  rcases row_form h.row with ⟨e, h0, _⟩ | ⟨g, c', e, _⟩
  · omega
  · injection e with e1 e2 e3
    subst e1 e2 e3
    have hr := row_cells h.row
    obtain ⟨h1, h2, h3⟩ := bnsV_at l i hi
    have lt := row_lt h.row g rfl
    refine ⟨g, rfl, lt.1, lt.2, ?_, ?_, ?_⟩
    · have := hr _ _ h1; rwa [Nat.zero_add] at this
    · have := hr _ _ h2; rwa [Nat.zero_add] at this
    · have := hr _ _ h3; rwa [Nat.zero_add] at this
/-- the bands themselves -/
def bdsOf (l : List BV) : List Bd := l.map (·.1)
theorem bdsOf_len (l : List BV) : (bdsOf l).length = l.length := by simp [bdsOf]
theorem bdsOf_getD (l : List BV) (i : Nat) : (bdsOf l).getD i zB = (l.getD i zBV).1 := by
  unfold bdsOf
  rw [List.getD_eq_getElem?_getD, List.getD_eq_getElem?_getD, List.getElem?_map]
  cases l[i]? <;> rfl
/-- a region in memory -/
structure RegAt (base : Nat) (w : World) (g : Nat) (v : Value) (l : List BV) : Prop where
  pr : w.heap[g]? = some (.cells #[v] 82 (0, 0))
  bn : Bnds base w v l
  bg : base ≤ g
/-- its blocks -/
def SG (g : Nat) (v : Value) (l : List BV) : Nat → Prop := fun k => k = g ∨ v.ownBlock = some k ∨ ∃ e ∈ l, e.2.ownBlock = some k
theorem RegAt.keep {base : Nat} {w w' : World} {g : Nat} {v : Value} {l : List BV} (h : RegAt base w g v l) (hk : ∀ k, SG g v l k → w'.heap[k]? = w.heap[k]?) : RegAt base w' g v l :=
  ⟨(hk g (.inl rfl)).trans h.pr, ⟨row_keepB h.bn.row fun k hg => hk k (.inr (.inl hg)), fun e he => row_keepB (h.bn.en e he) fun k hg => hk k (.inr (.inr ⟨e, he, hg⟩))⟩, h.bg⟩
theorem RegAt.lt {base : Nat} {w : World} {g : Nat} {v : Value} {l : List BV} (h : RegAt base w g v l) : ∀ k, SG g v l k → k < w.heap.size ∧ base ≤ k := by
  rintro k (rfl | hk | ⟨e, he, hk⟩)
  · exact ⟨lt_of_block h.pr, h.bg⟩
  · exact row_lt h.bn.row _ hk
  · exact row_lt (h.bn.en e he) _ hk
theorem RegAt.later {base : Nat} {w w' : World} {g : Nat} {v : Value} {l : List BV} (h : RegAt base w g v l) (hb : Below w.heap.size w w') : RegAt base w' g v l := h.keep fun k hk => hb.block k (h.lt k hk).1
theorem RegAt.other {base : Nat} {w w' : World} {g : Nat} {v : Value} {l : List BV} {S : Nat → Prop} (h : RegAt base w g v l) (c : Chg w w' S) (hd : ∀ k, SG g v l k → ¬ S k) : RegAt base w' g v l := h.keep fun k hk => c.block k (h.lt k hk).1 (hd k hk)
/-- a region that may be -/
structure RegOk (bs : List Bd) : Prop where
  can : Can bs
  pl : BsIn bs
  few : cntB bs ≤ 1024
def bxR (r : R4) : Bx := if okR4 r then ⟨true, rlo r.x, rlo r.y, rhi r.x r.w, rhi r.y r.h⟩ else ⟨false, 0, 0, 0, 0⟩
theorem bxR_ok (r : R4) : BxOk (bxR r) := by
  unfold bxR
  cases h : okR4 r
  · exact ⟨fun e => (by cases e), fun _ => rfl⟩
  · exact ⟨fun _ => okB_spec.1 h, fun e => (by cases e)⟩
theorem bxR_in (r : R4) : BxIn (bxR r) := by
  unfold bxR
  cases h : okR4 r
  · exact ⟨by simp, by simp, by simp, by simp⟩
  · have h1 := okB_spec.1 h
    have h2 := rlo_bd r.x; have h3 := rlo_bd r.y; have h4 := rhi_bd r.x r.w; have h5 := rhi_bd r.y r.h
    exact ⟨by simp; omega, by simp; omega, by simp; omega, by simp; omega⟩
/-- what change leaves -/
def ChgR (base : Nat) (w : World) (op : Bool → Bool → Bool) (g : Nat) (v : Value) (l : List BV) (b : Bx) (e : Ending) (w' : World) : Prop :=
  e = .returned (.int .i64 (if 1024 < cntB (chgB op (bdsOf l) b) then 4 else 0)) ∧ ∃ v' l', RegAt base w' g v' l' ∧ bdsOf l' = (if 1024 < cntB (chgB op (bdsOf l) b) then bdsOf l else chgB op (bdsOf l) b) ∧ Chg w w' (fun k => k = g) ∧ ∀ k, SG g v' l' k → SG g v l k ∨ w.heap.size ≤ k
/-- the loop over the rows' bounds, at bound i -/
structure MainI (w1 wr : World) (F : Int → List Int) (ys : List Int) (ov : Value) (out : List BV) (i cnt : Nat) : Prop where
  be : Below w1.heap.size w1 wr
  bn : Bnds w1.heap.size wr ov out
  eq : goB F (ys.drop i) (bdsOf out) = mkBd F ys
  cn : cnt = cntB (bdsOf out)
  cb : cnt ≤ i * 4096
  ol : out.length ≤ i
theorem MainI.later {w1 wr w' : World} {F : Int → List Int} {ys : List Int} {ov : Value} {out : List BV} {i cnt : Nat} (h : MainI w1 wr F ys ov out i cnt) (hb : Below wr.heap.size wr w') : MainI w1 w' F ys ov out i cnt := ⟨below_via hb h.be, h.bn.later hb, h.eq, h.cn, h.cb, h.ol⟩
theorem infoBand_ : (Try.prog.info? 86).map (fun i => (i.zero, i.size, i.bytes)) = some (some (.agg #[.int .i64 0, .int .i64 0, .slice none 0 0]), 3, 40) := by kernel_rfl
theorem ysOf_take (bs : List Bd) (y0 y1 : Int) (j : Nat) (h : j < bs.length) : ysOf (bs.take (j + 1)) y0 y1 = ysOf (bs.take j) y0 y1 ++ [(bs.getD j zB).y0, (bs.getD j zB).y1] := by
  have e : bs.take (j + 1) = bs.take j ++ [bs.getD j zB] := by
    rw [List.take_succ_eq_append_getElem h, List.getD_eq_getElem?_getD, List.getElem?_eq_getElem h]; rfl
  rw [ysOf, ysOf, e, List.flatMap_append]
  rfl
set_option maxRecDepth 100000 in
set_option maxHeartbeats 32000000 in
def change_A (base : Nat) (w : World) (g : Nat) (pv : Option Addr) (n cv : Nat) (l : List BV) (op : Bool → Bool → Bool) (h0 : op false false = false) (K : FuncId) (HK : RowKit.Hid (Stays op K)) (HR : RowKit.Hid (RegAt base w g (.slice pv n cv) l)) (HN : RowKit.Hid (n = l.length)) (HOK : RowKit.Hid (RegOk (bdsOf l))) (r : R4) (HRR : RowKit.Hid (isR r)) : {P : Prop // RowKit.Hid P → Calls Try.prog 54 #[.pointer (some ⟨g, 0, none⟩), .agg #[.int .i64 r.x, .int .i64 r.y, .int .i64 r.w, .int .i64 r.h], .func (.func K) #[] #[]] w fun e w' => ChgR base w op g (.slice pv n cv) l (bxR r) e w'} := ⟨_, fun hP => by
  obtain ⟨i0, hi0, hz0, hz1, hz2⟩ := info_parts infoInt_
  have HI := Lib.hid (And.intro hi0 (And.intro hz0 (And.intro hz1 hz2)))
  clear hi0 hz0 hz1 hz2
  obtain ⟨j0, hi0, hz0, hz1, hz2⟩ := info_parts infoBand_
  have HJ := Lib.hid (And.intro hi0 (And.intro hz0 (And.intro hz1 hz2)))
  clear hi0 hz0 hz1 hz2
  have hnl : n ≤ 1024 := by rw [HN.out]; have h1 := HOK.out.can.len; have h2 := HOK.out.few; rw [bdsOf_len] at h1; omega
  have HC := Lib.hid (show ∀ w', Below w.heap.size w w' → (g < w'.heap.size ∧ w'.cell? ⟨g, 0, none⟩ = some (.slice pv n cv)) from fun w' hb => by
    have h2 := (hb.block _ (lt_of_block HR.out.pr)).trans HR.out.pr
    exact ⟨lt_of_block h2, by rw [cell_of_row _ _ _ _ _ _ h2]; rfl⟩)
  obtain ⟨b, hb⟩ : ∃ b, b = bxR r := ⟨_, rfl⟩
  have HBX := Lib.hid (show BxOk b from hb ▸ bxR_ok r)
  have HBI := Lib.hid (show BxIn b from hb ▸ bxR_in r)
  have HPOST := Lib.hid (fun e w' (hp : ChgR base w op g (.slice pv n cv) l b e w') => show ChgR base w op g (.slice pv n cv) l (bxR r) e w' from hb ▸ hp)
  have HBR := Lib.hid hb
  clear hb
  obtain ⟨kb, hkb⟩ : ∃ k, k = b.ok := ⟨_, rfl⟩
  have HKB := Lib.hid hkb
  clear hkb
  obtain ⟨zg, cg⟩ := HC.out w (Below.refl _ _)
  go_enter Try.func54, Try.ntmps54
  go_wp2_with fail
  refine (rect_ends_any r.x r.y r.w r.h _ HRR.out.x HRR.out.y HRR.out.w HRR.out.h).mono ?_
  rintro e w1 ⟨rfl, hb1⟩
  have HB1 := Lib.hid (below_via hb1 (below_al (Below.refl _ _) _))
  clear hb1 zg cg
  rw [show okB r.x r.y r.w r.h = kb from by rw [HKB.out, HBR.out]; unfold bxR; unfold okR4; cases okB r.x r.y r.w r.h <;> rfl]
  go_upto_if 28 with (fail)
  go_cut [8] (fun s wx => s = .bool kb ∧ RowKit.Hid (Below w.heap.size w wx) ∧ RowKit.Hid (wx.heap[w1.heap.size]? = some (.cells #[.int .i64 b.x0, .int .i64 b.y0, .int .i64 b.x1, .int .i64 b.y1] 70 (0, 0))))
  case first =>
    clear hP
    have hk := HKB.out.symm
    cases kb
    · have hbz : b = ⟨false, 0, 0, 0, 0⟩ := HBX.out.no hk
      go_wp2
      all_goals go_meet
      all_goals exact ⟨rfl, Lib.hid (by first | exact below_al HB1.out _ | exact (below_al HB1.out _).trans (Below.refl _ _)), Lib.hid (by rw [hbz]; first | exact heap_alloc_new _ _ | (simp [go_sem]))⟩
    · have hbz : b = ⟨true, rlo r.x, rlo r.y, rhi r.x r.w, rhi r.y r.h⟩ := by
        have h1 := HBR.out
        unfold bxR at h1
        split at h1
        · exact h1
        · rw [h1] at hk; cases hk
      go_wp2
      all_goals go_meet
      all_goals exact ⟨rfl, Lib.hid (below_al HB1.out _), Lib.hid (by rw [hbz]; exact heap_alloc_new _ _)⟩
  case rest =>
    obtain ⟨rfl, HB2, HX2⟩ := hcut
    obtain ⟨w2, hw2⟩ : ∃ z : World, z = wc := ⟨_, rfl⟩
    rw [← hw2] at HB2 HX2 ⊢
    clear hw2 HB1
    obtain ⟨gx, hgx⟩ : ∃ z, z = w1.heap.size := ⟨_, rfl⟩
    rw [← hgx] at HX2 ⊢
    clear hgx
    have HXC := Lib.hid (show ∀ w', Below w2.heap.size w2 w' → (gx < w'.heap.size ∧ w'.cell? ⟨gx, 0, none⟩ = some (.int .i64 b.x0) ∧ w'.cell? ⟨gx, 1, none⟩ = some (.int .i64 b.y0) ∧ w'.cell? ⟨gx, 2, none⟩ = some (.int .i64 b.x1) ∧ w'.cell? ⟨gx, 3, none⟩ = some (.int .i64 b.y1)) from fun w' hb => by
      have h2 := (hb.block _ (lt_of_block HX2.out)).trans HX2.out
      exact ⟨lt_of_block h2, by rw [cell_of_row _ _ _ _ _ _ h2]; rfl, by rw [cell_of_row _ _ _ _ _ _ h2]; rfl, by rw [cell_of_row _ _ _ _ _ _ h2]; rfl, by rw [cell_of_row _ _ _ _ _ _ h2]; rfl⟩)
    have HC2 := Lib.hid (fun w' (hb : Below w2.heap.size w2 w') => HC.out w' (below_via hb HB2.out))
    obtain ⟨z7, k0, k1, k2, k3⟩ := HXC.out w2 (Below.refl _ _)
    obtain ⟨zg, cg⟩ := HC2.out w2 (Below.refl _ _)
    go_upto_region 7 with (fail)
    obtain ⟨w3, hw3⟩ : ∃ z, z = w2.alloc (.cells #[.int .i64 b.y0, .int .i64 b.y1] 3) := ⟨_, rfl⟩
    rw [← hw3]
    have HB3 := Lib.hid (show Below w2.heap.size w2 w3 from by rw [hw3]; exact below_al (Below.refl _ _) _)
    have HY3 := Lib.hid (show w3.ownsRow w2.heap.size 3 1 (.slice (some ⟨w2.heap.size, 0, none⟩) 2 2) 2 (vI (ysOf ((bdsOf l).take 0) b.y0 b.y1)) from by
      rw [hw3]
      exact ⟨rfl, .inr ⟨w2.heap.size, 2, #[.int .i64 b.y0, .int .i64 b.y1], rfl, Nat.le_refl _, heap_alloc_new _ _, Nat.le_refl _, by unfold maxLen; omega, rfl, rfl⟩⟩)
    clear z7 k0 k1 k2 k3 zg cg hw3
    obtain ⟨zg, cg⟩ := HC2.out w3 HB3.out
    go_wp2
    clear zg cg
    go_loopw [9, 40] (fun yv jv wr => ∃ j : Nat, jv = .int .i64 j ∧ j ≤ n ∧ RowKit.Hid (Below w2.heap.size w2 wr ∧ wr.ownsRow w2.heap.size 3 1 yv (2 * j + 2) (vI (ysOf ((bdsOf l).take j) b.y0 b.y1)))) (fun _ jv _ => n - (intOf jv).toNat)
    case atStart => exact ⟨0, rfl, Nat.zero_le _, Lib.hid ⟨HB3.out, HY3.out⟩⟩
    case round =>
      clear HB3 HY3
      obtain ⟨j, rfl, hj, HJY⟩ := hrel
      have hzr := HJY.out.1.size
      by_cases hlt : j < n
      · have hjj : (j : Int) < (n : Int) := by omega
        clear hP
        have hj2 : j < l.length := by rw [← HN.out]; exact hlt
        have HRL := Lib.hid (HR.out.later (below_via HJY.out.1 HB2.out))
        obtain ⟨bb, hpe, zb, zb2, c0, c1, c2⟩ := HRL.out.bn.cells hj2
        subst hpe
        obtain ⟨E, hE⟩ : ∃ E, E = l.getD j zBV := ⟨_, rfl⟩
        rw [← hE] at c0 c1 c2
        obtain ⟨pe, ce, he⟩ := row_slice (HRL.out.bn.en E (hE ▸ getD_mem' hj2))
        rw [he] at c2
        have HYT := Lib.hid (show ysOf ((bdsOf l).take (j + 1)) b.y0 b.y1 = ysOf ((bdsOf l).take j) b.y0 b.y1 ++ [E.1.y0, E.1.y1] from by rw [ysOf_take _ _ _ _ (by rw [bdsOf_len]; exact hj2), bdsOf_getD, ← hE])
        generalize E.1.y0 = e0 at c0 HYT
        generalize E.1.y1 = e1 at c1 HYT
        generalize E.1.es.length = el at c2
        clear hE he hj2 HRL
        go_upto_region 10 with (fail)
        obtain ⟨wz, hwz⟩ : ∃ z, z = wr.alloc (.cells #[.int .i64 e0, .int .i64 e1, .slice pe el ce] 86) := ⟨_, rfl⟩
        rw [← hwz]
        have HBZ := Lib.hid (show Below wr.heap.size wr wz from by rw [hwz]; exact below_al (Below.refl _ _) _)
        have hz : wr.heap.size < wz.heap.size := by rw [hwz]; simp
        obtain ⟨d0, d1⟩ : wz.cell? ⟨wr.heap.size, 0, none⟩ = some (.int .i64 e0) ∧ wz.cell? ⟨wr.heap.size, 1, none⟩ = some (.int .i64 e1) := by
          have h2 : wz.heap[wr.heap.size]? = some (.cells #[.int .i64 e0, .int .i64 e1, .slice pe el ce] 86 (0, 0)) := by rw [hwz]; exact heap_alloc_new _ _
          exact ⟨by rw [cell_of_row _ _ _ _ _ _ h2]; rfl, by rw [cell_of_row _ _ _ _ _ _ h2]; rfl⟩
        clear hwz c0 c1 c2
        have HOA := Lib.hid (row_later (row_later HJY.out.2 HBZ.out) (below_al (Below.refl wz.heap.size wz) (.cells #[.int .i64 e0, .int .i64 e1] 3)))
        go_wp2_with (at_builtin; go_must (refine append_keep rfl (.tmp 44) (.tmp 49) 46 rfl w2.heap.size 3 i0 (.int .i64 0) 1 8 Try.underlying46 HI.out.1 HI.out.2.1 HI.out.2.2.1 HI.out.2.2.2 rfl (by decide) _ (2 * j + 2) _ rfl HOA.out ⟨wz.heap.size, 0, none⟩ 2 2 [.int .i64 e0, .int .i64 e1] rfl rfl ?e0 ?e1 ?e2 ?e3 ?e4 ?_))
        (try case e0 => exact World.news_of_block (cs := #[.int .i64 e0, .int .i64 e1]) (t := 3) (fr := (0, 0)) (heap_alloc_new _ _))
        case e1 => (intro u hu; simp at hu; rcases hu with rfl | rfl <;> rfl)
        case e2 => unfold maxLen; omega
        case e3 => omega
        case e4 => first | omega | (simp; omega)
        intro v6 w6 own6 gr6 loc6
        have BE6 : Below w2.heap.size w2 w6 := Below.grown (HJY.out.1.trans ((HBZ.out.trans (below_al (Below.refl wz.heap.size wz) _ |>.mono (by omega))).mono hzr)) gr6 (by simp; omega) (fun q hq => (row_lt HOA.out q hq).2)
        have HJ2 := Lib.hid (show Below w2.heap.size w2 w6 ∧ w6.ownsRow w2.heap.size 3 1 v6 (2 * (j + 1) + 2) (vI (ysOf ((bdsOf l).take (j + 1)) b.y0 b.y1)) from ⟨BE6, by rw [HYT.out, vI_app, show 2 * (j + 1) + 2 = 2 * j + 2 + 2 by omega]; exact own6⟩)
        clear own6 gr6 loc6 BE6 HOA HBZ HYT HJY
        go_wp2
        go_roundw
        case rel => exact ⟨j + 1, by go_num, by omega, HJ2⟩
        case measure => simp [intOf] <;> omega
      · have hjj : ¬ (j : Int) < (n : Int) := by omega
        obtain rfl : n = j := by omega
        have HT := Lib.hid (show (bdsOf l).take n = bdsOf l from List.take_of_length_le (by rw [bdsOf_len, ← HN.out]; exact Nat.le_refl _))
        go_wp2_with fail
        refine (sort_own w2.heap.size (2 * n + 2) _ _ wr HJY.out.2 (by omega)).mono ?_
        rintro e w4 ⟨rfl, own4, hb4⟩
        have HO4 := Lib.hid own4
        have HB4 := Lib.hid (HJY.out.1.trans hb4)
        clear own4 hb4 HJY
        go_wp2_with fail
        refine (compact_own w2.heap.size _ _ _ w4 HO4.out).mono ?_
        rintro e w5 ⟨v5, rfl, own5, hb5⟩
        rw [sort_compact, HT.out] at own5
        obtain ⟨ys, hys⟩ : ∃ ys, ys = srtU (ysOf (bdsOf l) b.y0 b.y1) := ⟨_, rfl⟩
        rw [← hys] at own5
        obtain ⟨py, cy, rfl, hyc, hyr⟩ := rdI_own own5 rfl
        have HYR := Lib.hid hyr
        have HB5 := Lib.hid (HB4.out.trans hb5)
        have HYU := Lib.hid (show Up ys from hys ▸ srtU_up _)
        have hyl : ys.length ≤ 2050 := by
          have h1 := srtU_len (ysOf (bdsOf l) b.y0 b.y1)
          rw [ysOf_len, bdsOf_len, ← HN.out, ← hys] at h1
          omega
        have HYI := Lib.hid (show ∀ y ∈ ys, -1048576 ≤ y ∧ y ≤ 1048576 from fun y hy => ysOf_in HOK.out.pl HBI.out y ((srtU_mem _ y).1 (hys ▸ hy)))
        obtain ⟨F, hF⟩ : ∃ F, F = fRow op (bdsOf l) b := ⟨_, rfl⟩
        have HFE := Lib.hid hF
        have HMK := Lib.hid (show mkBd F ys = chgB op (bdsOf l) b from by rw [hF, hys]; rfl)
        have HMI := Lib.hid (show MainI w5 w5 F ys (.slice none 0 0) [] 0 0 from ⟨Below.refl _ _, ⟨⟨rfl, .inl ⟨rfl, rfl⟩⟩, fun e he => (by cases he)⟩, mkBd_go F ys HYU.out, rfl, by omega, by simp⟩)
        have HC5 := Lib.hid (fun w' (hb : Below w5.heap.size w5 w') => HC2.out w' (HB5.out.trans (hb.mono HB5.out.size)))
        have HX5 := Lib.hid (fun w' (hb : Below w5.heap.size w5 w') => HXC.out w' (HB5.out.trans (hb.mono HB5.out.size)))
        have HR5 := Lib.hid (HR.out.later (below_via HB5.out HB2.out))
        clear own5 hyr hb5 hys hF HB4 HO4 HT hjj hj HC2 HXC hlt hzr
        (repeat (rename_i hh; revert hh))
        revert i0 HI j0 HJ hnl HC b HBX HBI HPOST HBR kb HKB w1 wc u20 u21 u22 u23 u24 u25 u26 u27 u28 u29 u30 u31 u32 u33 u34 u35 u36 u37 u52 u53 u54 u55 u56 u57 u58 u59 u60 u61 u62 u63 u64 u65 u66 u67 u68 u69 u70 u71 u72 u73 u74 u75 u76 u77 u78 u79 u80 u81 u82 u83 u84 u85 u86 u87 u88 u89 u90 u91 u92 u93 u94 u95 u96 u97 u98 u99 u100 u101 u102 u103 u104 u105 u106 u107 u108 u109 u110 u111 u112 u113 u114 u115 u116 u117 u118 u119 u120 u121 u122 u123 u124 u125 u126 u127 u128 u129 u130 u131 u132 u133 u134 u135 u136 u137 u138 u139 u140 u141 u142 u143 u144 u145 u146 u147 u148 u149 u150 u151 u152 u153 u154 u155 u156 u157 u158 u159 u160 u161 u162 u163 u164 u165 u166 u167 u168 u169 u170 u171 u172 u173 u174 u175 u176 u177 u178 u179 u180 u181 u182 u183 u184 u185 u186 u187 u188 u189 u190 u191 u192 u193 u194 u195 u196 u197 u198 u199 u200 u201 u202 u203 u204 u205 u206 u207 u208 u209 w2 HB2 gx HX2 w3 wr u9 u11 u41 u42 u43 u44 u45 u46 u47 u48 u49 u50 u51 w4 w5 ys py cy hyc HYR HB5 HYU hyl HYI F HFE HMK HMI HC5 HX5 HR5
        exact hP.out⟩
end Go.Proofs.Ytekcheccelllcaa
