/- Layer 07: New of a region. -/
import Derived.Test.YtekcheccelllcaaRgO
import Derived.Test.YtekcheccelllcaaRgZ
namespace Go.Proofs.Ytekcheccelllcaa
open Go.RowKit
set_option linter.unusedVariables false
set_option linter.unusedSimpArgs false

/-- a rectangle more; none: too many -/
def addB (bs : List Bd) (r : R4) : Option (List Bd) := if 1024 < cntB (chgB opAdd bs (bxR r)) then none else some (chgB opAdd bs (bxR r))
def newB (L : List R4) : Option (List Bd) := L.foldl (fun o r => o.bind fun bs => addB bs r) (some [])
theorem newB_snoc (L : List R4) (r : R4) : newB (L ++ [r]) = (newB L).bind fun bs => addB bs r := by unfold newB; rw [List.foldl_append]; rfl
theorem newB_none_left {L M : List R4} (h : newB L = none) : newB (L ++ M) = none := by
  unfold newB at *
  rw [List.foldl_append, h]
  induction M with
  | nil => rfl
  | cons r M ih => exact ih
theorem regOk_nil : RegOk [] := ⟨trivial, fun b hb => (by cases hb), by simp [cntB]⟩
theorem regOk_add {bs bs' : List Bd} {r : R4} (h : RegOk bs) (ha : addB bs r = some bs') : RegOk bs' := by
  unfold addB at ha
  split at ha
  · cases ha
  · injection ha with ha
    subst ha
    exact ⟨chgB_can rfl h.can (bxR_ok r), chgB_in_plane _ h.pl (bxR_in r), by omega⟩
structure NewI (L : List R4) (bs : List Bd) : Prop where
  ok : RegOk bs
  nums : Nums bs L.length
  cell : ∀ x y, inB bs x y = L.any fun r => inX (bxR r) x y
/-- by taking rectangles from behind -/
theorem newB_some {L : List R4} : ∀ {bs : List Bd}, newB L = some bs → NewI L bs := by
  have key : ∀ (k : Nat) (L : List R4), L.length = k → ∀ bs, newB L = some bs → NewI L bs := by
    intro k
    induction k with
    | zero =>
      intro L hl bs h
      have := List.length_eq_zero_iff.1 hl
      subst this
      injection h with h
      subst h
      exact ⟨regOk_nil, nums_nil, fun x y => rfl⟩
    | succ k ih =>
      intro L hl bs h
      rcases List.eq_nil_or_concat L with rfl | ⟨M, r, rfl⟩
      · simp at hl
      · rw [List.concat_eq_append] at *
        rw [newB_snoc] at h
        cases hq : newB M with
        | none => rw [hq] at h; cases h
        | some b =>
          rw [hq] at h
          have h1 := ih M (by simp at hl; omega) b hq
          have h2 : addB b r = some bs := h
          have h3 := regOk_add h1.ok h2
          unfold addB at h2
          split at h2
          · cases h2
          · injection h2 with h2
            subst h2
            refine ⟨h3, by rw [List.length_append]; exact nums_chg _ h1.nums _, fun x y => ?_⟩
            rw [chgB_in rfl h1.ok.can (bxR_ok r), h1.cell, List.any_append]
            simp [opAdd]
  intro bs h
  exact key L.length L rfl bs h
theorem newB_none {L : List R4} (h : newB L = none) : enoughB L.length = true := by
  have key : ∀ (k : Nat) (L : List R4), L.length = k → newB L = none → enoughB L.length = true := by
    intro k
    induction k with
    | zero =>
      intro L hl h
      have := List.length_eq_zero_iff.1 hl
      subst this
      cases h
    | succ k ih =>
      intro L hl h
      rcases List.eq_nil_or_concat L with rfl | ⟨M, r, rfl⟩
      · simp at hl
      · rw [List.concat_eq_append] at *
        rw [newB_snoc] at h
        cases hq : newB M with
        | none => exact enough_mono (ih M (by simp at hl; omega) hq) (by simp)
        | some b =>
          rw [hq] at h
          have h2 : addB b r = none := h
          have h1 := newB_some hq
          unfold addB at h2
          split at h2
          · rename_i hf
            have := enough_of (chgB_can rfl h1.ok.can (bxR_ok r)) (nums_chg opAdd h1.nums (bxR r)) hf
            rw [List.length_append]; exact this
          · cases h2
  exact key L.length L rfl h
/-- what New leaves -/
def NewR (w : World) (L : List R4) (e : Ending) (w' : World) : Prop :=
  Below w.heap.size w w' ∧ match newB L with
  | some bs => ∃ g v l, e = .returned (.tuple #[.pointer (some ⟨g, 0, none⟩), .int .i64 0]) ∧ RegAt w.heap.size w' g v l ∧ bdsOf l = bs
  | none => e = .returned (.tuple #[.pointer none, .int .i64 4])
set_option maxRecDepth 100000 in
set_option maxHeartbeats 8000000 in
theorem new_any (p : Option Addr) (n c : Nat) (L : List R4) (w : World) (hL : L.length = n) (hlen : n ≤ 140737488351232) (hp : SlAt w p L) (hr : ∀ r ∈ L, isR r) : Calls Try.prog 33 #[.slice p n c] w fun e w' => NewR w L e w' := by
  have HL := Lib.hid hL
  have HP := Lib.hid hp
  have HRR := Lib.hid hr
  clear hL hp hr
  go_enter Try.func33, Try.ntmps33
  go_upto_region 2 with (fail)
  obtain ⟨w1, hw1⟩ : ∃ q, q = w.alloc (.cells #[.slice none 0 0] 82) := ⟨_, rfl⟩
  rw [← hw1]
  have HB1 := Lib.hid (show Below w.heap.size w w1 from by rw [hw1]; exact below_al (Below.refl _ _) _)
  have HR1 := Lib.hid (show RegAt w.heap.size w1 w.heap.size (.slice none 0 0) [] from by rw [hw1]; exact ⟨heap_alloc_new _ _, ⟨⟨rfl, .inl ⟨rfl, rfl⟩⟩, fun e he => (by cases he)⟩, Nat.le_refl _⟩)
  clear hw1
  go_wp2
  go_loopw [12] (fun iv wr => ∃ (i : Nat) (v : Value) (l : List BV), iv = .int .i64 i ∧ i ≤ n ∧ RowKit.Hid (RegAt w.heap.size wr w.heap.size v l ∧ Below w.heap.size w wr ∧ newB (L.take i) = some (bdsOf l))) (fun iv _ => n - (intOf iv).toNat)
  case atStart => exact ⟨0, _, [], rfl, Nat.zero_le _, Lib.hid ⟨HR1.out, HB1.out, rfl⟩⟩
  case round =>
    clear HR1 HB1
    obtain ⟨i, v, l, rfl, hi, HI⟩ := hrel
    by_cases hlt : i < n
    · have hii : (i : Int) < (n : Int) := by omega
      obtain ⟨rb, ro, rfl, zr, hrc⟩ := (HP.out.later (HI.out.2.1)) (by have := HL.out; omega)
      have hc := hrc i (by rw [HL.out]; exact hlt)
      obtain ⟨r, hr⟩ : ∃ r, r = L.getD i zR := ⟨_, rfl⟩
      rw [← hr] at hc
      obtain ⟨c0, c1, c2, c3⟩ := hc
      have hmem : r ∈ L := by rw [hr, List.getD_eq_getElem?_getD, List.getElem?_eq_getElem (by rw [HL.out]; exact hlt)]; exact List.getElem_mem _
      have HRI := Lib.hid (HRR.out r hmem)
      have HNX := Lib.hid (show newB (L.take (i + 1)) = addB (bdsOf l) r from by
        have e : L.take (i + 1) = L.take i ++ [r] := by
          rw [List.take_succ_eq_append_getElem (by rw [HL.out]; exact hlt), hr, List.getD_eq_getElem?_getD, List.getElem?_eq_getElem (by rw [HL.out]; exact hlt)]; rfl
        rw [e, newB_snoc, HI.out.2.2]
        rfl)
      have HOK := Lib.hid (newB_some HI.out.2.2).ok
      have HBW := Lib.hid HI.out.2.1
      clear hrc hr hmem
      go_upto_region 5 with (fail)
      obtain ⟨wz, hwz⟩ : ∃ z, z = wr.alloc (.cells #[.int .i64 r.x, .int .i64 r.y, .int .i64 r.w, .int .i64 r.h] 23) := ⟨_, rfl⟩
      rw [← hwz]
      have HBZ := Lib.hid (show Below wr.heap.size wr wz from by rw [hwz]; exact below_al (Below.refl _ _) _)
      have hx : wz.heap[wr.heap.size]? = some (.cells #[.int .i64 r.x, .int .i64 r.y, .int .i64 r.w, .int .i64 r.h] 23 (0, 0)) := by rw [hwz]; exact heap_alloc_new _ _
      obtain ⟨z0, d0, d1, d2, d3⟩ : wr.heap.size < wz.heap.size ∧ wz.cell? ⟨wr.heap.size, 0, none⟩ = some (.int .i64 r.x) ∧ wz.cell? ⟨wr.heap.size, 1, none⟩ = some (.int .i64 r.y) ∧ wz.cell? ⟨wr.heap.size, 2, none⟩ = some (.int .i64 r.w) ∧ wz.cell? ⟨wr.heap.size, 3, none⟩ = some (.int .i64 r.h) := ⟨lt_of_block hx, by rw [cell_of_row _ _ _ _ _ _ hx]; rfl, by rw [cell_of_row _ _ _ _ _ _ hx]; rfl, by rw [cell_of_row _ _ _ _ _ _ hx]; rfl, by rw [cell_of_row _ _ _ _ _ _ hx]; rfl⟩
      clear hwz hx c0 c1 c2 c3
      have HRZ := Lib.hid (HI.out.1.later HBZ.out)
      go_wp2_with fail
      refine (add_any w.heap.size wz w.heap.size v l HRZ.out HOK.out r HRI.out).mono ?_
      rintro e w5 ⟨he, hc⟩
      by_cases hf : 1024 < cntB (chgB opAdd (bdsOf l) (bxR r))
      · rw [if_pos hf] at he hc
        subst he
        obtain ⟨v', l', q1, q2, q3, q4⟩ := hc
        have HB5 := Lib.hid (show Below w.heap.size w w5 from (below_via HBZ.out HBW.out).trans (q3.under (fun k hk => by rw [hk]; exact Nat.le_refl _) (by have := (below_via HBZ.out HBW.out).size; omega)))
        have HNN := Lib.hid (show newB L = none from by
          have h1 : newB (L.take (i + 1)) = none := by rw [HNX.out]; unfold addB; rw [if_pos hf]
          have h2 := newB_none_left (M := L.drop (i + 1)) h1
          rwa [List.take_append_drop] at h2)
        have HFIN := Lib.hid (show NewR w L (.returned (.tuple #[.pointer none, .int .i64 4])) w5 from ⟨HB5.out, by rw [HNN.out]⟩)
        clear q1 q2 q3 q4 hf d0 d1 d2 d3
        go_wp2
        go_ret2
        exact HFIN.out
      · rw [if_neg hf] at he hc
        subst he
        obtain ⟨v', l', q1, q2, q3, q4⟩ := hc
        have HB5 := Lib.hid (show Below w.heap.size w w5 from (below_via HBZ.out HBW.out).trans (q3.under (fun k hk => by rw [hk]; exact Nat.le_refl _) (by have := (below_via HBZ.out HBW.out).size; omega)))
        have HN2 := Lib.hid (show RegAt w.heap.size w5 w.heap.size v' l' ∧ Below w.heap.size w w5 ∧ newB (L.take (i + 1)) = some (bdsOf l') from ⟨q1, HB5.out, by rw [HNX.out, q2]; unfold addB; rw [if_neg hf]⟩)
        clear q1 q2 q3 q4 hf d0 d1 d2 d3 HI
        go_wp2
        go_roundw
        case rel => exact ⟨i + 1, v', l', by go_num, by omega, HN2⟩
        case measure => simp [intOf] <;> omega
    · have hii : ¬ (i : Int) < (n : Int) := by omega
      obtain rfl : n = i := by omega
      have HFIN := Lib.hid (show NewR w L (.returned (.tuple #[.pointer (some ⟨w.heap.size, 0, none⟩), .int .i64 0])) wr from ⟨HI.out.2.1, by have h := HI.out.2.2; rw [List.take_of_length_le (by rw [HL.out]; exact Nat.le_refl _)] at h; rw [h]; exact ⟨_, v, l, rfl, HI.out.1, rfl⟩⟩)
      go_wp2
      go_ret2
      exact HFIN.out
end Go.Proofs.Ytekcheccelllcaa
