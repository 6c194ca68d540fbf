/- Layer 07: New of a region's rectangles makes the region. -/
import Derived.Test.YtekcheccelllcaaRgQ
import Derived.Test.YtekcheccelllcaaRgZ
namespace Go.Proofs.Ytekcheccelllcaa
open Go.RowKit
set_option linter.unusedVariables false
set_option linter.unusedSimpArgs false

/-- of the plane -/
structure PlaneR (r : R4) : Prop where
  x : -1048576 ≤ r.x
  y : -1048576 ≤ r.y
  w : 0 < r.w
  h : 0 < r.h
  xw : r.x + r.w ≤ 1048576
  yh : r.y + r.h ≤ 1048576
theorem PlaneR.in {r : R4} (h : PlaneR r) (x y : Int) : inX (bxR r) x y = withinR r x y := by
  have h1 := h.x; have h2 := h.y; have h3 := h.w; have h4 := h.h; have h5 := h.xw; have h6 := h.yh
  have e1 : rlo r.x = r.x := by unfold rlo; omega
  have e2 : rlo r.y = r.y := by unfold rlo; omega
  have e3 : rhi r.x r.w = r.x + r.w := by unfold rhi endF; split <;> (try split) <;> omega
  have e4 : rhi r.y r.h = r.y + r.h := by unfold rhi endF; split <;> (try split) <;> omega
  have ok : okR4 r = true := okB_spec.2 ⟨by omega, by omega⟩
  unfold bxR
  rw [if_pos ok, e1, e2, e3, e4]
  simp only [inX, withinR, Bool.true_and]
theorem prs_mem : ∀ (l : List Int), Up l → ∀ p ∈ prs l, p.1 ∈ l ∧ p.2 ∈ l ∧ p.1 < p.2
  | [], _, p, hp => by cases hp
  | [a], _, p, hp => by cases hp
  | a :: b :: l, hu, p, hp => by
    have h1 := List.pairwise_cons.1 hu
    have h2 := List.pairwise_cons.1 h1.2
    rw [prs] at hp
    rcases List.mem_cons.1 hp with rfl | hp
    · exact ⟨by simp, by simp, h1.1 b (by simp)⟩
    · obtain ⟨q1, q2, q3⟩ := prs_mem l h2.2 p hp
      exact ⟨by simp [q1], by simp [q2], q3⟩
theorem rctsB_own {bs : List Bd} (h : Can bs) (hi : BsIn bs) : ∀ r ∈ rctsB bs, PlaneR r := by
  intro r hr
  obtain ⟨b, hb, hr⟩ := List.mem_flatMap.1 hr
  obtain ⟨p, hp, rfl⟩ := List.mem_map.1 hr
  have hk := h.ord.ok b hb
  have hb := hi b hb
  obtain ⟨q1, q2, q3⟩ := prs_mem b.es hk.ok.1 p hp
  have h1 := hb.t0; have h2 := hb.t1; have h3 := hb.e _ q1; have h4 := hb.e _ q2; have h5 := hk.yy
  exact ⟨by simp only; omega, by simp only; omega, by simp only; omega, by simp only; omega, by simp only; omega, by simp only; omega⟩
theorem inB_eq {a b : List Bd} (h : ∀ z, rowB a z = rowB b z) (x y : Int) : inB a x y = inB b x y := by rw [inB, inB, h]
/-- the region of its rectangles is it -/
theorem new_rects {bs : List Bd} (h : RegOk bs) : newB (rctsB bs) = some bs := by
  have hown := rctsB_own h.can h.pl
  have cells : ∀ k x y, ((rctsB bs).take k).any (fun r => inX (bxR r) x y) = ((rctsB bs).take k).any fun r => withinR r x y := by
    intro k x y
    refine Bool.eq_iff_iff.2 ?_
    simp only [List.any_eq_true]
    constructor
    · rintro ⟨r, hr, e⟩
      exact ⟨r, hr, by rw [← (hown r (List.mem_of_mem_take hr)).in]; exact e⟩
    · rintro ⟨r, hr, e⟩
      exact ⟨r, hr, by rw [(hown r (List.mem_of_mem_take hr)).in]; exact e⟩
  have key : ∀ k, k ≤ (rctsB bs).length → ∃ bs', newB ((rctsB bs).take k) = some bs' := by
    intro k
    induction k with
    | zero => intro _; exact ⟨[], by simp [newB]⟩
    | succ k ih =>
      intro hk
      obtain ⟨bs', h1⟩ := ih (by omega)
      have h2 := newB_some h1
      obtain ⟨P, p1, p2, _⟩ := first_rects h.can.ord (k + 1)
      have et : (rctsB bs).take (k + 1) = (rctsB bs).take k ++ [(rctsB bs)[k]'(by omega)] := by rw [List.take_add_one, List.getElem?_eq_getElem (by omega)]; rfl
      rw [et, newB_snoc, h1]
      show ∃ b, addB bs' _ = some b
      generalize hr : (rctsB bs)[k]'(by omega) = r at et ⊢
      obtain ⟨m1, m2, m3⟩ := mergeL_spec p1
      have hc := chgB_can (op := opAdd) rfl h2.ok.can (bxR_ok r)
      have e : chgB opAdd bs' (bxR r) = mergeL P := by
        refine hc.same m1 fun x y => ?_
        rw [inB_eq m2, ← p1.in, p2, ← cells, et, chgB_in rfl h2.ok.can (bxR_ok r), h2.cell, List.any_append]
        simp [opAdd]
      have hl : cntB P = k + 1 := by rw [← rctsB_len, p2, List.length_take]; omega
      have hn : (rctsB bs).length ≤ 1024 := by rw [rctsB_len]; exact h.few
      refine ⟨chgB opAdd bs' (bxR r), ?_⟩
      unfold addB
      rw [if_neg]
      rw [e]
      omega
  obtain ⟨bs', h1⟩ := key _ (Nat.le_refl _)
  have h2 := newB_some h1
  have : bs' = bs := h2.ok.can.same h.can fun x y => by
    rw [h2.cell, cells, List.take_length, rctsB_in h.can]
  rw [List.take_length] at h1
  rw [h1, this]
end Go.Proofs.Ytekcheccelllcaa
