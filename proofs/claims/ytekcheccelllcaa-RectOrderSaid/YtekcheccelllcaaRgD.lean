/- Regions of cells: the reference's way makes the same rectangles; plain laws. -/
import Derived.Test.YtekcheccelllcaaRgC
namespace Go.Proofs.Ytekcheccelllcaa
set_option linter.unusedVariables false
set_option linter.unusedSimpArgs false

theorem inE_flat_cons {p : Int × Int} {l : List (Int × Int)} (h : Up (flat (p :: l))) (x : Int) : inE (flat (p :: l)) x = (decide (p.1 ≤ x ∧ x < p.2) || inE (flat l) x) := by
  rw [flat_cons] at h ⊢
  have h1 := List.pairwise_cons.1 h
  have h2 := List.pairwise_cons.1 h1.2
  have h3 := h1.1 p.2 (by simp)
  simp only [inE]
  by_cases e1 : x < p.1
  · rw [if_pos e1, inE_lt fun a ha => by have := h2.1 a ha; omega]
    simp; omega
  · rw [if_neg e1]
    by_cases e2 : x < p.2
    · rw [if_pos e2]; simp; omega
    · rw [if_neg e2]
      have : ¬ (p.1 ≤ x ∧ x < p.2) := by omega
      simp [this]
/-- what is out lies ahead of what is left -/
def Ahd (out l : List (Int × Int)) : Prop := ∀ e ∈ flat out, ∀ p ∈ flat l, e ≤ p
theorem flat_mem1 {p : Int × Int} {l : List (Int × Int)} : p.1 ∈ flat (p :: l) := by rw [flat_cons]; simp
theorem flat_mem2 {p : Int × Int} {l : List (Int × Int)} : p.2 ∈ flat (p :: l) := by rw [flat_cons]; simp
theorem flat_mem3 {p : Int × Int} {l : List (Int × Int)} {e : Int} (h : e ∈ flat l) : e ∈ flat (p :: l) := by rw [flat_cons]; simp [h]
structure UpC (p : Int × Int) (l : List (Int × Int)) : Prop where
  lt : p.1 < p.2
  be : ∀ e ∈ flat l, p.2 < e
  tl : Up (flat l)
theorem upC {p : Int × Int} {l : List (Int × Int)} (h : Up (flat (p :: l))) : UpC p l := by
  rw [flat_cons] at h
  have h1 := List.pairwise_cons.1 h
  have h2 := List.pairwise_cons.1 h1.2
  exact ⟨h1.1 _ (by simp), h2.1, h2.2⟩
theorem clipJ_spec (l : List (Int × Int)) (s : Int × Int) : ∀ out, Up (flat out) → Up (flat l) → Ahd out l → Up (flat (clipJ out l s)) ∧ ∀ x, inE (flat (clipJ out l s)) x = (inE (flat out) x || (inE (flat l) x && decide (s.1 ≤ x ∧ x < s.2))) := by
  induction l with
  | nil => intro out hu _ _; rw [clipJ]; exact ⟨hu, fun x => by simp [flat, inE]⟩
  | cons p l ih =>
    intro out hu hl ha
    have hC := upC hl
    rw [clipJ]
    obtain ⟨h1, h2, h3⟩ := putS_spec (a := max p.1 s.1) (b := min p.2 s.2) hu (fun e he => by have := ha e he p.1 flat_mem1; omega)
    obtain ⟨h4, h5⟩ := ih (putS out (max p.1 s.1) (min p.2 s.2)) h1 hC.tl (fun e he q hq => by
      have hb := hC.be q hq
      have hlt := hC.lt
      rcases h2 e he with h | h | h
      · exact ha e h q (flat_mem3 hq)
      · omega
      · omega)
    refine ⟨h4, fun x => ?_⟩
    rw [h5, h3, inE_flat_cons hl]
    have : decide (max p.1 s.1 ≤ x ∧ x < min p.2 s.2) = (decide (p.1 ≤ x ∧ x < p.2) && decide (s.1 ≤ x ∧ x < s.2)) := by
      rw [← Bool.decide_and]; congr 1; simp; omega
    rw [this]
    cases inE (flat out) x <;> cases inE (flat l) x <;> cases decide (p.1 ≤ x ∧ x < p.2) <;> cases decide (s.1 ≤ x ∧ x < s.2) <;> rfl
theorem cutJ_spec (l : List (Int × Int)) (s : Int × Int) (hs : s.1 ≤ s.2) : ∀ out, Up (flat out) → Up (flat l) → Ahd out l → Up (flat (cutJ out l s)) ∧ ∀ x, inE (flat (cutJ out l s)) x = (inE (flat out) x || (inE (flat l) x && !decide (s.1 ≤ x ∧ x < s.2))) := by
  induction l with
  | nil => intro out hu _ _; rw [cutJ]; exact ⟨hu, fun x => by simp [flat, inE]⟩
  | cons p l ih =>
    intro out hu hl ha
    have hC := upC hl
    have hlt := hC.lt
    rw [cutJ]
    obtain ⟨h1, h2, h3⟩ := putS_spec (a := p.1) (b := min p.2 s.1) hu (fun e he => ha e he p.1 flat_mem1)
    obtain ⟨g1, g2, g3⟩ := putS_spec (a := max p.1 s.2) (b := p.2) h1 (fun e he => by
      rcases h2 e he with h | h | h
      · have := ha e h p.1 flat_mem1; omega
      · omega
      · omega)
    obtain ⟨h4, h5⟩ := ih (putS (putS out p.1 (min p.2 s.1)) (max p.1 s.2) p.2) g1 hC.tl (fun e he q hq => by
      have hb := hC.be q hq
      rcases g2 e he with h | h | h
      · rcases h2 e h with h | h | h
        · exact ha e h q (flat_mem3 hq)
        · omega
        · omega
      · omega
      · omega)
    refine ⟨h4, fun x => ?_⟩
    rw [h5, g3, h3, inE_flat_cons hl]
    have : (decide (p.1 ≤ x ∧ x < min p.2 s.1) || decide (max p.1 s.2 ≤ x ∧ x < p.2)) = (decide (p.1 ≤ x ∧ x < p.2) && !decide (s.1 ≤ x ∧ x < s.2)) := by
      rw [← Bool.decide_or, ← decide_not, ← Bool.decide_and]; congr 1; simp only [eq_iff_iff]; omega
    rw [Bool.or_assoc (inE (flat out) x), this]
    cases inE (flat out) x <;> cases inE (flat l) x <;> cases decide (p.1 ≤ x ∧ x < p.2) <;> cases decide (s.1 ≤ x ∧ x < s.2) <;> rfl
theorem addJ3_spec (l : List (Int × Int)) : ∀ out, Up (flat out) → Up (flat l) → Ahd out l → Up (flat (addJ3 out l)) ∧ ∀ x, inE (flat (addJ3 out l)) x = (inE (flat out) x || inE (flat l) x) := by
  induction l with
  | nil => intro out hu _ _; rw [addJ3]; exact ⟨hu, fun x => by simp [flat, inE]⟩
  | cons p l ih =>
    intro out hu hl ha
    have hC := upC hl
    have hlt := hC.lt
    rw [addJ3]
    obtain ⟨h1, h2, h3⟩ := putS_spec (a := p.1) (b := p.2) hu (fun e he => ha e he p.1 flat_mem1)
    obtain ⟨h4, h5⟩ := ih (putS out p.1 p.2) h1 hC.tl (fun e he q hq => by
      have hb := hC.be q hq
      rcases h2 e he with h | h | h
      · exact ha e h q (flat_mem3 hq)
      · omega
      · omega)
    refine ⟨h4, fun x => ?_⟩
    rw [h5, h3, inE_flat_cons hl, Bool.or_assoc]
theorem addJ2_spec (l : List (Int × Int)) : ∀ out (s : Int × Int), Up (flat out) → Up (flat l) → Ahd out l → (∀ e ∈ flat out, e ≤ s.1) → s.1 < s.2 → (∀ p ∈ l, s.1 ≤ p.2) → Up (flat (addJ2 out l s)) ∧ ∀ x, inE (flat (addJ2 out l s)) x = (inE (flat out) x || (inE (flat l) x || decide (s.1 ≤ x ∧ x < s.2))) := by
  induction l with
  | nil =>
    intro out s hu _ _ he hs _
    rw [addJ2]
    obtain ⟨h1, h2, h3⟩ := putS_spec (a := s.1) (b := s.2) hu he
    exact ⟨h1, fun x => by rw [h3]; simp [flat, inE]⟩
  | cons p l ih =>
    intro out s hu hl ha he hs hp
    have hC := upC hl
    have hlt := hC.lt
    rw [addJ2]
    by_cases c : p.1 ≤ s.2
    · rw [if_pos c]
      have h0 := hp p (by simp)
      obtain ⟨h4, h5⟩ := ih out (min s.1 p.1, max s.2 p.2) hu hC.tl (fun e he q hq => ha e he q (flat_mem3 hq)) (fun e h => by
        have h1 := he e h
        have h2 := ha e h p.1 flat_mem1
        show e ≤ min s.1 p.1
        omega) (by show min s.1 p.1 < max s.2 p.2; omega) (fun q hq => by
        have := hp q (by simp [hq])
        show min s.1 p.1 ≤ q.2
        omega)
      refine ⟨h4, fun x => ?_⟩
      rw [h5, inE_flat_cons hl]
      have : decide (min s.1 p.1 ≤ x ∧ x < max s.2 p.2) = (decide (p.1 ≤ x ∧ x < p.2) || decide (s.1 ≤ x ∧ x < s.2)) := by
        rw [← Bool.decide_or]; congr 1; simp only [eq_iff_iff]; omega
      simp only
      rw [this]
      cases inE (flat out) x <;> cases inE (flat l) x <;> cases decide (p.1 ≤ x ∧ x < p.2) <;> cases decide (s.1 ≤ x ∧ x < s.2) <;> rfl
    · rw [if_neg c]
      obtain ⟨h1, h2, h3⟩ := putS_spec (a := s.1) (b := s.2) hu he
      obtain ⟨h4, h5⟩ := addJ3_spec (p :: l) (putS out s.1 s.2) h1 hl (fun e h q hq => by
        have hq1 : p.1 ≤ q := by
          rw [flat_cons] at hq
          rcases List.mem_cons.1 hq with rfl | hq
          · omega
          · rcases List.mem_cons.1 hq with rfl | hq
            · omega
            · have := hC.be q hq; omega
        rcases h2 e h with h | h | h
        · have := he e h; omega
        · omega
        · omega)
      refine ⟨h4, fun x => ?_⟩
      rw [h5, h3]
      cases inE (flat out) x <;> cases inE (flat (p :: l)) x <;> cases decide (s.1 ≤ x ∧ x < s.2) <;> rfl
theorem addJ1_spec (l : List (Int × Int)) (s : Int × Int) (hs : s.1 < s.2) : ∀ out, Up (flat out) → Up (flat l) → Ahd out l → (∀ e ∈ flat out, e ≤ s.1) → Up (flat (addJ1 out l s)) ∧ ∀ x, inE (flat (addJ1 out l s)) x = (inE (flat out) x || (inE (flat l) x || decide (s.1 ≤ x ∧ x < s.2))) := by
  induction l with
  | nil => intro out hu hl ha he; rw [addJ1]; exact addJ2_spec [] out s hu hl ha he hs (by simp)
  | cons p l ih =>
    intro out hu hl ha he
    have hC := upC hl
    have hlt := hC.lt
    rw [addJ1]
    by_cases c : p.2 < s.1
    · rw [if_pos c]
      obtain ⟨h1, h2, h3⟩ := putS_spec (a := p.1) (b := p.2) hu (fun e he => ha e he p.1 flat_mem1)
      obtain ⟨h4, h5⟩ := ih (putS out p.1 p.2) h1 hC.tl (fun e h q hq => by
        have hb := hC.be q hq
        rcases h2 e h with h | h | h
        · exact ha e h q (flat_mem3 hq)
        · omega
        · omega) (fun e h => by
        rcases h2 e h with h | h | h
        · exact he e h
        · omega
        · omega)
      refine ⟨h4, fun x => ?_⟩
      rw [h5, h3, inE_flat_cons hl]
      cases inE (flat out) x <;> cases inE (flat l) x <;> cases decide (p.1 ≤ x ∧ x < p.2) <;> cases decide (s.1 ≤ x ∧ x < s.2) <;> rfl
    · rw [if_neg c]
      refine addJ2_spec (p :: l) out s hu hl ha he hs fun q hq => ?_
      rcases List.mem_cons.1 hq with rfl | hq
      · omega
      · have h1 := hC.be q.2 (by unfold flat; exact List.mem_flatMap.2 ⟨q, hq, by simp⟩)
        omega
/-- 1 Add, 2 Cut, 3 Clip -/
def opD (d : Nat) : Bool → Bool → Bool := if d = 3 then opClip else if d = 2 then opCut else opAdd
theorem opD_zero (d : Nat) : opD d false false = false := by unfold opD; split; rfl; split <;> rfl
def joinR (d : Nat) (l : List (Int × Int)) (s : Int × Int) : List (Int × Int) := if d = 3 then clipJ [] l s else if d = 2 then cutJ [] l s else addJ1 [] l s
theorem joinR_spec (d : Nat) (l : List (Int × Int)) (s : Int × Int) (hl : Up (flat l)) (hs : d = 3 ∨ s.1 < s.2) : Up (flat (joinR d l s)) ∧ ∀ x, inE (flat (joinR d l s)) x = opD d (inE (flat l) x) (decide (s.1 ≤ x ∧ x < s.2)) := by
  have n1 : Up (flat []) := List.Pairwise.nil
  have n2 : Ahd [] l := fun e he => by cases he
  unfold joinR opD
  by_cases d3 : d = 3
  · rw [if_pos d3, if_pos d3]
    obtain ⟨h1, h2⟩ := clipJ_spec l s [] n1 hl n2
    exact ⟨h1, fun x => by rw [h2]; simp [flat, inE, opClip]⟩
  · have hs : s.1 < s.2 := hs.resolve_left d3
    rw [if_neg d3, if_neg d3]
    by_cases d2 : d = 2
    · rw [if_pos d2, if_pos d2]
      obtain ⟨h1, h2⟩ := cutJ_spec l s (by omega) [] n1 hl n2
      exact ⟨h1, fun x => by rw [h2]; simp [flat, inE, opCut]⟩
    · rw [if_neg d2, if_neg d2]
      obtain ⟨h1, h2⟩ := addJ1_spec l s hs [] n1 hl n2 (fun e he => by cases he)
      exact ⟨h1, fun x => by rw [h2]; simp [flat, inE, opAdd]⟩
/-- what the row y is to be -/
def nextR (d : Nat) (L : List R4) (b : Bx) (y : Int) : List (Int × Int) :=
  let s : Int × Int := if y < b.y0 ∨ b.y1 ≤ y then (0, 0) else (b.x0, b.x1)
  if s.1 < s.2 ∨ d = 3 then joinR d (refRow L y) s else refRow L y
theorem prs_inj {a b : List Int} (ha : a.length % 2 = 0) (hb : b.length % 2 = 0) (h : prs a = prs b) : a = b := by
  have := congrArg flat h
  rwa [flat_prs a ha, flat_prs b hb] at this
theorem mix_right_nil {op : Bool → Bool → Bool} (h : ∀ a, op a false = a) {l : List Int} (hl : Up l) : mix op l [] = l :=
  inE_eq (mix_up op hl List.Pairwise.nil) hl fun x => by rw [mix_in (h false) hl List.Pairwise.nil]; simp [inE, h]
theorem nextR_is (d : Nat) {bs : List Bd} {b : Bx} (hc : Can bs) (hb : BxOk b) (y : Int) : nextR d (rctsB bs) b y = prs (fRow (opD d) bs b y) := by
  have hr := hc.row y
  have hX := rowX_ok hb y
  have hfl : flat (prs (rowB bs y)) = rowB bs y := flat_prs _ hr.2
  unfold nextR
  rw [refRow_bands hc]
  have hxs : (if y < b.y0 ∨ b.y1 ≤ y then ((0, 0) : Int × Int) else (b.x0, b.x1)) = if b.ok = true ∧ b.y0 ≤ y ∧ y < b.y1 then (b.x0, b.x1) else (0, 0) := by
    cases hk : b.ok
    · have := hb.no hk
      rw [this]; simp
    · by_cases e : y < b.y0 ∨ b.y1 ≤ y
      · rw [if_pos e, if_neg (by omega)]
      · rw [if_neg e, if_pos ⟨rfl, by omega⟩]
  rw [hxs]
  have main : ∀ s : Int × Int, (d = 3 ∨ s.1 < s.2) → (∀ x, inE (rowX b y) x = decide (s.1 ≤ x ∧ x < s.2)) → joinR d (prs (rowB bs y)) s = prs (fRow (opD d) bs b y) := fun s hs hx => by
    obtain ⟨h1, h2⟩ := joinR_spec d (prs (rowB bs y)) s (by rw [hfl]; exact hr.1) hs
    have : flat (joinR d (prs (rowB bs y)) s) = fRow (opD d) bs b y := by
      refine inE_eq h1 (mix_up _ hr.1 hX.1) fun x => ?_
      rw [h2, fRow, mix_in (opD_zero d) hr.1 hX.1, hfl, hx]
    rw [← this, prs_flat]
  by_cases e : b.ok = true ∧ b.y0 ≤ y ∧ y < b.y1
  · rw [if_pos e]
    have h1 := (hb.ry e.1).1
    simp only
    rw [if_pos (.inl h1)]
    refine main _ (.inr h1) fun x => ?_
    rw [rowX_in hb, inX]
    simp [e]
  · rw [if_neg e]
    simp only
    have hx : rowX b y = [] := by rw [rowX, if_neg e]
    by_cases d3 : d = 3
    · rw [if_pos (.inr d3)]
      refine main _ (.inl d3) fun x => ?_
      rw [hx]
      simp [inE]
    · rw [if_neg (by omega), fRow, hx, mix_right_nil _ hr.1]
      intro a
      unfold opD
      rw [if_neg d3]
      split <;> simp [opCut, opAdd]
/-- the reference's loop over the rows' bounds -/
def rectSp (top y : Int) (now : List (Int × Int)) : List R4 := now.map fun p => ⟨p.1, top, p.2 - p.1, y - top⟩
def refL (nx : Int → List (Int × Int)) : List Int → List R4 → Int → List (Int × Int) → List R4
  | [], out, _, _ => out
  | [y], out, top, now => if now = [] then out else out ++ rectSp top y now
  | y :: y' :: ys, out, top, now => if now = nx y then refL nx (y' :: ys) out top now else refL nx (y' :: ys) (out ++ rectSp top y now) y (nx y)
theorem refL_is (f : Int → List Int) (hf : ∀ z, EOk (f z)) (nx : Int → List (Int × Int)) (hn : ∀ z, nx z = prs (f z)) (ys : List Int) (y : Int) : ∀ (out : List R4) (top : Int) (now : List Int), EOk now → refL nx (y :: ys) out top (prs now) = out ++ rctsB (refG f (y :: ys) top now) := by
  have pz : ∀ l : List Int, l.length % 2 = 0 → (prs l = [] ↔ l = []) := fun l hl => ⟨fun h => prs_inj hl rfl h, fun h => by rw [h]; rfl⟩
  induction ys generalizing y with
  | nil =>
    intro out top now ho
    rw [refL, refG]
    by_cases e : now = []
    · rw [if_pos ((pz now ho.2).2 e), if_pos e]; simp [rctsB]
    · rw [if_neg (fun h => e ((pz now ho.2).1 h)), if_neg e]
      simp [rctsB, rctB, rectSp]
  | cons y' ys ih =>
    intro out top now ho
    rw [refL, refG, hn]
    by_cases e : f y = now
    · rw [if_pos (by rw [e]), if_pos e, ih y' out top now ho]
    · rw [if_neg (fun h => e (prs_inj (hf y).2 ho.2 h.symm)), if_neg e, ih y' _ y (f y) (hf y)]
      by_cases e2 : now = []
      · rw [if_pos e2, e2]; simp [rectSp, prs]
      · rw [if_neg e2]
        simp [rctsB, rctB, rectSp]
theorem refG_top (f : Int → List Int) (ys : List Int) (t t' : Int) : refG f ys t [] = refG f ys t' [] := by
  induction ys with
  | nil => rfl
  | cons y ys ih =>
    cases ys with
    | nil => rw [refG, refG]; simp
    | cons y' ys =>
      rw [refG, refG]
      by_cases e : f y = []
      · rw [if_pos e, if_pos e, ih]
      · rw [if_neg e, if_neg e, if_pos rfl, if_pos rfl]
/-- the reference makes the rectangles of the bands that the program makes -/
theorem refL_chg (d : Nat) {bs : List Bd} {b : Bx} (hc : Can bs) (hb : BxOk b) (ys : List Int) (hy : ys = srtU (ysOf bs b.y0 b.y1)) : refL (nextR d (rctsB bs) b) ys [] 0 [] = rctsB (chgB (opD d) bs b) := by
  subst hy
  unfold chgB
  cases hq : srtU (ysOf bs b.y0 b.y1) with
  | nil => rfl
  | cons y ys =>
    have := refL_is (fRow (opD d) bs b) (fRow_ok (opD_zero d) hc hb) (nextR d (rctsB bs) b) (nextR_is d hc hb) ys y [] 0 [] ⟨List.Pairwise.nil, rfl⟩
    rw [show ([] : List (Int × Int)) = prs [] from rfl, this, mkBd, refG_top _ _ 0 y]
    rfl
end Go.Proofs.Ytekcheccelllcaa
