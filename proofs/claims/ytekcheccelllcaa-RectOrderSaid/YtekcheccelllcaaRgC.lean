/- Regions of cells: a call that changes one: the program's way; its rectangles; the reference's way; plain laws. -/
import Derived.Test.YtekcheccelllcaaRgB
import Derived.Test.YtekcheccelllcaaRctM
namespace Go.Proofs.Ytekcheccelllcaa
set_option linter.unusedVariables false
set_option linter.unusedSimpArgs false

/-- a rectangle's ends, or none -/
structure Bx where
  ok : Bool
  x0 : Int
  y0 : Int
  x1 : Int
  y1 : Int
structure BxOk (b : Bx) : Prop where
  ry : b.ok = true → b.x0 < b.x1 ∧ b.y0 < b.y1
  no : b.ok = false → b = ⟨false, 0, 0, 0, 0⟩
def rowX (b : Bx) (z : Int) : List Int := if b.ok = true ∧ b.y0 ≤ z ∧ z < b.y1 then [b.x0, b.x1] else []
theorem rowX_ok {b : Bx} (h : BxOk b) (z : Int) : EOk (rowX b z) := by
  unfold rowX
  split
  · rename_i hh
    have := (h.ry hh.1).1
    exact ⟨List.pairwise_cons.2 ⟨fun a ha => by (simp at ha; omega), List.pairwise_cons.2 ⟨fun a ha => (by cases ha), List.Pairwise.nil⟩⟩, by simp⟩
  · exact ⟨List.Pairwise.nil, rfl⟩
def opAdd (a b : Bool) : Bool := a || b
def opCut (a b : Bool) : Bool := a && !b
def opClip (a b : Bool) : Bool := a && b
def fRow (op : Bool → Bool → Bool) (bs : List Bd) (b : Bx) (z : Int) : List Int := mix op (rowB bs z) (rowX b z)
def ysOf (bs : List Bd) (y0 y1 : Int) : List Int := y0 :: y1 :: bs.flatMap fun b => [b.y0, b.y1]
/-- put into a rising list -/
def insU (a : Int) : List Int → List Int
  | [] => [a]
  | b :: l => if a < b then a :: b :: l else if a = b then b :: l else b :: insU a l
theorem insU_mem (a : Int) (l : List Int) (x : Int) : x ∈ insU a l ↔ x = a ∨ x ∈ l := by
  induction l with
  | nil => simp [insU]
  | cons b l ih =>
    rw [insU]
    split
    · simp
    · split
      · rename_i h; subst h; simp
      · rw [List.mem_cons, ih, List.mem_cons]; grind
theorem insU_up (a : Int) (l : List Int) (h : Up l) : Up (insU a l) := by
  induction l with
  | nil => exact List.pairwise_cons.2 ⟨fun b hb => (by cases hb), List.Pairwise.nil⟩
  | cons b l ih =>
    have hB := List.pairwise_cons.1 h
    rw [insU]
    split
    · rename_i hlt
      exact List.pairwise_cons.2 ⟨fun c hc => by rcases List.mem_cons.1 hc with rfl | hc; exact hlt; have := hB.1 c hc; omega, h⟩
    · split
      · exact h
      · refine List.pairwise_cons.2 ⟨fun c hc => ?_, ih hB.2⟩
        rcases (insU_mem a l c).1 hc with rfl | hc
        · omega
        · exact hB.1 c hc
/-- rising, each once -/
def srtU (l : List Int) : List Int := l.foldr insU []
theorem srtU_mem (l : List Int) (x : Int) : x ∈ srtU l ↔ x ∈ l := by
  induction l with
  | nil => simp [srtU]
  | cons a l ih => rw [srtU, List.foldr_cons, insU_mem, List.mem_cons]; rw [srtU] at ih; rw [ih]
theorem srtU_up (l : List Int) : Up (srtU l) := by
  induction l with
  | nil => exact List.Pairwise.nil
  | cons a l ih => exact insU_up a _ ih
/-- what a call makes of a region -/
def chgB (op : Bool → Bool → Bool) (bs : List Bd) (b : Bx) : List Bd := mkBd (fRow op bs b) (srtU (ysOf bs b.y0 b.y1))
theorem mix_nil (op : Bool → Bool → Bool) : mix op [] [] = [] := by simp [mix, mixR]
theorem rowB_same {bs : List Bd} {y z : Int} (hyz : y ≤ z) (h : ∀ b ∈ bs, ¬ (y < b.y0 ∧ b.y0 ≤ z) ∧ ¬ (y < b.y1 ∧ b.y1 ≤ z)) : rowB bs z = rowB bs y := by
  induction bs with
  | nil => rfl
  | cons b bs ih =>
    have h1 := h b (by simp)
    rw [rowB, rowB, ih fun c hc => h c (by simp [hc])]
    by_cases e : b.y0 ≤ z ∧ z < b.y1
    · rw [if_pos e, if_pos (by omega)]
    · rw [if_neg e, if_neg (by omega)]
theorem ysOf_mem {bs : List Bd} {y0 y1 v : Int} : v ∈ ysOf bs y0 y1 ↔ v = y0 ∨ v = y1 ∨ ∃ b ∈ bs, v = b.y0 ∨ v = b.y1 := by
  unfold ysOf
  simp only [List.mem_cons, List.mem_flatMap, List.not_mem_nil, or_false]
theorem fRow_told (op : Bool → Bool → Bool) (bs : List Bd) (b : Bx) : Tells (fRow op bs b) (ysOf bs b.y0 b.y1) := by
  refine ⟨fun y z hyz hv => ?_, fun z hz => ?_⟩
  · have e1 : rowB bs z = rowB bs y := rowB_same hyz fun c hc => ⟨hv _ (ysOf_mem.2 (.inr (.inr ⟨c, hc, .inl rfl⟩))), hv _ (ysOf_mem.2 (.inr (.inr ⟨c, hc, .inr rfl⟩)))⟩
    have h0 := hv b.y0 (ysOf_mem.2 (.inl rfl))
    have h1 := hv b.y1 (ysOf_mem.2 (.inr (.inl rfl)))
    have e2 : rowX b z = rowX b y := by
      unfold rowX
      by_cases e : b.ok = true ∧ b.y0 ≤ z ∧ z < b.y1
      · rw [if_pos e, if_pos ⟨e.1, by omega⟩]
      · rw [if_neg e, if_neg (fun h => e ⟨h.1, by omega⟩)]
    rw [fRow, fRow, e1, e2]
  · have h0 := hz b.y0 (ysOf_mem.2 (.inl rfl))
    rw [fRow, rowB_low fun c hc => hz _ (ysOf_mem.2 (.inr (.inr ⟨c, hc, .inl rfl⟩))), rowX, if_neg (by omega), mix_nil]
theorem fRow_high (op : Bool → Bool → Bool) (bs : List Bd) (b : Bx) (z : Int) (hz : ∀ v ∈ ysOf bs b.y0 b.y1, v ≤ z) : fRow op bs b z = [] := by
  have h1 := hz b.y1 (ysOf_mem.2 (.inr (.inl rfl)))
  rw [fRow, rowB_high fun c hc => hz _ (ysOf_mem.2 (.inr (.inr ⟨c, hc, .inr rfl⟩))), rowX, if_neg (by omega), mix_nil]
section
variable {op : Bool → Bool → Bool} {bs : List Bd} {b : Bx}
theorem fRow_ok (h0 : op false false = false) (hc : Can bs) (hb : BxOk b) (z : Int) : EOk (fRow op bs b z) :=
  ⟨mix_up op (hc.row z).1 (rowX_ok hb z).1, mix_even h0 (hc.row z).1 (rowX_ok hb z).1 (hc.row z).2 (rowX_ok hb z).2⟩
theorem chgB_can (h0 : op false false = false) (hc : Can bs) (hb : BxOk b) : Can (chgB op bs b) := mkBd_can _ (fRow_ok h0 hc hb) _ (srtU_up _)
theorem chgB_row (z : Int) : rowB (chgB op bs b) z = fRow op bs b z := mkBd_row (fRow_told op bs b) (fRow_high op bs b) (srtU_up _) (srtU_mem _) z
/-- is a cell in it? -/
def inB (bs : List Bd) (x y : Int) : Bool := inE (rowB bs y) x
def inX (b : Bx) (x y : Int) : Bool := b.ok && decide (b.x0 ≤ x ∧ x < b.x1 ∧ b.y0 ≤ y ∧ y < b.y1)
theorem rowX_in (hb : BxOk b) (x y : Int) : inE (rowX b y) x = inX b x y := by
  unfold rowX inX
  cases hk : b.ok
  · simp [inE]
  · have h1 := hb.ry hk
    by_cases e : b.y0 ≤ y ∧ y < b.y1
    · rw [if_pos ⟨rfl, e⟩]
      simp only [inE]
      by_cases e1 : x < b.x0
      · rw [if_pos e1]; simp; omega
      · rw [if_neg e1]
        by_cases e2 : x < b.x1
        · rw [if_pos e2]; simp; omega
        · rw [if_neg e2]; simp; omega
    · rw [if_neg (by simp; omega)]
      simp [inE]
      omega
theorem chgB_in (h0 : op false false = false) (hc : Can bs) (hb : BxOk b) (x y : Int) : inB (chgB op bs b) x y = op (inB bs x y) (inX b x y) := by
  rw [inB, chgB_row, fRow, mix_in h0 (hc.row y).1 (rowX_ok hb y).1, rowX_in hb]
  rfl
end
/-- bands that have the same cells are the same -/
theorem Can.same {a b : List Bd} (ha : Can a) (hb : Can b) (h : ∀ x y, inB a x y = inB b x y) : a = b :=
  ha.uniq hb fun z => inE_eq (ha.row z).1 (hb.row z).1 fun x => h x z
/-- how many rectangles -/
def cntB (bs : List Bd) : Nat := (bs.map fun b => b.es.length / 2).sum
/-- spans of ends -/
def prs : List Int → List (Int × Int)
  | a :: b :: l => (a, b) :: prs l
  | _ => []
def flat (l : List (Int × Int)) : List Int := l.flatMap fun p => [p.1, p.2]
theorem flat_prs : ∀ (l : List Int), l.length % 2 = 0 → flat (prs l) = l
  | [], _ => rfl
  | [a], h => by simp at h
  | a :: b :: l, h => by
    have : flat (prs l) = l := flat_prs l (by simp at h; omega)
    rw [prs, flat, List.flatMap_cons]
    rw [flat] at this
    rw [this]; rfl
theorem prs_flat (l : List (Int × Int)) : prs (flat l) = l := by
  induction l with
  | nil => rfl
  | cons p l ih => show (p.1, p.2) :: prs (flat l) = _; rw [ih]
theorem prs_len : ∀ (l : List Int), (prs l).length = l.length / 2
  | [] => rfl
  | [a] => by simp [prs]
  | a :: b :: l => by rw [prs, List.length_cons, prs_len l]; simp; omega
/-- a band's rectangles -/
def rctB (b : Bd) : List R4 := (prs b.es).map fun p => ⟨p.1, b.y0, p.2 - p.1, b.y1 - b.y0⟩
def rctsB (bs : List Bd) : List R4 := bs.flatMap rctB
theorem rctsB_len (bs : List Bd) : (rctsB bs).length = cntB bs := by
  induction bs with
  | nil => rfl
  | cons b bs ih =>
    rw [rctsB, List.flatMap_cons, List.length_append]
    rw [rctsB] at ih
    rw [ih, rctB, List.length_map, prs_len, cntB, cntB, List.map_cons, List.sum_cons]
/-- the reference's row -/
def refRow (L : List R4) (y : Int) : List (Int × Int) := (L.filter fun r => decide (r.y ≤ y ∧ y < r.y + r.h)).map fun r => (r.x, r.x + r.w)
theorem refRow_band (b : Bd) (y : Int) : refRow (rctB b) y = if b.y0 ≤ y ∧ y < b.y1 then prs b.es else [] := by
  unfold refRow rctB
  generalize prs b.es = l
  induction l with
  | nil => simp
  | cons p l ih =>
    rw [List.map_cons, List.filter_cons]
    by_cases e : b.y0 ≤ y ∧ y < b.y1
    · rw [if_pos e] at ih ⊢
      rw [if_pos (by simp; omega), List.map_cons, ih]
      congr 1
      ext <;> simp; omega
    · rw [if_neg e] at ih ⊢
      rw [if_neg (by simp; omega), ih]
theorem refRow_append (a b : List R4) (y : Int) : refRow (a ++ b) y = refRow a y ++ refRow b y := by simp [refRow]
theorem refRow_bands {bs : List Bd} (h : Can bs) (y : Int) : refRow (rctsB bs) y = prs (rowB bs y) := by
  induction bs with
  | nil => rfl
  | cons b bs ih =>
    rw [rctsB, List.flatMap_cons, refRow_append, refRow_band, rowB]
    rw [rctsB] at ih
    rw [ih h.2.2]
    by_cases e : b.y0 ≤ y ∧ y < b.y1
    · rw [if_pos e, if_pos e, h.row_tail e.2]; simp [prs]
    · rw [if_neg e, if_neg e]; rfl
/-- the reference's spans, put together -/
def putS (out : List (Int × Int)) (a b : Int) : List (Int × Int) :=
  if a ≥ b then out else match out.getLast? with
  | none => [(a, b)]
  | some p => if p.2 = a then out.dropLast ++ [(p.1, b)] else out ++ [(a, b)]
def clipJ : List (Int × Int) → List (Int × Int) → Int × Int → List (Int × Int)
  | out, [], _ => out
  | out, p :: l, s => clipJ (putS out (max p.1 s.1) (min p.2 s.2)) l s
def cutJ : List (Int × Int) → List (Int × Int) → Int × Int → List (Int × Int)
  | out, [], _ => out
  | out, p :: l, s => cutJ (putS (putS out p.1 (min p.2 s.1)) (max p.1 s.2) p.2) l s
def addJ3 : List (Int × Int) → List (Int × Int) → List (Int × Int)
  | out, [] => out
  | out, p :: l => addJ3 (putS out p.1 p.2) l
def addJ2 : List (Int × Int) → List (Int × Int) → Int × Int → List (Int × Int)
  | out, [], s => putS out s.1 s.2
  | out, p :: l, s => if p.1 ≤ s.2 then addJ2 out l (min s.1 p.1, max s.2 p.2) else addJ3 (putS out s.1 s.2) (p :: l)
def addJ1 : List (Int × Int) → List (Int × Int) → Int × Int → List (Int × Int)
  | out, [], s => addJ2 out [] s
  | out, p :: l, s => if p.2 < s.1 then addJ1 (putS out p.1 p.2) l s else addJ2 out (p :: l) s
theorem up_append {a b : List Int} : Up (a ++ b) ↔ Up a ∧ Up b ∧ ∀ x ∈ a, ∀ y ∈ b, x < y := List.pairwise_append
theorem flat_append (a b : List (Int × Int)) : flat (a ++ b) = flat a ++ flat b := by simp [flat]
theorem flat_cons (p : Int × Int) (l : List (Int × Int)) : flat (p :: l) = p.1 :: p.2 :: flat l := rfl
/-- behind a row all ends of which lie ahead -/
theorem inE_append {a b : List Int} (h : Up (a ++ b)) (x : Int) : inE (a ++ b) x = (inE a x ^^ inE b x) := by
  induction a with
  | nil => simp [inE]
  | cons c a ih =>
    have hC := List.pairwise_cons.1 h
    rw [List.cons_append, inE, inE]
    by_cases e : x < c
    · rw [if_pos e, if_pos e, inE_lt fun y hy => by have := hC.1 y (by simp [hy]); omega]; rfl
    · rw [if_neg e, if_neg e, ih hC.2]; simp
theorem inE_flat_even {l : List (Int × Int)} {x : Int} (h : ∀ a ∈ flat l, a ≤ x) : inE (flat l) x = false := by
  rw [inE_big h]
  have : (flat l).length % 2 = 0 := by
    induction l with
    | nil => rfl
    | cons p l ih => rw [flat_cons]; have := ih (fun a ha => h a (by rw [flat_cons]; simp [ha])); simp; omega
  rw [this]; rfl
theorem putS_spec {out : List (Int × Int)} {a b : Int} (hu : Up (flat out)) (ha : ∀ e ∈ flat out, e ≤ a) : Up (flat (putS out a b)) ∧ (∀ e ∈ flat (putS out a b), e ∈ flat out ∨ (e = a ∧ a < b) ∨ (e = b ∧ a < b)) ∧ ∀ x, inE (flat (putS out a b)) x = (inE (flat out) x || decide (a ≤ x ∧ x < b)) := by
  unfold putS
  by_cases e : a ≥ b
  · rw [if_pos e]
    refine ⟨hu, fun e he => .inl he, fun x => ?_⟩
    have : ¬ (a ≤ x ∧ x < b) := by omega
    simp [this]
  · rw [if_neg e]
    have two : ∀ x, inE [a, b] x = decide (a ≤ x ∧ x < b) := fun x => by
      simp only [inE]
      by_cases e1 : x < a
      · rw [if_pos e1]; simp; omega
      · rw [if_neg e1]
        by_cases e2 : x < b
        · rw [if_pos e2]; simp; omega
        · rw [if_neg e2]; simp; omega
    have upab : Up [a, b] := List.pairwise_cons.2 ⟨fun c hc => by simp at hc; omega, List.pairwise_cons.2 ⟨fun c hc => (by cases hc), List.Pairwise.nil⟩⟩
    cases hq : out.getLast? with
    | none =>
      rw [List.getLast?_eq_none_iff.1 hq]
      exact ⟨upab, fun e he => by simp [flat] at he; rcases he with rfl | rfl; exact .inr (.inl ⟨rfl, by omega⟩); exact .inr (.inr ⟨rfl, by omega⟩), fun x => by show inE [a, b] x = _; rw [two]; simp [flat, inE]⟩
    | some p =>
      have ho : out = out.dropLast ++ [p] := by obtain ⟨o2, rfl⟩ := List.getLast?_eq_some_iff.1 hq; simp
      simp only
      have hf : flat out = flat out.dropLast ++ [p.1, p.2] := by
        have := congrArg flat ho
        rw [flat_append] at this
        exact this
      by_cases e2 : p.2 = a
      · rw [if_pos e2, flat_append]
        show Up (flat out.dropLast ++ [p.1, b]) ∧ _ ∧ _
        have hU := up_append.1 (hf ▸ hu)
        have hp : p.1 < p.2 := (List.pairwise_cons.1 hU.2.1).1 p.2 (by simp)
        have h1 : Up (flat out.dropLast ++ [p.1, b]) := by
          refine up_append.2 ⟨hU.1, List.pairwise_cons.2 ⟨fun c hc => by simp at hc; omega, List.pairwise_cons.2 ⟨fun c hc => (by cases hc), List.Pairwise.nil⟩⟩, fun x hx y hy => ?_⟩
          have h2 := hU.2.2 x hx p.1 (by simp)
          simp at hy
          rcases hy with rfl | rfl
          · exact h2
          · omega
        refine ⟨h1, fun e he => ?_, fun x => ?_⟩
        · rw [hf]
          rcases List.mem_append.1 he with he | he
          · exact .inl (List.mem_append.2 (.inl he))
          · have he : e ∈ [p.1, b] := he
            simp at he
            rcases he with rfl | rfl
            · exact .inl (by simp)
            · exact .inr (.inr ⟨rfl, by omega⟩)
        · show inE (flat out.dropLast ++ [p.1, b]) x = _
          rw [inE_append h1, hf, inE_append (hf ▸ hu)]
          subst e2
          by_cases e3 : x < p.1
          · simp only [inE]
            rw [if_pos e3, if_pos e3]
            have : ¬ (p.2 ≤ x ∧ x < b) := by omega
            simp [this]
          · have e4 : inE (flat out.dropLast) x = false := inE_flat_even fun y hy => by have := hU.2.2 y hy p.1 (by simp); omega
            rw [e4]
            simp only [inE, if_neg e3]
            by_cases e5 : x < b <;> by_cases e6 : x < p.2 <;> simp [e5, e6] <;> omega
      · rw [if_neg e2, flat_append]
        show Up (flat out ++ [a, b]) ∧ _ ∧ _
        have h0 : ∀ e ∈ flat out, e < a := fun e he => by
          have h1 := ha e he
          have h2 := ha p.2 (by rw [hf]; simp)
          have hU := up_append.1 (hf ▸ hu)
          rw [hf] at he
          rcases List.mem_append.1 he with he | he
          · have := hU.2.2 e he p.2 (by simp); omega
          · simp at he
            have hp : p.1 < p.2 := (List.pairwise_cons.1 hU.2.1).1 p.2 (by simp)
            rcases he with rfl | rfl <;> omega
        have h1 : Up (flat out ++ [a, b]) := up_append.2 ⟨hu, upab, fun x hx y hy => by
          have := h0 x hx
          simp at hy
          rcases hy with rfl | rfl <;> omega⟩
        refine ⟨h1, fun e he => ?_, fun x => ?_⟩
        · rcases List.mem_append.1 he with he | he
          · exact .inl he
          · have he : e ∈ [a, b] := he
            simp at he
            rcases he with rfl | rfl
            · exact .inr (.inl ⟨rfl, by omega⟩)
            · exact .inr (.inr ⟨rfl, by omega⟩)
        · show inE (flat out ++ [a, b]) x = _
          rw [inE_append h1, two]
          by_cases e5 : a ≤ x ∧ x < b
          · rw [inE_flat_even fun y hy => by have := h0 y hy; omega]; simp
          · simp [e5]
end Go.Proofs.Ytekcheccelllcaa
