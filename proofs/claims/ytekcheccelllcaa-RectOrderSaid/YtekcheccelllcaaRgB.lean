/- Regions of cells: bands; the loop that makes them; they are told one way alone; plain laws. -/
import Derived.Test.YtekcheccelllcaaRgA
namespace Go.Proofs.Ytekcheccelllcaa
set_option linter.unusedVariables false
set_option linter.unusedSimpArgs false

/-- a band: rows, and the ends of its spans -/
structure Bd where
  y0 : Int
  y1 : Int
  es : List Int
/-- the ends of the row z -/
def rowB : List Bd → Int → List Int
  | [], _ => []
  | b :: bs, z => if b.y0 ≤ z ∧ z < b.y1 then b.es else rowB bs z
/-- ends that may be -/
def EOk (l : List Int) : Prop := Up l ∧ l.length % 2 = 0
structure BOk (b : Bd) : Prop where
  yy : b.y0 < b.y1
  ne : b.es ≠ []
  ok : EOk b.es
def Fst (b : Bd) : List Bd → Prop
  | [] => True
  | c :: _ => b.y1 ≤ c.y0 ∧ (b.y1 = c.y0 → b.es ≠ c.es)
def Can : List Bd → Prop
  | [] => True
  | b :: bs => BOk b ∧ Fst b bs ∧ Can bs
theorem Can.lt {b : Bd} {bs : List Bd} (h : Can (b :: bs)) : ∀ c ∈ bs, b.y1 ≤ c.y0 := by
  induction bs generalizing b with
  | nil => simp
  | cons d bs ih =>
    obtain ⟨h1, h2, h3⟩ := h
    intro c hc
    have h4 : b.y1 ≤ d.y0 := h2.1
    rcases List.mem_cons.1 hc with rfl | hc
    · exact h4
    · have := ih h3 c hc
      have := h3.1.yy
      omega
theorem rowB_low {bs : List Bd} {z : Int} (h : ∀ c ∈ bs, z < c.y0) : rowB bs z = [] := by
  induction bs with
  | nil => rfl
  | cons b bs ih => rw [rowB, if_neg (by have := h b (by simp); omega), ih fun c hc => h c (by simp [hc])]
theorem rowB_high {bs : List Bd} {z : Int} (h : ∀ c ∈ bs, c.y1 ≤ z) : rowB bs z = [] := by
  induction bs with
  | nil => rfl
  | cons b bs ih => rw [rowB, if_neg (by have := h b (by simp); omega), ih fun c hc => h c (by simp [hc])]
theorem rowB_mem {bs : List Bd} {z : Int} : rowB bs z = [] ∨ ∃ b ∈ bs, b.y0 ≤ z ∧ z < b.y1 ∧ rowB bs z = b.es := by
  induction bs with
  | nil => exact .inl rfl
  | cons b bs ih =>
    rw [rowB]
    by_cases h : b.y0 ≤ z ∧ z < b.y1
    · rw [if_pos h]; exact .inr ⟨b, by simp, h.1, h.2, rfl⟩
    · rw [if_neg h]
      rcases ih with h | ⟨c, h1, h2⟩
      · exact .inl h
      · exact .inr ⟨c, by simp [h1], h2⟩
theorem Can.ok {bs : List Bd} (h : Can bs) : ∀ b ∈ bs, BOk b := by
  induction bs with
  | nil => simp
  | cons b bs ih =>
    intro c hc
    rcases List.mem_cons.1 hc with rfl | hc
    · exact h.1
    · exact ih h.2.2 c hc
theorem Can.row {bs : List Bd} (h : Can bs) (z : Int) : EOk (rowB bs z) := by
  rcases @rowB_mem bs z with e | ⟨b, h1, _, _, e⟩ <;> rw [e]
  · exact ⟨List.Pairwise.nil, rfl⟩
  · exact (h.ok b h1).ok
theorem Can.row_tail {b : Bd} {bs : List Bd} (h : Can (b :: bs)) {z : Int} (hz : z < b.y1) : rowB bs z = [] := rowB_low fun c hc => by have := h.lt c hc; omega
theorem Can.row_next {b : Bd} {bs : List Bd} (h : Can (b :: bs)) : rowB bs b.y1 ≠ b.es := by
  cases bs with
  | nil => exact fun e => h.1.ne e.symm
  | cons c bs =>
    have h2 := h.2.1
    have hc := h.2.2.1.yy
    by_cases e : b.y1 = c.y0
    · rw [rowB, if_pos (by omega)]
      exact fun e2 => h2.2 e e2.symm
    · rw [rowB_low fun d hd => ?_]
      · exact fun e => h.1.ne e.symm
      · have h3 : b.y1 ≤ c.y0 := h2.1
        rcases List.mem_cons.1 hd with rfl | hd
        · omega
        · have := h.2.2.lt d hd
          omega
/-- bands that have the same rows are the same bands -/
theorem Can.uniq {a b : List Bd} (ha : Can a) (hb : Can b) (h : ∀ z, rowB a z = rowB b z) : a = b := by
  induction a generalizing b with
  | nil =>
    cases b with
    | nil => rfl
    | cons c b =>
      have := h c.y0
      rw [rowB, rowB, if_pos ⟨Int.le_refl _, hb.1.yy⟩] at this
      exact absurd this.symm hb.1.ne
  | cons c a ih =>
    cases b with
    | nil =>
      have := h c.y0
      simp only [rowB] at this
      rw [if_pos ⟨Int.le_refl _, ha.1.yy⟩] at this
      exact absurd this ha.1.ne
    | cons d b =>
      have hc := ha.1.yy
      have hd := hb.1.yy
      have rc : ∀ z, rowB (c :: a) z = if z < c.y0 then [] else if z < c.y1 then c.es else rowB a z := fun z => by
        rw [rowB]
        by_cases h1 : z < c.y0
        · rw [if_neg (by omega), if_pos h1, ha.row_tail (by omega)]
        · by_cases h2 : z < c.y1
          · rw [if_pos (by omega), if_neg h1, if_pos h2]
          · rw [if_neg (by omega), if_neg h1, if_neg h2]
      have rd : ∀ z, rowB (d :: b) z = if z < d.y0 then [] else if z < d.y1 then d.es else rowB b z := fun z => by
        rw [rowB]
        by_cases h1 : z < d.y0
        · rw [if_neg (by omega), if_pos h1, hb.row_tail (by omega)]
        · by_cases h2 : z < d.y1
          · rw [if_pos (by omega), if_neg h1, if_pos h2]
          · rw [if_neg (by omega), if_neg h1, if_neg h2]
      have e0 : c.y0 = d.y0 := by
        have h1 := h c.y0
        have h2 := h d.y0
        rw [rc, rd, if_neg (by omega), if_pos (by omega)] at h1
        rw [rc, rd, if_neg (by omega : ¬ d.y0 < d.y0), if_pos hd] at h2
        have x1 : ¬ c.y0 < d.y0 := fun hlt => by rw [if_pos hlt] at h1; exact ha.1.ne h1
        have x2 : ¬ d.y0 < c.y0 := fun hlt => by rw [if_pos hlt] at h2; exact hb.1.ne h2.symm
        omega
      have ee : c.es = d.es := by
        have h1 := h c.y0
        rw [rc, rd, if_neg (by omega), if_pos (by omega), if_neg (by omega), if_pos (by omega)] at h1
        exact h1
      have e1 : c.y1 = d.y1 := by
        have h1 := h c.y1
        have h2 := h d.y1
        rw [rc, rd, if_neg (by omega : ¬ c.y1 < c.y0), if_neg (by omega : ¬ c.y1 < c.y1), if_neg (by omega : ¬ c.y1 < d.y0)] at h1
        rw [rc, rd, if_neg (by omega : ¬ d.y1 < c.y0), if_neg (by omega : ¬ d.y1 < d.y0), if_neg (by omega : ¬ d.y1 < d.y1)] at h2
        have x1 : ¬ c.y1 < d.y1 := fun hlt => by rw [if_pos hlt] at h1; exact ha.row_next (h1.trans ee.symm)
        have x2 : ¬ d.y1 < c.y1 := fun hlt => by rw [if_pos hlt] at h2; exact hb.row_next (h2.symm.trans ee)
        omega
      have ec : c = d := by cases c; cases d; simp_all
      subst ec
      rw [ih ha.2.2 hb.2.2 fun z => ?_]
      by_cases hz : z < c.y1
      · rw [ha.row_tail hz, hb.row_tail hz]
      · have := h z
        rw [rc, rd, if_neg (by omega), if_neg (by omega), if_neg (by omega), if_neg (by omega)] at this
        exact this
/-- the loop over the rows' bounds: what is being told began at top, and has the ends now -/
def refG (f : Int → List Int) : List Int → Int → List Int → List Bd
  | [], _, _ => []
  | [y], top, now => if now = [] then [] else [⟨top, y, now⟩]
  | y :: y' :: ys, top, now => if f y = now then refG f (y' :: ys) top now else if now = [] then refG f (y' :: ys) y (f y) else ⟨top, y, now⟩ :: refG f (y' :: ys) y (f y)
/-- f does not change between the bounds, and has nothing behind them -/
def Steps (f : Int → List Int) : List Int → Prop
  | [] => True
  | [y] => ∀ z, y ≤ z → f z = []
  | y :: y' :: ys => (∀ z, y ≤ z → z < y' → f z = f y) ∧ Steps f (y' :: ys)
theorem refG_row (f : Int → List Int) (ys : List Int) (y top : Int) (now : List Int) (hu : Up (y :: ys)) (hs : Steps f (y :: ys)) (hn : now ≠ [] → top < y) (z : Int) : rowB (refG f (y :: ys) top now) z = if z < y then (if top ≤ z then now else []) else f z := by
  induction ys generalizing y top now with
  | nil =>
    rw [refG]
    have h1 := hs z
    by_cases e : now = []
    · rw [if_pos e, rowB, e]
      by_cases hz : z < y
      · rw [if_pos hz]; split <;> rfl
      · rw [if_neg hz, h1 (by omega)]
    · rw [if_neg e, rowB, rowB]
      dsimp only
      have := hn e
      by_cases hz : z < y
      · rw [if_pos hz]
        by_cases ht : top ≤ z
        · rw [if_pos ⟨ht, hz⟩, if_pos ht]
        · rw [if_neg (by omega), if_neg ht]
      · rw [if_neg (by omega), if_neg hz, h1 (by omega)]
  | cons y' ys ih =>
    have hU := List.pairwise_cons.1 hu
    have hyy := hU.1 y' (by simp)
    have hf := hs.1 z
    rw [refG]
    by_cases e : f y = now
    · rw [if_pos e, ih y' top now hU.2 hs.2 (fun h => by have := hn h; omega)]
      by_cases hz : z < y
      · rw [if_pos (by omega), if_pos hz]
      · rw [if_neg hz]
        by_cases hz2 : z < y'
        · rw [if_pos hz2, hf (by omega) hz2, e]
          by_cases e2 : now = []
          · rw [e2]; split <;> rfl
          · have := hn e2
            rw [if_pos (by omega)]
        · rw [if_neg hz2]
    · rw [if_neg e]
      have hI := ih y' y (f y) hU.2 hs.2 (fun _ => hyy)
      have key : z ≥ y → (if z < y' then if y ≤ z then f y else [] else f z) = f z := fun hz => by
        by_cases hz2 : z < y'
        · rw [if_pos hz2, if_pos hz, hf hz hz2]
        · rw [if_neg hz2]
      by_cases e2 : now = []
      · rw [if_pos e2, hI]
        by_cases hz : z < y
        · rw [if_pos (by omega), if_neg (by omega), if_pos hz, e2]; split <;> rfl
        · rw [if_neg hz, key (by omega)]
      · rw [if_neg e2, rowB, hI]
        dsimp only
        have := hn e2
        by_cases hz : z < y
        · rw [if_pos hz]
          by_cases ht : top ≤ z
          · rw [if_pos ⟨ht, hz⟩, if_pos ht]
          · rw [if_neg (by omega), if_neg ht, if_pos (by omega), if_neg (by omega)]
        · rw [if_neg (by omega), if_neg hz, key (by omega)]
theorem refG_first (f : Int → List Int) (ys : List Int) (y top : Int) (now : List Int) (hu : Up (y :: ys)) : ∀ b bs, refG f (y :: ys) top now = b :: bs → (now ≠ [] → b.y0 = top ∧ b.es = now) ∧ (now = [] → y ≤ b.y0) := by
  induction ys generalizing y top now with
  | nil =>
    intro b bs h
    rw [refG] at h
    by_cases e : now = []
    · rw [if_pos e] at h; cases h
    · rw [if_neg e] at h
      injection h with h _
      subst h
      exact ⟨fun _ => ⟨rfl, rfl⟩, fun h => absurd h e⟩
  | cons y' ys ih =>
    have hU := List.pairwise_cons.1 hu
    have hyy := hU.1 y' (by simp)
    intro b bs h
    rw [refG] at h
    by_cases e : f y = now
    · rw [if_pos e] at h
      have := ih y' top now hU.2 b bs h
      exact ⟨this.1, fun h2 => by have := this.2 h2; omega⟩
    · rw [if_neg e] at h
      by_cases e2 : now = []
      · rw [if_pos e2] at h
        have := ih y' y (f y) hU.2 b bs h
        refine ⟨fun h => absurd e2 h, fun _ => ?_⟩
        by_cases e3 : f y = []
        · exact absurd (e3.trans e2.symm) e
        · have := (this.1 e3).1; omega
      · rw [if_neg e2] at h
        injection h with h _
        subst h
        exact ⟨fun _ => ⟨rfl, rfl⟩, fun h => absurd h e2⟩
theorem refG_can (f : Int → List Int) (hf : ∀ z, EOk (f z)) (ys : List Int) (y top : Int) (now : List Int) (hu : Up (y :: ys)) (hn : now ≠ [] → top < y) (ho : EOk now) : Can (refG f (y :: ys) top now) := by
  induction ys generalizing y top now with
  | nil =>
    rw [refG]
    by_cases e : now = []
    · rw [if_pos e]; trivial
    · rw [if_neg e]
      exact ⟨⟨hn e, e, ho⟩, trivial, trivial⟩
  | cons y' ys ih =>
    have hU := List.pairwise_cons.1 hu
    have hyy := hU.1 y' (by simp)
    rw [refG]
    by_cases e : f y = now
    · rw [if_pos e]
      exact ih y' top now hU.2 (fun h => by have := hn h; omega) ho
    · rw [if_neg e]
      have hI := ih y' y (f y) hU.2 (fun _ => hyy) (hf y)
      by_cases e2 : now = []
      · rw [if_pos e2]; exact hI
      · rw [if_neg e2]
        refine ⟨⟨hn e2, e2, ho⟩, ?_, hI⟩
        have h1 := refG_first f ys y' y (f y) hU.2
        cases hq : refG f (y' :: ys) y (f y) with
        | nil => trivial
        | cons c cs =>
          have h2 := h1 c cs hq
          show y ≤ c.y0 ∧ (y = c.y0 → now ≠ c.es)
          by_cases e3 : f y = []
          · have := h2.2 e3
            exact ⟨by omega, fun h => by omega⟩
          · have := h2.1 e3
            exact ⟨by omega, fun _ h => e (by rw [h, this.2])⟩
/-- the program's loop: what is told is put behind the last band, or makes it taller -/
def pushB (out : List Bd) (y0 y1 : Int) (now : List Int) : List Bd :=
  if now = [] then out else
  match out.getLast? with
  | none => [⟨y0, y1, now⟩]
  | some b => if b.y1 = y0 ∧ b.es = now then out.dropLast ++ [⟨b.y0, y1, b.es⟩] else out ++ [⟨y0, y1, now⟩]
def goB (f : Int → List Int) : List Int → List Bd → List Bd
  | y0 :: y1 :: ys, out => goB f (y1 :: ys) (pushB out y0 y1 (f y0))
  | [_], out => out
  | [], out => out
theorem goB_ref (f : Int → List Int) (ys : List Int) (y top : Int) (now : List Int) (pre : List Bd) (hu : Up (y :: ys)) (hn : now ≠ [] → top < y) (hp : now = [] → ∀ b ∈ pre.getLast?, b.y1 < y) :
    goB f (y :: ys) (pre ++ if now = [] then [] else [⟨top, y, now⟩]) = pre ++ refG f (y :: ys) top now := by
  induction ys generalizing y top now pre with
  | nil => rw [goB, refG]
  | cons y' ys ih =>
    have hU := List.pairwise_cons.1 hu
    have hyy := hU.1 y' (by simp)
    rw [goB, refG]
    by_cases e2 : now = []
    · rw [if_pos e2, List.append_nil]
      by_cases e : f y = now
      · rw [if_pos e]
        have h1 := ih y' top now pre hU.2 (fun h => absurd e2 h) (fun h b hb => by have := hp h b hb; omega)
        rw [if_pos e2, List.append_nil] at h1
        rw [← h1, pushB, if_pos (e.trans e2)]
      · have hne : f y ≠ [] := fun h => e (h.trans e2.symm)
        rw [if_neg e, if_pos e2]
        have h1 := ih y' y (f y) pre hU.2 (fun _ => hyy) (fun h => absurd h hne)
        rw [if_neg hne] at h1
        rw [← h1]
        congr 1
        rw [pushB, if_neg hne]
        have hp := hp e2
        cases hq : pre.getLast? with
        | none => rw [List.getLast?_eq_none_iff.1 hq]; rfl
        | some b =>
          have := hp b hq
          simp only
          rw [if_neg (by omega)]
    · rw [if_neg e2]
      by_cases e : f y = now
      · rw [if_pos e]
        have h1 := ih y' top now pre hU.2 (fun h => by have := hn h; omega) (fun h => absurd h e2)
        rw [if_neg e2] at h1
        rw [← h1]
        congr 1
        rw [pushB, if_neg (by rw [e]; exact e2), List.getLast?_append, List.getLast?_singleton]
        simp [e]
      · rw [if_neg e, if_neg e2]
        by_cases hne : f y = []
        · have h1 := ih y' y (f y) (pre ++ [⟨top, y, now⟩]) hU.2 (fun _ => hyy) (fun h b hb => by simp at hb; subst hb; exact hyy)
          rw [if_pos hne, List.append_nil] at h1
          rw [pushB, if_pos hne, h1]
          simp
        · have h1 := ih y' y (f y) (pre ++ [⟨top, y, now⟩]) hU.2 (fun _ => hyy) (fun h => absurd h hne)
          rw [if_neg hne] at h1
          rw [show pre ++ ⟨top, y, now⟩ :: refG f (y' :: ys) y (f y) = (pre ++ [⟨top, y, now⟩]) ++ refG f (y' :: ys) y (f y) by simp, ← h1]
          congr 1
          rw [pushB, if_neg hne, List.getLast?_append, List.getLast?_singleton]
          simp only [Option.some_or]
          rw [if_neg (fun h => e h.2.symm)]
/-- what f makes of bounds -/
def mkBd (f : Int → List Int) : List Int → List Bd
  | [] => []
  | y :: ys => refG f (y :: ys) y []
theorem mkBd_go (f : Int → List Int) (ys : List Int) (hu : Up ys) : goB f ys [] = mkBd f ys := by
  cases ys with
  | nil => rfl
  | cons y ys =>
    have := goB_ref f ys y y [] [] hu (fun h => absurd rfl h) (by simp)
    simpa [mkBd] using this
theorem mkBd_can (f : Int → List Int) (hf : ∀ z, EOk (f z)) (ys : List Int) (hu : Up ys) : Can (mkBd f ys) := by
  cases ys with
  | nil => trivial
  | cons y ys => exact refG_can f hf ys y y [] hu (fun h => absurd rfl h) ⟨List.Pairwise.nil, rfl⟩
/-- f is told by the bounds in B alone -/
structure Tells (f : Int → List Int) (B : List Int) : Prop where
  same : ∀ y z, y ≤ z → (∀ v ∈ B, ¬ (y < v ∧ v ≤ z)) → f z = f y
  low : ∀ z, (∀ v ∈ B, z < v) → f z = []
theorem Tells.steps {f : Int → List Int} {B : List Int} (h : Tells f B) (hi : ∀ z, (∀ v ∈ B, v ≤ z) → f z = []) : ∀ ys y, Up (y :: ys) → (∀ v ∈ B, v ≤ y ∨ v ∈ ys) → Steps f (y :: ys) := by
  intro ys
  induction ys with
  | nil =>
    intro y hu hv z hz
    exact hi z fun v hb => by rcases hv v hb with h | h; omega; cases h
  | cons y' ys ih =>
    intro y hu hv
    have hU := List.pairwise_cons.1 hu
    have hyy := hU.1 y' (by simp)
    refine ⟨fun z h1 h2 => h.same y z h1 fun v hb h3 => ?_, ih y' hU.2 fun v hb => ?_⟩
    · rcases hv v hb with h | h
      · omega
      · rcases List.mem_cons.1 h with rfl | h
        · omega
        · have := (List.pairwise_cons.1 hU.2).1 v h; omega
    · rcases hv v hb with h | h
      · exact .inl (by omega)
      · rcases List.mem_cons.1 h with rfl | h
        · exact .inl (Int.le_refl _)
        · exact .inr h
theorem mkBd_row {f : Int → List Int} {B : List Int} (h : Tells f B) (hi : ∀ z, (∀ v ∈ B, v ≤ z) → f z = []) {ys : List Int} (hu : Up ys) (hm : ∀ v, v ∈ ys ↔ v ∈ B) (z : Int) : rowB (mkBd f ys) z = f z := by
  cases ys with
  | nil => exact (h.low z fun v hv => by have := (hm v).2 hv; cases this).symm
  | cons y ys =>
    have hU := List.pairwise_cons.1 hu
    rw [mkBd, refG_row f ys y y [] hu (h.steps hi ys y hu fun v hv => ?_) (fun h => absurd rfl h)]
    · by_cases hz : z < y
      · rw [if_pos hz, h.low z fun v hv => ?_]
        · split <;> rfl
        · rcases List.mem_cons.1 ((hm v).2 hv) with rfl | h
          · exact hz
          · have := hU.1 v h; omega
      · rw [if_neg hz]
    · rcases List.mem_cons.1 ((hm v).2 hv) with rfl | h
      · exact .inl (Int.le_refl _)
      · exact .inr h
theorem up_uniq {a b : List Int} (ha : Up a) (hb : Up b) (h : ∀ x, x ∈ a ↔ x ∈ b) : a = b := by
  induction a generalizing b with
  | nil =>
    cases b with
    | nil => rfl
    | cons y b => have := (h y).2 (by simp); cases this
  | cons x a ih =>
    cases b with
    | nil => have := (h x).1 (by simp); cases this
    | cons y b =>
      have hA := List.pairwise_cons.1 ha
      have hB := List.pairwise_cons.1 hb
      have e : x = y := by
        have h1 := (h x).1 (by simp)
        have h2 := (h y).2 (by simp)
        rcases List.mem_cons.1 h1 with e | h1
        · exact e
        · rcases List.mem_cons.1 h2 with e | h2
          · exact e.symm
          · have := hA.1 y h2; have := hB.1 x h1; omega
      subst e
      rw [ih hA.2 hB.2 fun z => ?_]
      have h1 := h z
      simp only [List.mem_cons] at h1
      constructor
      · intro hz
        rcases h1.1 (.inr hz) with rfl | h
        · have := hA.1 z hz; omega
        · exact h
      · intro hz
        rcases h1.2 (.inr hz) with rfl | h
        · have := hB.1 z hz; omega
        · exact h
end Go.Proofs.Ytekcheccelllcaa
