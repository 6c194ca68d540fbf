/- RgZ: RgA RgB RgC RgD RgG RgP RgV RgW RgX RgY in one text. -/
import Derived.Test.YtekcheccelllcaaRctM
namespace Go.Proofs.Ytekcheccelllcaa
set_option linter.unusedVariables false
set_option linter.unusedSimpArgs false

/-- whether column x lies in a row of which the ends are told -/
def inE : List Int → Int → Bool
  | [], _ => false
  | a :: l, x => if x < a then false else !(inE l x)
/-- rising -/
def Up (l : List Int) : Prop := l.Pairwise (· < ·)
theorem inE_lt {l : List Int} {x : Int} (h : ∀ a ∈ l, x < a) : inE l x = false := by
  cases l with
  | nil => rfl
  | cons a l => simp [inE, h a (by simp)]
theorem inE_at {a : Int} {l : List Int} (h : Up (a :: l)) : inE (a :: l) a = true := by
  have := List.pairwise_cons.1 h
  simp [inE, inE_lt this.1]
theorem inE_eq {a b : List Int} (ha : Up a) (hb : Up b) (h : ∀ x, inE a x = inE b x) : a = b := by
  induction a generalizing b with
  | nil =>
    cases b with
    | nil => rfl
    | cons y bs => have := h y; rw [inE_at hb] at this; cases this
  | cons x aS ih =>
    cases b with
    | nil => have := h x; rw [inE_at ha] at this; cases this
    | cons y bs =>
      have hA := List.pairwise_cons.1 ha
      have hB := List.pairwise_cons.1 hb
      have hxy : x = y := by
        have h1 := h x
        have h2 := h y
        rw [inE_at ha] at h1
        rw [inE_at hb] at h2
        have e1 : ¬ x < y := by intro hlt; rw [inE, if_pos hlt] at h1; cases h1
        have e2 : ¬ y < x := by intro hlt; rw [inE, if_pos hlt] at h2; cases h2
        omega
      subst hxy
      rw [ih hA.2 hB.2 fun z => ?_]
      by_cases hz : z < x
      · rw [inE_lt fun a h => by have := hA.1 a h; omega, inE_lt fun a h => by have := hB.1 a h; omega]
      · have := h z
        rw [inE, inE, if_neg hz, if_neg hz] at this
        simpa using this
/-- behind all ends: in, if their number is odd -/
theorem inE_big {l : List Int} {x : Int} (h : ∀ a ∈ l, a ≤ x) : inE l x = (l.length % 2 == 1) := by
  induction l with
  | nil => rfl
  | cons a l ih =>
    have h1 := h a (by simp)
    rw [inE, if_neg (by omega), ih fun b hb => h b (by simp [hb])]
    have : (a :: l).length = l.length + 1 := rfl
    rw [this]
    by_cases e : l.length % 2 = 1
    · have : (l.length + 1) % 2 = 0 := by omega
      simp [e, this]
    · have h0 : l.length % 2 = 0 := by omega
      have : (l.length + 1) % 2 = 1 := by omega
      simp [h0, this]
/-- what mixed makes of what is left of two rows -/
def mixR (op : Bool → Bool → Bool) : List Int → List Int → Bool → Bool → Bool → List Int
  | [], [], _, _, _ => []
  | x :: aS, [], pa, pb, on => if op (!pa) pb != on then x :: mixR op aS [] (!pa) pb (op (!pa) pb) else mixR op aS [] (!pa) pb on
  | [], y :: bs, pa, pb, on => if op pa (!pb) != on then y :: mixR op [] bs pa (!pb) (op pa (!pb)) else mixR op [] bs pa (!pb) on
  | x :: aS, y :: bs, pa, pb, on =>
    if x < y then (if op (!pa) pb != on then x :: mixR op aS (y :: bs) (!pa) pb (op (!pa) pb) else mixR op aS (y :: bs) (!pa) pb on)
    else if y < x then (if op pa (!pb) != on then y :: mixR op (x :: aS) bs pa (!pb) (op pa (!pb)) else mixR op (x :: aS) bs pa (!pb) on)
    else (if op (!pa) (!pb) != on then x :: mixR op aS bs (!pa) (!pb) (op (!pa) (!pb)) else mixR op aS bs (!pa) (!pb) on)
  termination_by a b => a.length + b.length
def mix (op : Bool → Bool → Bool) (a b : List Int) : List Int := mixR op a b false false false
theorem mixR_mem (op : Bool → Bool → Bool) (a b : List Int) (pa pb on : Bool) : ∀ x ∈ mixR op a b pa pb on, x ∈ a ∨ x ∈ b := by
  fun_induction mixR op a b pa pb on <;> intro z hz <;> simp only [List.mem_cons, List.not_mem_nil] at * <;> grind
theorem mixR_up (op : Bool → Bool → Bool) (a b : List Int) (pa pb on : Bool) (ha : Up a) (hb : Up b) : Up (mixR op a b pa pb on) := by
  fun_induction mixR op a b pa pb on with
  | case1 => exact List.Pairwise.nil
  | case2 x aS pa pb on h ih =>
    have hA := List.pairwise_cons.1 ha
    exact List.pairwise_cons.2 ⟨fun z hz => by (rcases mixR_mem _ _ _ _ _ _ z hz with h | h; exact hA.1 z h; cases h), ih hA.2 hb⟩
  | case3 x aS pa pb on h ih => exact ih (List.pairwise_cons.1 ha).2 hb
  | case4 y bs pa pb on h ih =>
    have hB := List.pairwise_cons.1 hb
    exact List.pairwise_cons.2 ⟨fun z hz => by (rcases mixR_mem _ _ _ _ _ _ z hz with h | h; cases h; exact hB.1 z h), ih ha hB.2⟩
  | case5 y bs pa pb on h ih => exact ih ha (List.pairwise_cons.1 hb).2
  | case6 x aS y bs pa pb on hlt h ih =>
    have hA := List.pairwise_cons.1 ha
    have hB := List.pairwise_cons.1 hb
    refine List.pairwise_cons.2 ⟨fun z hz => ?_, ih hA.2 hb⟩
    rcases mixR_mem _ _ _ _ _ _ z hz with h | h
    · exact hA.1 z h
    · rcases List.mem_cons.1 h with rfl | h
      · exact hlt
      · have := hB.1 z h; omega
  | case7 x aS y bs pa pb on hlt h ih => exact ih (List.pairwise_cons.1 ha).2 hb
  | case8 x aS y bs pa pb on hlt hlt2 h ih =>
    have hA := List.pairwise_cons.1 ha
    have hB := List.pairwise_cons.1 hb
    refine List.pairwise_cons.2 ⟨fun z hz => ?_, ih ha hB.2⟩
    rcases mixR_mem _ _ _ _ _ _ z hz with h | h
    · rcases List.mem_cons.1 h with rfl | h
      · exact hlt2
      · have := hA.1 z h; omega
    · exact hB.1 z h
  | case9 x aS y bs pa pb on hlt hlt2 h ih => exact ih ha (List.pairwise_cons.1 hb).2
  | case10 x aS y bs pa pb on hlt hlt2 h ih =>
    have hA := List.pairwise_cons.1 ha
    have hB := List.pairwise_cons.1 hb
    refine List.pairwise_cons.2 ⟨fun z hz => ?_, ih hA.2 hB.2⟩
    rcases mixR_mem _ _ _ _ _ _ z hz with h | h
    · exact hA.1 z h
    · have := hB.1 z h; omega
  | case11 x aS y bs pa pb on hlt hlt2 h ih => exact ih (List.pairwise_cons.1 ha).2 (List.pairwise_cons.1 hb).2
theorem mixR_in (op : Bool → Bool → Bool) (a b : List Int) (pa pb on : Bool) (ha : Up a) (hb : Up b) (hon : on = op pa pb) (z : Int) : (on ^^ inE (mixR op a b pa pb on) z) = op (pa ^^ inE a z) (pb ^^ inE b z) := by
  fun_induction mixR op a b pa pb on with
  | case1 => simp [inE, hon]
  | case2 x aS pa pb on h ih =>
    have hA := List.pairwise_cons.1 ha
    have h2 := ih hA.2 hb rfl
    by_cases hz : z < x
    · simp [inE, hz, hon]
    · simp only [inE, hz, if_false, Bool.xor_false] at h2 ⊢
      rw [show (pa ^^ !inE aS z) = (!pa ^^ inE aS z) by cases pa <;> simp, ← h2]
      revert h; cases on <;> cases op (!pa) pb <;> simp
  | case3 x aS pa pb on h ih =>
    have hA := List.pairwise_cons.1 ha
    have h2 := ih hA.2 hb (by simpa using Eq.symm (by simpa using h))
    by_cases hz : z < x
    · have e1 : inE aS z = false := inE_lt fun a h => by have := hA.1 a h; omega
      rw [e1] at h2
      simp only [inE, hz, if_true, Bool.xor_false] at h2 ⊢
      rw [h2, ← hon]
      simpa using h
    · simp only [inE, hz, if_false, Bool.xor_false] at h2 ⊢
      rw [show (pa ^^ !inE aS z) = (!pa ^^ inE aS z) by cases pa <;> simp, ← h2]
  | case4 y bs pa pb on h ih =>
    have hB := List.pairwise_cons.1 hb
    have h2 := ih ha hB.2 rfl
    by_cases hz : z < y
    · simp [inE, hz, hon]
    · simp only [inE, hz, if_false, Bool.xor_false] at h2 ⊢
      rw [show (pb ^^ !inE bs z) = (!pb ^^ inE bs z) by cases pb <;> simp, ← h2]
      revert h; cases on <;> cases op pa (!pb) <;> simp
  | case5 y bs pa pb on h ih =>
    have hB := List.pairwise_cons.1 hb
    have h2 := ih ha hB.2 (by simpa using Eq.symm (by simpa using h))
    by_cases hz : z < y
    · have e1 : inE bs z = false := inE_lt fun a h => by have := hB.1 a h; omega
      rw [e1] at h2
      simp only [inE, hz, if_true, Bool.xor_false] at h2 ⊢
      rw [h2, ← hon]
      simpa using h
    · simp only [inE, hz, if_false, Bool.xor_false] at h2 ⊢
      rw [show (pb ^^ !inE bs z) = (!pb ^^ inE bs z) by cases pb <;> simp, ← h2]
  | case6 x aS y bs pa pb on hlt h ih =>
    have hA := List.pairwise_cons.1 ha
    have h2 := ih hA.2 hb rfl
    by_cases hz : z < x
    · have hzy : z < y := by omega
      simp [inE, hz, hzy, hon]
    · simp only [inE, hz, if_false] at h2 ⊢
      rw [show (pa ^^ !inE aS z) = (!pa ^^ inE aS z) by cases pa <;> simp, ← h2]
      revert h; cases on <;> cases op (!pa) pb <;> simp
  | case7 x aS y bs pa pb on hlt h ih =>
    have hA := List.pairwise_cons.1 ha
    have h2 := ih hA.2 hb (by simpa using Eq.symm (by simpa using h))
    by_cases hz : z < x
    · have e1 : inE aS z = false := inE_lt fun a h => by have := hA.1 a h; omega
      have hzy : z < y := by omega
      rw [e1] at h2
      simp only [inE, hz, hzy, if_true, Bool.xor_false] at h2 ⊢
      rw [h2, ← hon]
      simpa using h
    · simp only [inE, hz, if_false] at h2 ⊢
      rw [show (pa ^^ !inE aS z) = (!pa ^^ inE aS z) by cases pa <;> simp, ← h2]
  | case8 x aS y bs pa pb on hlt hlt2 h ih =>
    have hB := List.pairwise_cons.1 hb
    have h2 := ih ha hB.2 rfl
    by_cases hz : z < y
    · have hzx : z < x := by omega
      simp [inE, hz, hzx, hon]
    · simp only [inE, hz, if_false] at h2 ⊢
      rw [show (pb ^^ !inE bs z) = (!pb ^^ inE bs z) by cases pb <;> simp, ← h2]
      revert h; cases on <;> cases op pa (!pb) <;> simp
  | case9 x aS y bs pa pb on hlt hlt2 h ih =>
    have hB := List.pairwise_cons.1 hb
    have h2 := ih ha hB.2 (by simpa using Eq.symm (by simpa using h))
    by_cases hz : z < y
    · have e1 : inE bs z = false := inE_lt fun a h => by have := hB.1 a h; omega
      have hzx : z < x := by omega
      rw [e1] at h2
      simp only [inE, hz, hzx, if_true, Bool.xor_false] at h2 ⊢
      rw [h2, ← hon]
      simpa using h
    · simp only [inE, hz, if_false] at h2 ⊢
      rw [show (pb ^^ !inE bs z) = (!pb ^^ inE bs z) by cases pb <;> simp, ← h2]
  | case10 x aS y bs pa pb on hlt hlt2 h ih =>
    have hA := List.pairwise_cons.1 ha
    have hB := List.pairwise_cons.1 hb
    have h2 := ih hA.2 hB.2 rfl
    obtain rfl : x = y := by omega
    by_cases hz : z < x
    · simp [inE, hz, hon]
    · simp only [inE, hz, if_false] at h2 ⊢
      rw [show (pa ^^ !inE aS z) = (!pa ^^ inE aS z) by cases pa <;> simp, show (pb ^^ !inE bs z) = (!pb ^^ inE bs z) by cases pb <;> simp, ← h2]
      revert h; cases on <;> cases op (!pa) (!pb) <;> simp
  | case11 x aS y bs pa pb on hlt hlt2 h ih =>
    have hA := List.pairwise_cons.1 ha
    have hB := List.pairwise_cons.1 hb
    have h2 := ih hA.2 hB.2 (by simpa using Eq.symm (by simpa using h))
    obtain rfl : x = y := by omega
    by_cases hz : z < x
    · have e1 : inE aS z = false := inE_lt fun a h => by have := hA.1 a h; omega
      have e2 : inE bs z = false := inE_lt fun a h => by have := hB.1 a h; omega
      rw [e1, e2] at h2
      simp only [inE, hz, if_true, Bool.xor_false] at h2 ⊢
      rw [h2, ← hon]
      simpa using h
    · simp only [inE, hz, if_false] at h2 ⊢
      rw [show (pa ^^ !inE aS z) = (!pa ^^ inE aS z) by cases pa <;> simp, show (pb ^^ !inE bs z) = (!pb ^^ inE bs z) by cases pb <;> simp, ← h2]
theorem mix_in {op : Bool → Bool → Bool} (h0 : op false false = false) {a b : List Int} (ha : Up a) (hb : Up b) (z : Int) : inE (mix op a b) z = op (inE a z) (inE b z) := by
  have := mixR_in op a b false false false ha hb h0.symm z
  simpa [mix] using this
theorem mix_up (op : Bool → Bool → Bool) {a b : List Int} (ha : Up a) (hb : Up b) : Up (mix op a b) := mixR_up _ _ _ _ _ _ ha hb
theorem mix_mem {op : Bool → Bool → Bool} {a b : List Int} {x : Int} (h : x ∈ mix op a b) : x ∈ a ∨ x ∈ b := mixR_mem _ _ _ _ _ _ x h
theorem list_top (l : List Int) : ∃ m : Int, ∀ a ∈ l, a ≤ m := by
  induction l with
  | nil => exact ⟨0, by simp⟩
  | cons a l ih =>
    obtain ⟨m, h⟩ := ih
    refine ⟨max a m, fun b hb => ?_⟩
    rcases List.mem_cons.1 hb with rfl | hb
    · omega
    · have := h b hb; omega
theorem mix_even {op : Bool → Bool → Bool} (h0 : op false false = false) {a b : List Int} (ha : Up a) (hb : Up b) (ea : a.length % 2 = 0) (eb : b.length % 2 = 0) : (mix op a b).length % 2 = 0 := by
  obtain ⟨m, hm⟩ := list_top (a ++ b)
  have h1 := mix_in h0 ha hb m
  rw [inE_big fun x hx => hm x (by rcases mix_mem hx with h | h <;> simp [h]), inE_big fun x hx => hm x (by simp [hx]), inE_big fun x hx => hm x (by simp [hx]), ea, eb] at h1
  have : ((0 : Nat) == 1) = false := rfl
  rw [this, h0] at h1
  have := beq_eq_false_iff_ne.1 h1
  omega
end Go.Proofs.Ytekcheccelllcaa
namespace Go.Proofs.Ytekcheccelllcaa
set_option linter.unusedVariables false
set_option linter.unusedSimpArgs false

/-- a band: rows, and the ends of its spans -/
structure Bd where
  y0 : Int
  y1 : Int
  es : List Int
/-- the ends of the row z -/
def rowB : List Bd → Int → List Int
  | [], _ => []
  | b :: bs, z => if b.y0 ≤ z ∧ z < b.y1 then b.es else rowB bs z
/-- ends that may be -/
def EOk (l : List Int) : Prop := Up l ∧ l.length % 2 = 0
structure BOk (b : Bd) : Prop where
  yy : b.y0 < b.y1
  ne : b.es ≠ []
  ok : EOk b.es
def Fst (b : Bd) : List Bd → Prop
  | [] => True
  | c :: _ => b.y1 ≤ c.y0 ∧ (b.y1 = c.y0 → b.es ≠ c.es)
def Can : List Bd → Prop
  | [] => True
  | b :: bs => BOk b ∧ Fst b bs ∧ Can bs
theorem Can.lt {b : Bd} {bs : List Bd} (h : Can (b :: bs)) : ∀ c ∈ bs, b.y1 ≤ c.y0 := by
  induction bs generalizing b with
  | nil => simp
  | cons d bs ih =>
    obtain ⟨h1, h2, h3⟩ := h
    intro c hc
    have h4 : b.y1 ≤ d.y0 := h2.1
    rcases List.mem_cons.1 hc with rfl | hc
    · exact h4
    · have := ih h3 c hc
      have := h3.1.yy
      omega
theorem rowB_low {bs : List Bd} {z : Int} (h : ∀ c ∈ bs, z < c.y0) : rowB bs z = [] := by
  induction bs with
  | nil => rfl
  | cons b bs ih => rw [rowB, if_neg (by have := h b (by simp); omega), ih fun c hc => h c (by simp [hc])]
theorem rowB_high {bs : List Bd} {z : Int} (h : ∀ c ∈ bs, c.y1 ≤ z) : rowB bs z = [] := by
  induction bs with
  | nil => rfl
  | cons b bs ih => rw [rowB, if_neg (by have := h b (by simp); omega), ih fun c hc => h c (by simp [hc])]
theorem rowB_mem {bs : List Bd} {z : Int} : rowB bs z = [] ∨ ∃ b ∈ bs, b.y0 ≤ z ∧ z < b.y1 ∧ rowB bs z = b.es := by
  induction bs with
  | nil => exact .inl rfl
  | cons b bs ih =>
    rw [rowB]
    by_cases h : b.y0 ≤ z ∧ z < b.y1
    · rw [if_pos h]; exact .inr ⟨b, by simp, h.1, h.2, rfl⟩
    · rw [if_neg h]
      rcases ih with h | ⟨c, h1, h2⟩
      · exact .inl h
      · exact .inr ⟨c, by simp [h1], h2⟩
theorem Can.ok {bs : List Bd} (h : Can bs) : ∀ b ∈ bs, BOk b := by
  induction bs with
  | nil => simp
  | cons b bs ih =>
    intro c hc
    rcases List.mem_cons.1 hc with rfl | hc
    · exact h.1
    · exact ih h.2.2 c hc
theorem Can.row {bs : List Bd} (h : Can bs) (z : Int) : EOk (rowB bs z) := by
  rcases @rowB_mem bs z with e | ⟨b, h1, _, _, e⟩ <;> rw [e]
  · exact ⟨List.Pairwise.nil, rfl⟩
  · exact (h.ok b h1).ok
theorem Can.row_tail {b : Bd} {bs : List Bd} (h : Can (b :: bs)) {z : Int} (hz : z < b.y1) : rowB bs z = [] := rowB_low fun c hc => by have := h.lt c hc; omega
theorem Can.row_next {b : Bd} {bs : List Bd} (h : Can (b :: bs)) : rowB bs b.y1 ≠ b.es := by
  cases bs with
  | nil => exact fun e => h.1.ne e.symm
  | cons c bs =>
    have h2 := h.2.1
    have hc := h.2.2.1.yy
    by_cases e : b.y1 = c.y0
    · rw [rowB, if_pos (by omega)]
      exact fun e2 => h2.2 e e2.symm
    · rw [rowB_low fun d hd => ?_]
      · exact fun e => h.1.ne e.symm
      · have h3 : b.y1 ≤ c.y0 := h2.1
        rcases List.mem_cons.1 hd with rfl | hd
        · omega
        · have := h.2.2.lt d hd
          omega
/-- bands that have the same rows are the same bands -/
theorem Can.uniq {a b : List Bd} (ha : Can a) (hb : Can b) (h : ∀ z, rowB a z = rowB b z) : a = b := by
  induction a generalizing b with
  | nil =>
    cases b with
    | nil => rfl
    | cons c b =>
      have := h c.y0
      rw [rowB, rowB, if_pos ⟨Int.le_refl _, hb.1.yy⟩] at this
      exact absurd this.symm hb.1.ne
  | cons c a ih =>
    cases b with
    | nil =>
      have := h c.y0
      simp only [rowB] at this
      rw [if_pos ⟨Int.le_refl _, ha.1.yy⟩] at this
      exact absurd this ha.1.ne
    | cons d b =>
      have hc := ha.1.yy
      have hd := hb.1.yy
      have rc : ∀ z, rowB (c :: a) z = if z < c.y0 then [] else if z < c.y1 then c.es else rowB a z := fun z => by
        rw [rowB]
        by_cases h1 : z < c.y0
        · rw [if_neg (by omega), if_pos h1, ha.row_tail (by omega)]
        · by_cases h2 : z < c.y1
          · rw [if_pos (by omega), if_neg h1, if_pos h2]
          · rw [if_neg (by omega), if_neg h1, if_neg h2]
      have rd : ∀ z, rowB (d :: b) z = if z < d.y0 then [] else if z < d.y1 then d.es else rowB b z := fun z => by
        rw [rowB]
        by_cases h1 : z < d.y0
        · rw [if_neg (by omega), if_pos h1, hb.row_tail (by omega)]
        · by_cases h2 : z < d.y1
          · rw [if_pos (by omega), if_neg h1, if_pos h2]
          · rw [if_neg (by omega), if_neg h1, if_neg h2]
      have e0 : c.y0 = d.y0 := by
        have h1 := h c.y0
        have h2 := h d.y0
        rw [rc, rd, if_neg (by omega), if_pos (by omega)] at h1
        rw [rc, rd, if_neg (by omega : ¬ d.y0 < d.y0), if_pos hd] at h2
        have x1 : ¬ c.y0 < d.y0 := fun hlt => by rw [if_pos hlt] at h1; exact ha.1.ne h1
        have x2 : ¬ d.y0 < c.y0 := fun hlt => by rw [if_pos hlt] at h2; exact hb.1.ne h2.symm
        omega
      have ee : c.es = d.es := by
        have h1 := h c.y0
        rw [rc, rd, if_neg (by omega), if_pos (by omega), if_neg (by omega), if_pos (by omega)] at h1
        exact h1
      have e1 : c.y1 = d.y1 := by
        have h1 := h c.y1
        have h2 := h d.y1
        rw [rc, rd, if_neg (by omega : ¬ c.y1 < c.y0), if_neg (by omega : ¬ c.y1 < c.y1), if_neg (by omega : ¬ c.y1 < d.y0)] at h1
        rw [rc, rd, if_neg (by omega : ¬ d.y1 < c.y0), if_neg (by omega : ¬ d.y1 < d.y0), if_neg (by omega : ¬ d.y1 < d.y1)] at h2
        have x1 : ¬ c.y1 < d.y1 := fun hlt => by rw [if_pos hlt] at h1; exact ha.row_next (h1.trans ee.symm)
        have x2 : ¬ d.y1 < c.y1 := fun hlt => by rw [if_pos hlt] at h2; exact hb.row_next (h2.symm.trans ee)
        omega
      have ec : c = d := by cases c; cases d; simp_all
      subst ec
      rw [ih ha.2.2 hb.2.2 fun z => ?_]
      by_cases hz : z < c.y1
      · rw [ha.row_tail hz, hb.row_tail hz]
      · have := h z
        rw [rc, rd, if_neg (by omega), if_neg (by omega), if_neg (by omega), if_neg (by omega)] at this
        exact this
/-- the loop over the rows' bounds: what is being told began at top, and has the ends now -/
def refG (f : Int → List Int) : List Int → Int → List Int → List Bd
  | [], _, _ => []
  | [y], top, now => if now = [] then [] else [⟨top, y, now⟩]
  | y :: y' :: ys, top, now => if f y = now then refG f (y' :: ys) top now else if now = [] then refG f (y' :: ys) y (f y) else ⟨top, y, now⟩ :: refG f (y' :: ys) y (f y)
/-- f does not change between the bounds, and has nothing behind them -/
def Steps (f : Int → List Int) : List Int → Prop
  | [] => True
  | [y] => ∀ z, y ≤ z → f z = []
  | y :: y' :: ys => (∀ z, y ≤ z → z < y' → f z = f y) ∧ Steps f (y' :: ys)
theorem refG_row (f : Int → List Int) (ys : List Int) (y top : Int) (now : List Int) (hu : Up (y :: ys)) (hs : Steps f (y :: ys)) (hn : now ≠ [] → top < y) (z : Int) : rowB (refG f (y :: ys) top now) z = if z < y then (if top ≤ z then now else []) else f z := by
  induction ys generalizing y top now with
  | nil =>
    rw [refG]
    have h1 := hs z
    by_cases e : now = []
    · rw [if_pos e, rowB, e]
      by_cases hz : z < y
      · rw [if_pos hz]; split <;> rfl
      · rw [if_neg hz, h1 (by omega)]
    · rw [if_neg e, rowB, rowB]
      dsimp only
      have := hn e
      by_cases hz : z < y
      · rw [if_pos hz]
        by_cases ht : top ≤ z
        · rw [if_pos ⟨ht, hz⟩, if_pos ht]
        · rw [if_neg (by omega), if_neg ht]
      · rw [if_neg (by omega), if_neg hz, h1 (by omega)]
  | cons y' ys ih =>
    have hU := List.pairwise_cons.1 hu
    have hyy := hU.1 y' (by simp)
    have hf := hs.1 z
    rw [refG]
    by_cases e : f y = now
    · rw [if_pos e, ih y' top now hU.2 hs.2 (fun h => by have := hn h; omega)]
      by_cases hz : z < y
      · rw [if_pos (by omega), if_pos hz]
      · rw [if_neg hz]
        by_cases hz2 : z < y'
        · rw [if_pos hz2, hf (by omega) hz2, e]
          by_cases e2 : now = []
          · rw [e2]; split <;> rfl
          · have := hn e2
            rw [if_pos (by omega)]
        · rw [if_neg hz2]
    · rw [if_neg e]
      have hI := ih y' y (f y) hU.2 hs.2 (fun _ => hyy)
      have key : z ≥ y → (if z < y' then if y ≤ z then f y else [] else f z) = f z := fun hz => by
        by_cases hz2 : z < y'
        · rw [if_pos hz2, if_pos hz, hf hz hz2]
        · rw [if_neg hz2]
      by_cases e2 : now = []
      · rw [if_pos e2, hI]
        by_cases hz : z < y
        · rw [if_pos (by omega), if_neg (by omega), if_pos hz, e2]; split <;> rfl
        · rw [if_neg hz, key (by omega)]
      · rw [if_neg e2, rowB, hI]
        dsimp only
        have := hn e2
        by_cases hz : z < y
        · rw [if_pos hz]
          by_cases ht : top ≤ z
          · rw [if_pos ⟨ht, hz⟩, if_pos ht]
          · rw [if_neg (by omega), if_neg ht, if_pos (by omega), if_neg (by omega)]
        · rw [if_neg (by omega), if_neg hz, key (by omega)]
theorem refG_first (f : Int → List Int) (ys : List Int) (y top : Int) (now : List Int) (hu : Up (y :: ys)) : ∀ b bs, refG f (y :: ys) top now = b :: bs → (now ≠ [] → b.y0 = top ∧ b.es = now) ∧ (now = [] → y ≤ b.y0) := by
  induction ys generalizing y top now with
  | nil =>
    intro b bs h
    rw [refG] at h
    by_cases e : now = []
    · rw [if_pos e] at h; cases h
    · rw [if_neg e] at h
      injection h with h _
      subst h
      exact ⟨fun _ => ⟨rfl, rfl⟩, fun h => absurd h e⟩
  | cons y' ys ih =>
    have hU := List.pairwise_cons.1 hu
    have hyy := hU.1 y' (by simp)
    intro b bs h
    rw [refG] at h
    by_cases e : f y = now
    · rw [if_pos e] at h
      have := ih y' top now hU.2 b bs h
      exact ⟨this.1, fun h2 => by have := this.2 h2; omega⟩
    · rw [if_neg e] at h
      by_cases e2 : now = []
      · rw [if_pos e2] at h
        have := ih y' y (f y) hU.2 b bs h
        refine ⟨fun h => absurd e2 h, fun _ => ?_⟩
        by_cases e3 : f y = []
        · exact absurd (e3.trans e2.symm) e
        · have := (this.1 e3).1; omega
      · rw [if_neg e2] at h
        injection h with h _
        subst h
        exact ⟨fun _ => ⟨rfl, rfl⟩, fun h => absurd h e2⟩
theorem refG_can (f : Int → List Int) (hf : ∀ z, EOk (f z)) (ys : List Int) (y top : Int) (now : List Int) (hu : Up (y :: ys)) (hn : now ≠ [] → top < y) (ho : EOk now) : Can (refG f (y :: ys) top now) := by
  induction ys generalizing y top now with
  | nil =>
    rw [refG]
    by_cases e : now = []
    · rw [if_pos e]; trivial
    · rw [if_neg e]
      exact ⟨⟨hn e, e, ho⟩, trivial, trivial⟩
  | cons y' ys ih =>
    have hU := List.pairwise_cons.1 hu
    have hyy := hU.1 y' (by simp)
    rw [refG]
    by_cases e : f y = now
    · rw [if_pos e]
      exact ih y' top now hU.2 (fun h => by have := hn h; omega) ho
    · rw [if_neg e]
      have hI := ih y' y (f y) hU.2 (fun _ => hyy) (hf y)
      by_cases e2 : now = []
      · rw [if_pos e2]; exact hI
      · rw [if_neg e2]
        refine ⟨⟨hn e2, e2, ho⟩, ?_, hI⟩
        have h1 := refG_first f ys y' y (f y) hU.2
        cases hq : refG f (y' :: ys) y (f y) with
        | nil => trivial
        | cons c cs =>
          have h2 := h1 c cs hq
          show y ≤ c.y0 ∧ (y = c.y0 → now ≠ c.es)
          by_cases e3 : f y = []
          · have := h2.2 e3
            exact ⟨by omega, fun h => by omega⟩
          · have := h2.1 e3
            exact ⟨by omega, fun _ h => e (by rw [h, this.2])⟩
/-- the program's loop: what is told is put behind the last band, or makes it taller -/
def pushB (out : List Bd) (y0 y1 : Int) (now : List Int) : List Bd :=
  if now = [] then out else
  match out.getLast? with
  | none => [⟨y0, y1, now⟩]
  | some b => if b.y1 = y0 ∧ b.es = now then out.dropLast ++ [⟨b.y0, y1, b.es⟩] else out ++ [⟨y0, y1, now⟩]
def goB (f : Int → List Int) : List Int → List Bd → List Bd
  | y0 :: y1 :: ys, out => goB f (y1 :: ys) (pushB out y0 y1 (f y0))
  | [_], out => out
  | [], out => out
theorem goB_ref (f : Int → List Int) (ys : List Int) (y top : Int) (now : List Int) (pre : List Bd) (hu : Up (y :: ys)) (hn : now ≠ [] → top < y) (hp : now = [] → ∀ b ∈ pre.getLast?, b.y1 < y) :
    goB f (y :: ys) (pre ++ if now = [] then [] else [⟨top, y, now⟩]) = pre ++ refG f (y :: ys) top now := by
  induction ys generalizing y top now pre with
  | nil => rw [goB, refG]
  | cons y' ys ih =>
    have hU := List.pairwise_cons.1 hu
    have hyy := hU.1 y' (by simp)
    rw [goB, refG]
    by_cases e2 : now = []
    · rw [if_pos e2, List.append_nil]
      by_cases e : f y = now
      · rw [if_pos e]
        have h1 := ih y' top now pre hU.2 (fun h => absurd e2 h) (fun h b hb => by have := hp h b hb; omega)
        rw [if_pos e2, List.append_nil] at h1
        rw [← h1, pushB, if_pos (e.trans e2)]
      · have hne : f y ≠ [] := fun h => e (h.trans e2.symm)
        rw [if_neg e, if_pos e2]
        have h1 := ih y' y (f y) pre hU.2 (fun _ => hyy) (fun h => absurd h hne)
        rw [if_neg hne] at h1
        rw [← h1]
        congr 1
        rw [pushB, if_neg hne]
        have hp := hp e2
        cases hq : pre.getLast? with
        | none => rw [List.getLast?_eq_none_iff.1 hq]; rfl
        | some b =>
          have := hp b hq
          simp only
          rw [if_neg (by omega)]
    · rw [if_neg e2]
      by_cases e : f y = now
      · rw [if_pos e]
        have h1 := ih y' top now pre hU.2 (fun h => by have := hn h; omega) (fun h => absurd h e2)
        rw [if_neg e2] at h1
        rw [← h1]
        congr 1
        rw [pushB, if_neg (by rw [e]; exact e2), List.getLast?_append, List.getLast?_singleton]
        simp [e]
      · rw [if_neg e, if_neg e2]
        by_cases hne : f y = []
        · have h1 := ih y' y (f y) (pre ++ [⟨top, y, now⟩]) hU.2 (fun _ => hyy) (fun h b hb => by simp at hb; subst hb; exact hyy)
          rw [if_pos hne, List.append_nil] at h1
          rw [pushB, if_pos hne, h1]
          simp
        · have h1 := ih y' y (f y) (pre ++ [⟨top, y, now⟩]) hU.2 (fun _ => hyy) (fun h => absurd h hne)
          rw [if_neg hne] at h1
          rw [show pre ++ ⟨top, y, now⟩ :: refG f (y' :: ys) y (f y) = (pre ++ [⟨top, y, now⟩]) ++ refG f (y' :: ys) y (f y) by simp, ← h1]
          congr 1
          rw [pushB, if_neg hne, List.getLast?_append, List.getLast?_singleton]
          simp only [Option.some_or]
          rw [if_neg (fun h => e h.2.symm)]
/-- what f makes of bounds -/
def mkBd (f : Int → List Int) : List Int → List Bd
  | [] => []
  | y :: ys => refG f (y :: ys) y []
theorem mkBd_go (f : Int → List Int) (ys : List Int) (hu : Up ys) : goB f ys [] = mkBd f ys := by
  cases ys with
  | nil => rfl
  | cons y ys =>
    have := goB_ref f ys y y [] [] hu (fun h => absurd rfl h) (by simp)
    simpa [mkBd] using this
theorem mkBd_can (f : Int → List Int) (hf : ∀ z, EOk (f z)) (ys : List Int) (hu : Up ys) : Can (mkBd f ys) := by
  cases ys with
  | nil => trivial
  | cons y ys => exact refG_can f hf ys y y [] hu (fun h => absurd rfl h) ⟨List.Pairwise.nil, rfl⟩
/-- f is told by the bounds in B alone -/
structure Tells (f : Int → List Int) (B : List Int) : Prop where
  same : ∀ y z, y ≤ z → (∀ v ∈ B, ¬ (y < v ∧ v ≤ z)) → f z = f y
  low : ∀ z, (∀ v ∈ B, z < v) → f z = []
theorem Tells.steps {f : Int → List Int} {B : List Int} (h : Tells f B) (hi : ∀ z, (∀ v ∈ B, v ≤ z) → f z = []) : ∀ ys y, Up (y :: ys) → (∀ v ∈ B, v ≤ y ∨ v ∈ ys) → Steps f (y :: ys) := by
  intro ys
  induction ys with
  | nil =>
    intro y hu hv z hz
    exact hi z fun v hb => by rcases hv v hb with h | h; omega; cases h
  | cons y' ys ih =>
    intro y hu hv
    have hU := List.pairwise_cons.1 hu
    have hyy := hU.1 y' (by simp)
    refine ⟨fun z h1 h2 => h.same y z h1 fun v hb h3 => ?_, ih y' hU.2 fun v hb => ?_⟩
    · rcases hv v hb with h | h
      · omega
      · rcases List.mem_cons.1 h with rfl | h
        · omega
        · have := (List.pairwise_cons.1 hU.2).1 v h; omega
    · rcases hv v hb with h | h
      · exact .inl (by omega)
      · rcases List.mem_cons.1 h with rfl | h
        · exact .inl (Int.le_refl _)
        · exact .inr h
theorem mkBd_row {f : Int → List Int} {B : List Int} (h : Tells f B) (hi : ∀ z, (∀ v ∈ B, v ≤ z) → f z = []) {ys : List Int} (hu : Up ys) (hm : ∀ v, v ∈ ys ↔ v ∈ B) (z : Int) : rowB (mkBd f ys) z = f z := by
  cases ys with
  | nil => exact (h.low z fun v hv => by have := (hm v).2 hv; cases this).symm
  | cons y ys =>
    have hU := List.pairwise_cons.1 hu
    rw [mkBd, refG_row f ys y y [] hu (h.steps hi ys y hu fun v hv => ?_) (fun h => absurd rfl h)]
    · by_cases hz : z < y
      · rw [if_pos hz, h.low z fun v hv => ?_]
        · split <;> rfl
        · rcases List.mem_cons.1 ((hm v).2 hv) with rfl | h
          · exact hz
          · have := hU.1 v h; omega
      · rw [if_neg hz]
    · rcases List.mem_cons.1 ((hm v).2 hv) with rfl | h
      · exact .inl (Int.le_refl _)
      · exact .inr h
theorem up_uniq {a b : List Int} (ha : Up a) (hb : Up b) (h : ∀ x, x ∈ a ↔ x ∈ b) : a = b := by
  induction a generalizing b with
  | nil =>
    cases b with
    | nil => rfl
    | cons y b => have := (h y).2 (by simp); cases this
  | cons x a ih =>
    cases b with
    | nil => have := (h x).1 (by simp); cases this
    | cons y b =>
      have hA := List.pairwise_cons.1 ha
      have hB := List.pairwise_cons.1 hb
      have e : x = y := by
        have h1 := (h x).1 (by simp)
        have h2 := (h y).2 (by simp)
        rcases List.mem_cons.1 h1 with e | h1
        · exact e
        · rcases List.mem_cons.1 h2 with e | h2
          · exact e.symm
          · have := hA.1 y h2; have := hB.1 x h1; omega
      subst e
      rw [ih hA.2 hB.2 fun z => ?_]
      have h1 := h z
      simp only [List.mem_cons] at h1
      constructor
      · intro hz
        rcases h1.1 (.inr hz) with rfl | h
        · have := hA.1 z hz; omega
        · exact h
      · intro hz
        rcases h1.2 (.inr hz) with rfl | h
        · have := hB.1 z hz; omega
        · exact h
end Go.Proofs.Ytekcheccelllcaa
namespace Go.Proofs.Ytekcheccelllcaa
set_option linter.unusedVariables false
set_option linter.unusedSimpArgs false

/-- a rectangle's ends, or none -/
structure Bx where
  ok : Bool
  x0 : Int
  y0 : Int
  x1 : Int
  y1 : Int
structure BxOk (b : Bx) : Prop where
  ry : b.ok = true → b.x0 < b.x1 ∧ b.y0 < b.y1
  no : b.ok = false → b = ⟨false, 0, 0, 0, 0⟩
def rowX (b : Bx) (z : Int) : List Int := if b.ok = true ∧ b.y0 ≤ z ∧ z < b.y1 then [b.x0, b.x1] else []
theorem rowX_ok {b : Bx} (h : BxOk b) (z : Int) : EOk (rowX b z) := by
  unfold rowX
  split
  · rename_i hh
    have := (h.ry hh.1).1
    exact ⟨List.pairwise_cons.2 ⟨fun a ha => by (simp at ha; omega), List.pairwise_cons.2 ⟨fun a ha => (by cases ha), List.Pairwise.nil⟩⟩, by simp⟩
  · exact ⟨List.Pairwise.nil, rfl⟩
def opAdd (a b : Bool) : Bool := a || b
def opCut (a b : Bool) : Bool := a && !b
def opClip (a b : Bool) : Bool := a && b
def fRow (op : Bool → Bool → Bool) (bs : List Bd) (b : Bx) (z : Int) : List Int := mix op (rowB bs z) (rowX b z)
def ysOf (bs : List Bd) (y0 y1 : Int) : List Int := y0 :: y1 :: bs.flatMap fun b => [b.y0, b.y1]
/-- put into a rising list -/
def insU (a : Int) : List Int → List Int
  | [] => [a]
  | b :: l => if a < b then a :: b :: l else if a = b then b :: l else b :: insU a l
theorem insU_mem (a : Int) (l : List Int) (x : Int) : x ∈ insU a l ↔ x = a ∨ x ∈ l := by
  induction l with
  | nil => simp [insU]
  | cons b l ih =>
    rw [insU]
    split
    · simp
    · split
      · rename_i h; subst h; simp
      · rw [List.mem_cons, ih, List.mem_cons]; grind
theorem insU_up (a : Int) (l : List Int) (h : Up l) : Up (insU a l) := by
  induction l with
  | nil => exact List.pairwise_cons.2 ⟨fun b hb => (by cases hb), List.Pairwise.nil⟩
  | cons b l ih =>
    have hB := List.pairwise_cons.1 h
    rw [insU]
    split
    · rename_i hlt
      exact List.pairwise_cons.2 ⟨fun c hc => by rcases List.mem_cons.1 hc with rfl | hc; exact hlt; have := hB.1 c hc; omega, h⟩
    · split
      · exact h
      · refine List.pairwise_cons.2 ⟨fun c hc => ?_, ih hB.2⟩
        rcases (insU_mem a l c).1 hc with rfl | hc
        · omega
        · exact hB.1 c hc
/-- rising, each once -/
def srtU (l : List Int) : List Int := l.foldr insU []
theorem srtU_mem (l : List Int) (x : Int) : x ∈ srtU l ↔ x ∈ l := by
  induction l with
  | nil => simp [srtU]
  | cons a l ih => rw [srtU, List.foldr_cons, insU_mem, List.mem_cons]; rw [srtU] at ih; rw [ih]
theorem srtU_up (l : List Int) : Up (srtU l) := by
  induction l with
  | nil => exact List.Pairwise.nil
  | cons a l ih => exact insU_up a _ ih
/-- what a call makes of a region -/
def chgB (op : Bool → Bool → Bool) (bs : List Bd) (b : Bx) : List Bd := mkBd (fRow op bs b) (srtU (ysOf bs b.y0 b.y1))
theorem mix_nil (op : Bool → Bool → Bool) : mix op [] [] = [] := by simp [mix, mixR]
theorem rowB_same {bs : List Bd} {y z : Int} (hyz : y ≤ z) (h : ∀ b ∈ bs, ¬ (y < b.y0 ∧ b.y0 ≤ z) ∧ ¬ (y < b.y1 ∧ b.y1 ≤ z)) : rowB bs z = rowB bs y := by
  induction bs with
  | nil => rfl
  | cons b bs ih =>
    have h1 := h b (by simp)
    rw [rowB, rowB, ih fun c hc => h c (by simp [hc])]
    by_cases e : b.y0 ≤ z ∧ z < b.y1
    · rw [if_pos e, if_pos (by omega)]
    · rw [if_neg e, if_neg (by omega)]
theorem ysOf_mem {bs : List Bd} {y0 y1 v : Int} : v ∈ ysOf bs y0 y1 ↔ v = y0 ∨ v = y1 ∨ ∃ b ∈ bs, v = b.y0 ∨ v = b.y1 := by
  unfold ysOf
  simp only [List.mem_cons, List.mem_flatMap, List.not_mem_nil, or_false]
theorem fRow_told (op : Bool → Bool → Bool) (bs : List Bd) (b : Bx) : Tells (fRow op bs b) (ysOf bs b.y0 b.y1) := by
  refine ⟨fun y z hyz hv => ?_, fun z hz => ?_⟩
  · have e1 : rowB bs z = rowB bs y := rowB_same hyz fun c hc => ⟨hv _ (ysOf_mem.2 (.inr (.inr ⟨c, hc, .inl rfl⟩))), hv _ (ysOf_mem.2 (.inr (.inr ⟨c, hc, .inr rfl⟩)))⟩
    have h0 := hv b.y0 (ysOf_mem.2 (.inl rfl))
    have h1 := hv b.y1 (ysOf_mem.2 (.inr (.inl rfl)))
    have e2 : rowX b z = rowX b y := by
      unfold rowX
      by_cases e : b.ok = true ∧ b.y0 ≤ z ∧ z < b.y1
      · rw [if_pos e, if_pos ⟨e.1, by omega⟩]
      · rw [if_neg e, if_neg (fun h => e ⟨h.1, by omega⟩)]
    rw [fRow, fRow, e1, e2]
  · have h0 := hz b.y0 (ysOf_mem.2 (.inl rfl))
    rw [fRow, rowB_low fun c hc => hz _ (ysOf_mem.2 (.inr (.inr ⟨c, hc, .inl rfl⟩))), rowX, if_neg (by omega), mix_nil]
theorem fRow_high (op : Bool → Bool → Bool) (bs : List Bd) (b : Bx) (z : Int) (hz : ∀ v ∈ ysOf bs b.y0 b.y1, v ≤ z) : fRow op bs b z = [] := by
  have h1 := hz b.y1 (ysOf_mem.2 (.inr (.inl rfl)))
  rw [fRow, rowB_high fun c hc => hz _ (ysOf_mem.2 (.inr (.inr ⟨c, hc, .inr rfl⟩))), rowX, if_neg (by omega), mix_nil]
section
variable {op : Bool → Bool → Bool} {bs : List Bd} {b : Bx}
theorem fRow_ok (h0 : op false false = false) (hc : Can bs) (hb : BxOk b) (z : Int) : EOk (fRow op bs b z) :=
  ⟨mix_up op (hc.row z).1 (rowX_ok hb z).1, mix_even h0 (hc.row z).1 (rowX_ok hb z).1 (hc.row z).2 (rowX_ok hb z).2⟩
theorem chgB_can (h0 : op false false = false) (hc : Can bs) (hb : BxOk b) : Can (chgB op bs b) := mkBd_can _ (fRow_ok h0 hc hb) _ (srtU_up _)
theorem chgB_row (z : Int) : rowB (chgB op bs b) z = fRow op bs b z := mkBd_row (fRow_told op bs b) (fRow_high op bs b) (srtU_up _) (srtU_mem _) z
/-- is a cell in it? -/
def inB (bs : List Bd) (x y : Int) : Bool := inE (rowB bs y) x
def inX (b : Bx) (x y : Int) : Bool := b.ok && decide (b.x0 ≤ x ∧ x < b.x1 ∧ b.y0 ≤ y ∧ y < b.y1)
theorem rowX_in (hb : BxOk b) (x y : Int) : inE (rowX b y) x = inX b x y := by
  unfold rowX inX
  cases hk : b.ok
  · simp [inE]
  · have h1 := hb.ry hk
    by_cases e : b.y0 ≤ y ∧ y < b.y1
    · rw [if_pos ⟨rfl, e⟩]
      simp only [inE]
      by_cases e1 : x < b.x0
      · rw [if_pos e1]; simp; omega
      · rw [if_neg e1]
        by_cases e2 : x < b.x1
        · rw [if_pos e2]; simp; omega
        · rw [if_neg e2]; simp; omega
    · rw [if_neg (by simp; omega)]
      simp [inE]
      omega
theorem chgB_in (h0 : op false false = false) (hc : Can bs) (hb : BxOk b) (x y : Int) : inB (chgB op bs b) x y = op (inB bs x y) (inX b x y) := by
  rw [inB, chgB_row, fRow, mix_in h0 (hc.row y).1 (rowX_ok hb y).1, rowX_in hb]
  rfl
end
/-- bands that have the same cells are the same -/
theorem Can.same {a b : List Bd} (ha : Can a) (hb : Can b) (h : ∀ x y, inB a x y = inB b x y) : a = b :=
  ha.uniq hb fun z => inE_eq (ha.row z).1 (hb.row z).1 fun x => h x z
/-- how many rectangles -/
def cntB (bs : List Bd) : Nat := (bs.map fun b => b.es.length / 2).sum
/-- spans of ends -/
def prs : List Int → List (Int × Int)
  | a :: b :: l => (a, b) :: prs l
  | _ => []
def flat (l : List (Int × Int)) : List Int := l.flatMap fun p => [p.1, p.2]
theorem flat_prs : ∀ (l : List Int), l.length % 2 = 0 → flat (prs l) = l
  | [], _ => rfl
  | [a], h => by simp at h
  | a :: b :: l, h => by
    have : flat (prs l) = l := flat_prs l (by simp at h; omega)
    rw [prs, flat, List.flatMap_cons]
    rw [flat] at this
    rw [this]; rfl
theorem prs_flat (l : List (Int × Int)) : prs (flat l) = l := by
  induction l with
  | nil => rfl
  | cons p l ih => show (p.1, p.2) :: prs (flat l) = _; rw [ih]
theorem prs_len : ∀ (l : List Int), (prs l).length = l.length / 2
  | [] => rfl
  | [a] => by simp [prs]
  | a :: b :: l => by rw [prs, List.length_cons, prs_len l]; simp; omega
/-- a band's rectangles -/
def rctB (b : Bd) : List R4 := (prs b.es).map fun p => ⟨p.1, b.y0, p.2 - p.1, b.y1 - b.y0⟩
def rctsB (bs : List Bd) : List R4 := bs.flatMap rctB
theorem rctsB_len (bs : List Bd) : (rctsB bs).length = cntB bs := by
  induction bs with
  | nil => rfl
  | cons b bs ih =>
    rw [rctsB, List.flatMap_cons, List.length_append]
    rw [rctsB] at ih
    rw [ih, rctB, List.length_map, prs_len, cntB, cntB, List.map_cons, List.sum_cons]
/-- the reference's row -/
def refRow (L : List R4) (y : Int) : List (Int × Int) := (L.filter fun r => decide (r.y ≤ y ∧ y < r.y + r.h)).map fun r => (r.x, r.x + r.w)
theorem refRow_band (b : Bd) (y : Int) : refRow (rctB b) y = if b.y0 ≤ y ∧ y < b.y1 then prs b.es else [] := by
  unfold refRow rctB
  generalize prs b.es = l
  induction l with
  | nil => simp
  | cons p l ih =>
    rw [List.map_cons, List.filter_cons]
    by_cases e : b.y0 ≤ y ∧ y < b.y1
    · rw [if_pos e] at ih ⊢
      rw [if_pos (by simp; omega), List.map_cons, ih]
      congr 1
      ext <;> simp; omega
    · rw [if_neg e] at ih ⊢
      rw [if_neg (by simp; omega), ih]
theorem refRow_append (a b : List R4) (y : Int) : refRow (a ++ b) y = refRow a y ++ refRow b y := by simp [refRow]
theorem refRow_bands {bs : List Bd} (h : Can bs) (y : Int) : refRow (rctsB bs) y = prs (rowB bs y) := by
  induction bs with
  | nil => rfl
  | cons b bs ih =>
    rw [rctsB, List.flatMap_cons, refRow_append, refRow_band, rowB]
    rw [rctsB] at ih
    rw [ih h.2.2]
    by_cases e : b.y0 ≤ y ∧ y < b.y1
    · rw [if_pos e, if_pos e, h.row_tail e.2]; simp [prs]
    · rw [if_neg e, if_neg e]; rfl
/-- the reference's spans, put together -/
def putS (out : List (Int × Int)) (a b : Int) : List (Int × Int) :=
  if a ≥ b then out else match out.getLast? with
  | none => [(a, b)]
  | some p => if p.2 = a then out.dropLast ++ [(p.1, b)] else out ++ [(a, b)]
def clipJ : List (Int × Int) → List (Int × Int) → Int × Int → List (Int × Int)
  | out, [], _ => out
  | out, p :: l, s => clipJ (putS out (max p.1 s.1) (min p.2 s.2)) l s
def cutJ : List (Int × Int) → List (Int × Int) → Int × Int → List (Int × Int)
  | out, [], _ => out
  | out, p :: l, s => cutJ (putS (putS out p.1 (min p.2 s.1)) (max p.1 s.2) p.2) l s
def addJ3 : List (Int × Int) → List (Int × Int) → List (Int × Int)
  | out, [] => out
  | out, p :: l => addJ3 (putS out p.1 p.2) l
def addJ2 : List (Int × Int) → List (Int × Int) → Int × Int → List (Int × Int)
  | out, [], s => putS out s.1 s.2
  | out, p :: l, s => if p.1 ≤ s.2 then addJ2 out l (min s.1 p.1, max s.2 p.2) else addJ3 (putS out s.1 s.2) (p :: l)
def addJ1 : List (Int × Int) → List (Int × Int) → Int × Int → List (Int × Int)
  | out, [], s => addJ2 out [] s
  | out, p :: l, s => if p.2 < s.1 then addJ1 (putS out p.1 p.2) l s else addJ2 out (p :: l) s
theorem up_append {a b : List Int} : Up (a ++ b) ↔ Up a ∧ Up b ∧ ∀ x ∈ a, ∀ y ∈ b, x < y := List.pairwise_append
theorem flat_append (a b : List (Int × Int)) : flat (a ++ b) = flat a ++ flat b := by simp [flat]
theorem flat_cons (p : Int × Int) (l : List (Int × Int)) : flat (p :: l) = p.1 :: p.2 :: flat l := rfl
/-- behind a row all ends of which lie ahead -/
theorem inE_append {a b : List Int} (h : Up (a ++ b)) (x : Int) : inE (a ++ b) x = (inE a x ^^ inE b x) := by
  induction a with
  | nil => simp [inE]
  | cons c a ih =>
    have hC := List.pairwise_cons.1 h
    rw [List.cons_append, inE, inE]
    by_cases e : x < c
    · rw [if_pos e, if_pos e, inE_lt fun y hy => by have := hC.1 y (by simp [hy]); omega]; rfl
    · rw [if_neg e, if_neg e, ih hC.2]; simp
theorem inE_flat_even {l : List (Int × Int)} {x : Int} (h : ∀ a ∈ flat l, a ≤ x) : inE (flat l) x = false := by
  rw [inE_big h]
  have : (flat l).length % 2 = 0 := by
    induction l with
    | nil => rfl
    | cons p l ih => rw [flat_cons]; have := ih (fun a ha => h a (by rw [flat_cons]; simp [ha])); simp; omega
  rw [this]; rfl
theorem putS_spec {out : List (Int × Int)} {a b : Int} (hu : Up (flat out)) (ha : ∀ e ∈ flat out, e ≤ a) : Up (flat (putS out a b)) ∧ (∀ e ∈ flat (putS out a b), e ∈ flat out ∨ (e = a ∧ a < b) ∨ (e = b ∧ a < b)) ∧ ∀ x, inE (flat (putS out a b)) x = (inE (flat out) x || decide (a ≤ x ∧ x < b)) := by
  unfold putS
  by_cases e : a ≥ b
  · rw [if_pos e]
    refine ⟨hu, fun e he => .inl he, fun x => ?_⟩
    have : ¬ (a ≤ x ∧ x < b) := by omega
    simp [this]
  · rw [if_neg e]
    have two : ∀ x, inE [a, b] x = decide (a ≤ x ∧ x < b) := fun x => by
      simp only [inE]
      by_cases e1 : x < a
      · rw [if_pos e1]; simp; omega
      · rw [if_neg e1]
        by_cases e2 : x < b
        · rw [if_pos e2]; simp; omega
        · rw [if_neg e2]; simp; omega
    have upab : Up [a, b] := List.pairwise_cons.2 ⟨fun c hc => by simp at hc; omega, List.pairwise_cons.2 ⟨fun c hc => (by cases hc), List.Pairwise.nil⟩⟩
    cases hq : out.getLast? with
    | none =>
      rw [List.getLast?_eq_none_iff.1 hq]
      exact ⟨upab, fun e he => by simp [flat] at he; rcases he with rfl | rfl; exact .inr (.inl ⟨rfl, by omega⟩); exact .inr (.inr ⟨rfl, by omega⟩), fun x => by show inE [a, b] x = _; rw [two]; simp [flat, inE]⟩
    | some p =>
      have ho : out = out.dropLast ++ [p] := by obtain ⟨o2, rfl⟩ := List.getLast?_eq_some_iff.1 hq; simp
      simp only
      have hf : flat out = flat out.dropLast ++ [p.1, p.2] := by
        have := congrArg flat ho
        rw [flat_append] at this
        exact this
      by_cases e2 : p.2 = a
      · rw [if_pos e2, flat_append]
        show Up (flat out.dropLast ++ [p.1, b]) ∧ _ ∧ _
        have hU := up_append.1 (hf ▸ hu)
        have hp : p.1 < p.2 := (List.pairwise_cons.1 hU.2.1).1 p.2 (by simp)
        have h1 : Up (flat out.dropLast ++ [p.1, b]) := by
          refine up_append.2 ⟨hU.1, List.pairwise_cons.2 ⟨fun c hc => by simp at hc; omega, List.pairwise_cons.2 ⟨fun c hc => (by cases hc), List.Pairwise.nil⟩⟩, fun x hx y hy => ?_⟩
          have h2 := hU.2.2 x hx p.1 (by simp)
          simp at hy
          rcases hy with rfl | rfl
          · exact h2
          · omega
        refine ⟨h1, fun e he => ?_, fun x => ?_⟩
        · rw [hf]
          rcases List.mem_append.1 he with he | he
          · exact .inl (List.mem_append.2 (.inl he))
          · have he : e ∈ [p.1, b] := he
            simp at he
            rcases he with rfl | rfl
            · exact .inl (by simp)
            · exact .inr (.inr ⟨rfl, by omega⟩)
        · show inE (flat out.dropLast ++ [p.1, b]) x = _
          rw [inE_append h1, hf, inE_append (hf ▸ hu)]
          subst e2
          by_cases e3 : x < p.1
          · simp only [inE]
            rw [if_pos e3, if_pos e3]
            have : ¬ (p.2 ≤ x ∧ x < b) := by omega
            simp [this]
          · have e4 : inE (flat out.dropLast) x = false := inE_flat_even fun y hy => by have := hU.2.2 y hy p.1 (by simp); omega
            rw [e4]
            simp only [inE, if_neg e3]
            by_cases e5 : x < b <;> by_cases e6 : x < p.2 <;> simp [e5, e6] <;> omega
      · rw [if_neg e2, flat_append]
        show Up (flat out ++ [a, b]) ∧ _ ∧ _
        have h0 : ∀ e ∈ flat out, e < a := fun e he => by
          have h1 := ha e he
          have h2 := ha p.2 (by rw [hf]; simp)
          have hU := up_append.1 (hf ▸ hu)
          rw [hf] at he
          rcases List.mem_append.1 he with he | he
          · have := hU.2.2 e he p.2 (by simp); omega
          · simp at he
            have hp : p.1 < p.2 := (List.pairwise_cons.1 hU.2.1).1 p.2 (by simp)
            rcases he with rfl | rfl <;> omega
        have h1 : Up (flat out ++ [a, b]) := up_append.2 ⟨hu, upab, fun x hx y hy => by
          have := h0 x hx
          simp at hy
          rcases hy with rfl | rfl <;> omega⟩
        refine ⟨h1, fun e he => ?_, fun x => ?_⟩
        · rcases List.mem_append.1 he with he | he
          · exact .inl he
          · have he : e ∈ [a, b] := he
            simp at he
            rcases he with rfl | rfl
            · exact .inr (.inl ⟨rfl, by omega⟩)
            · exact .inr (.inr ⟨rfl, by omega⟩)
        · show inE (flat out ++ [a, b]) x = _
          rw [inE_append h1, two]
          by_cases e5 : a ≤ x ∧ x < b
          · rw [inE_flat_even fun y hy => by have := h0 y hy; omega]; simp
          · simp [e5]
end Go.Proofs.Ytekcheccelllcaa
namespace Go.Proofs.Ytekcheccelllcaa
set_option linter.unusedVariables false
set_option linter.unusedSimpArgs false

theorem inE_flat_cons {p : Int × Int} {l : List (Int × Int)} (h : Up (flat (p :: l))) (x : Int) : inE (flat (p :: l)) x = (decide (p.1 ≤ x ∧ x < p.2) || inE (flat l) x) := by
  rw [flat_cons] at h ⊢
  have h1 := List.pairwise_cons.1 h
  have h2 := List.pairwise_cons.1 h1.2
  have h3 := h1.1 p.2 (by simp)
  simp only [inE]
  by_cases e1 : x < p.1
  · rw [if_pos e1, inE_lt fun a ha => by have := h2.1 a ha; omega]
    simp; omega
  · rw [if_neg e1]
    by_cases e2 : x < p.2
    · rw [if_pos e2]; simp; omega
    · rw [if_neg e2]
      have : ¬ (p.1 ≤ x ∧ x < p.2) := by omega
      simp [this]
/-- what is out lies ahead of what is left -/
def Ahd (out l : List (Int × Int)) : Prop := ∀ e ∈ flat out, ∀ p ∈ flat l, e ≤ p
theorem flat_mem1 {p : Int × Int} {l : List (Int × Int)} : p.1 ∈ flat (p :: l) := by rw [flat_cons]; simp
theorem flat_mem2 {p : Int × Int} {l : List (Int × Int)} : p.2 ∈ flat (p :: l) := by rw [flat_cons]; simp
theorem flat_mem3 {p : Int × Int} {l : List (Int × Int)} {e : Int} (h : e ∈ flat l) : e ∈ flat (p :: l) := by rw [flat_cons]; simp [h]
structure UpC (p : Int × Int) (l : List (Int × Int)) : Prop where
  lt : p.1 < p.2
  be : ∀ e ∈ flat l, p.2 < e
  tl : Up (flat l)
theorem upC {p : Int × Int} {l : List (Int × Int)} (h : Up (flat (p :: l))) : UpC p l := by
  rw [flat_cons] at h
  have h1 := List.pairwise_cons.1 h
  have h2 := List.pairwise_cons.1 h1.2
  exact ⟨h1.1 _ (by simp), h2.1, h2.2⟩
theorem clipJ_spec (l : List (Int × Int)) (s : Int × Int) : ∀ out, Up (flat out) → Up (flat l) → Ahd out l → Up (flat (clipJ out l s)) ∧ ∀ x, inE (flat (clipJ out l s)) x = (inE (flat out) x || (inE (flat l) x && decide (s.1 ≤ x ∧ x < s.2))) := by
  induction l with
  | nil => intro out hu _ _; rw [clipJ]; exact ⟨hu, fun x => by simp [flat, inE]⟩
  | cons p l ih =>
    intro out hu hl ha
    have hC := upC hl
    rw [clipJ]
    obtain ⟨h1, h2, h3⟩ := putS_spec (a := max p.1 s.1) (b := min p.2 s.2) hu (fun e he => by have := ha e he p.1 flat_mem1; omega)
    obtain ⟨h4, h5⟩ := ih (putS out (max p.1 s.1) (min p.2 s.2)) h1 hC.tl (fun e he q hq => by
      have hb := hC.be q hq
      have hlt := hC.lt
      rcases h2 e he with h | h | h
      · exact ha e h q (flat_mem3 hq)
      · omega
      · omega)
    refine ⟨h4, fun x => ?_⟩
    rw [h5, h3, inE_flat_cons hl]
    have : decide (max p.1 s.1 ≤ x ∧ x < min p.2 s.2) = (decide (p.1 ≤ x ∧ x < p.2) && decide (s.1 ≤ x ∧ x < s.2)) := by
      rw [← Bool.decide_and]; congr 1; simp; omega
    rw [this]
    cases inE (flat out) x <;> cases inE (flat l) x <;> cases decide (p.1 ≤ x ∧ x < p.2) <;> cases decide (s.1 ≤ x ∧ x < s.2) <;> rfl
theorem cutJ_spec (l : List (Int × Int)) (s : Int × Int) (hs : s.1 ≤ s.2) : ∀ out, Up (flat out) → Up (flat l) → Ahd out l → Up (flat (cutJ out l s)) ∧ ∀ x, inE (flat (cutJ out l s)) x = (inE (flat out) x || (inE (flat l) x && !decide (s.1 ≤ x ∧ x < s.2))) := by
  induction l with
  | nil => intro out hu _ _; rw [cutJ]; exact ⟨hu, fun x => by simp [flat, inE]⟩
  | cons p l ih =>
    intro out hu hl ha
    have hC := upC hl
    have hlt := hC.lt
    rw [cutJ]
    obtain ⟨h1, h2, h3⟩ := putS_spec (a := p.1) (b := min p.2 s.1) hu (fun e he => ha e he p.1 flat_mem1)
    obtain ⟨g1, g2, g3⟩ := putS_spec (a := max p.1 s.2) (b := p.2) h1 (fun e he => by
      rcases h2 e he with h | h | h
      · have := ha e h p.1 flat_mem1; omega
      · omega
      · omega)
    obtain ⟨h4, h5⟩ := ih (putS (putS out p.1 (min p.2 s.1)) (max p.1 s.2) p.2) g1 hC.tl (fun e he q hq => by
      have hb := hC.be q hq
      rcases g2 e he with h | h | h
      · rcases h2 e h with h | h | h
        · exact ha e h q (flat_mem3 hq)
        · omega
        · omega
      · omega
      · omega)
    refine ⟨h4, fun x => ?_⟩
    rw [h5, g3, h3, inE_flat_cons hl]
    have : (decide (p.1 ≤ x ∧ x < min p.2 s.1) || decide (max p.1 s.2 ≤ x ∧ x < p.2)) = (decide (p.1 ≤ x ∧ x < p.2) && !decide (s.1 ≤ x ∧ x < s.2)) := by
      rw [← Bool.decide_or, ← decide_not, ← Bool.decide_and]; congr 1; simp only [eq_iff_iff]; omega
    rw [Bool.or_assoc (inE (flat out) x), this]
    cases inE (flat out) x <;> cases inE (flat l) x <;> cases decide (p.1 ≤ x ∧ x < p.2) <;> cases decide (s.1 ≤ x ∧ x < s.2) <;> rfl
theorem addJ3_spec (l : List (Int × Int)) : ∀ out, Up (flat out) → Up (flat l) → Ahd out l → Up (flat (addJ3 out l)) ∧ ∀ x, inE (flat (addJ3 out l)) x = (inE (flat out) x || inE (flat l) x) := by
  induction l with
  | nil => intro out hu _ _; rw [addJ3]; exact ⟨hu, fun x => by simp [flat, inE]⟩
  | cons p l ih =>
    intro out hu hl ha
    have hC := upC hl
    have hlt := hC.lt
    rw [addJ3]
    obtain ⟨h1, h2, h3⟩ := putS_spec (a := p.1) (b := p.2) hu (fun e he => ha e he p.1 flat_mem1)
    obtain ⟨h4, h5⟩ := ih (putS out p.1 p.2) h1 hC.tl (fun e he q hq => by
      have hb := hC.be q hq
      rcases h2 e he with h | h | h
      · exact ha e h q (flat_mem3 hq)
      · omega
      · omega)
    refine ⟨h4, fun x => ?_⟩
    rw [h5, h3, inE_flat_cons hl, Bool.or_assoc]
theorem addJ2_spec (l : List (Int × Int)) : ∀ out (s : Int × Int), Up (flat out) → Up (flat l) → Ahd out l → (∀ e ∈ flat out, e ≤ s.1) → s.1 < s.2 → (∀ p ∈ l, s.1 ≤ p.2) → Up (flat (addJ2 out l s)) ∧ ∀ x, inE (flat (addJ2 out l s)) x = (inE (flat out) x || (inE (flat l) x || decide (s.1 ≤ x ∧ x < s.2))) := by
  induction l with
  | nil =>
    intro out s hu _ _ he hs _
    rw [addJ2]
    obtain ⟨h1, h2, h3⟩ := putS_spec (a := s.1) (b := s.2) hu he
    exact ⟨h1, fun x => by rw [h3]; simp [flat, inE]⟩
  | cons p l ih =>
    intro out s hu hl ha he hs hp
    have hC := upC hl
    have hlt := hC.lt
    rw [addJ2]
    by_cases c : p.1 ≤ s.2
    · rw [if_pos c]
      have h0 := hp p (by simp)
      obtain ⟨h4, h5⟩ := ih out (min s.1 p.1, max s.2 p.2) hu hC.tl (fun e he q hq => ha e he q (flat_mem3 hq)) (fun e h => by
        have h1 := he e h
        have h2 := ha e h p.1 flat_mem1
        show e ≤ min s.1 p.1
        omega) (by show min s.1 p.1 < max s.2 p.2; omega) (fun q hq => by
        have := hp q (by simp [hq])
        show min s.1 p.1 ≤ q.2
        omega)
      refine ⟨h4, fun x => ?_⟩
      rw [h5, inE_flat_cons hl]
      have : decide (min s.1 p.1 ≤ x ∧ x < max s.2 p.2) = (decide (p.1 ≤ x ∧ x < p.2) || decide (s.1 ≤ x ∧ x < s.2)) := by
        rw [← Bool.decide_or]; congr 1; simp only [eq_iff_iff]; omega
      simp only
      rw [this]
      cases inE (flat out) x <;> cases inE (flat l) x <;> cases decide (p.1 ≤ x ∧ x < p.2) <;> cases decide (s.1 ≤ x ∧ x < s.2) <;> rfl
    · rw [if_neg c]
      obtain ⟨h1, h2, h3⟩ := putS_spec (a := s.1) (b := s.2) hu he
      obtain ⟨h4, h5⟩ := addJ3_spec (p :: l) (putS out s.1 s.2) h1 hl (fun e h q hq => by
        have hq1 : p.1 ≤ q := by
          rw [flat_cons] at hq
          rcases List.mem_cons.1 hq with rfl | hq
          · omega
          · rcases List.mem_cons.1 hq with rfl | hq
            · omega
            · have := hC.be q hq; omega
        rcases h2 e h with h | h | h
        · have := he e h; omega
        · omega
        · omega)
      refine ⟨h4, fun x => ?_⟩
      rw [h5, h3]
      cases inE (flat out) x <;> cases inE (flat (p :: l)) x <;> cases decide (s.1 ≤ x ∧ x < s.2) <;> rfl
theorem addJ1_spec (l : List (Int × Int)) (s : Int × Int) (hs : s.1 < s.2) : ∀ out, Up (flat out) → Up (flat l) → Ahd out l → (∀ e ∈ flat out, e ≤ s.1) → Up (flat (addJ1 out l s)) ∧ ∀ x, inE (flat (addJ1 out l s)) x = (inE (flat out) x || (inE (flat l) x || decide (s.1 ≤ x ∧ x < s.2))) := by
  induction l with
  | nil => intro out hu hl ha he; rw [addJ1]; exact addJ2_spec [] out s hu hl ha he hs (by simp)
  | cons p l ih =>
    intro out hu hl ha he
    have hC := upC hl
    have hlt := hC.lt
    rw [addJ1]
    by_cases c : p.2 < s.1
    · rw [if_pos c]
      obtain ⟨h1, h2, h3⟩ := putS_spec (a := p.1) (b := p.2) hu (fun e he => ha e he p.1 flat_mem1)
      obtain ⟨h4, h5⟩ := ih (putS out p.1 p.2) h1 hC.tl (fun e h q hq => by
        have hb := hC.be q hq
        rcases h2 e h with h | h | h
        · exact ha e h q (flat_mem3 hq)
        · omega
        · omega) (fun e h => by
        rcases h2 e h with h | h | h
        · exact he e h
        · omega
        · omega)
      refine ⟨h4, fun x => ?_⟩
      rw [h5, h3, inE_flat_cons hl]
      cases inE (flat out) x <;> cases inE (flat l) x <;> cases decide (p.1 ≤ x ∧ x < p.2) <;> cases decide (s.1 ≤ x ∧ x < s.2) <;> rfl
    · rw [if_neg c]
      refine addJ2_spec (p :: l) out s hu hl ha he hs fun q hq => ?_
      rcases List.mem_cons.1 hq with rfl | hq
      · omega
      · have h1 := hC.be q.2 (by unfold flat; exact List.mem_flatMap.2 ⟨q, hq, by simp⟩)
        omega
/-- 1 Add, 2 Cut, 3 Clip -/
def opD (d : Nat) : Bool → Bool → Bool := if d = 3 then opClip else if d = 2 then opCut else opAdd
theorem opD_zero (d : Nat) : opD d false false = false := by unfold opD; split; rfl; split <;> rfl
def joinR (d : Nat) (l : List (Int × Int)) (s : Int × Int) : List (Int × Int) := if d = 3 then clipJ [] l s else if d = 2 then cutJ [] l s else addJ1 [] l s
theorem joinR_spec (d : Nat) (l : List (Int × Int)) (s : Int × Int) (hl : Up (flat l)) (hs : d = 3 ∨ s.1 < s.2) : Up (flat (joinR d l s)) ∧ ∀ x, inE (flat (joinR d l s)) x = opD d (inE (flat l) x) (decide (s.1 ≤ x ∧ x < s.2)) := by
  have n1 : Up (flat []) := List.Pairwise.nil
  have n2 : Ahd [] l := fun e he => by cases he
  unfold joinR opD
  by_cases d3 : d = 3
  · rw [if_pos d3, if_pos d3]
    obtain ⟨h1, h2⟩ := clipJ_spec l s [] n1 hl n2
    exact ⟨h1, fun x => by rw [h2]; simp [flat, inE, opClip]⟩
  · have hs : s.1 < s.2 := hs.resolve_left d3
    rw [if_neg d3, if_neg d3]
    by_cases d2 : d = 2
    · rw [if_pos d2, if_pos d2]
      obtain ⟨h1, h2⟩ := cutJ_spec l s (by omega) [] n1 hl n2
      exact ⟨h1, fun x => by rw [h2]; simp [flat, inE, opCut]⟩
    · rw [if_neg d2, if_neg d2]
      obtain ⟨h1, h2⟩ := addJ1_spec l s hs [] n1 hl n2 (fun e he => by cases he)
      exact ⟨h1, fun x => by rw [h2]; simp [flat, inE, opAdd]⟩
/-- what the row y is to be -/
def nextR (d : Nat) (L : List R4) (b : Bx) (y : Int) : List (Int × Int) :=
  let s : Int × Int := if y < b.y0 ∨ b.y1 ≤ y then (0, 0) else (b.x0, b.x1)
  if s.1 < s.2 ∨ d = 3 then joinR d (refRow L y) s else refRow L y
theorem prs_inj {a b : List Int} (ha : a.length % 2 = 0) (hb : b.length % 2 = 0) (h : prs a = prs b) : a = b := by
  have := congrArg flat h
  rwa [flat_prs a ha, flat_prs b hb] at this
theorem mix_right_nil {op : Bool → Bool → Bool} (h : ∀ a, op a false = a) {l : List Int} (hl : Up l) : mix op l [] = l :=
  inE_eq (mix_up op hl List.Pairwise.nil) hl fun x => by rw [mix_in (h false) hl List.Pairwise.nil]; simp [inE, h]
theorem nextR_is (d : Nat) {bs : List Bd} {b : Bx} (hc : Can bs) (hb : BxOk b) (y : Int) : nextR d (rctsB bs) b y = prs (fRow (opD d) bs b y) := by
  have hr := hc.row y
  have hX := rowX_ok hb y
  have hfl : flat (prs (rowB bs y)) = rowB bs y := flat_prs _ hr.2
  unfold nextR
  rw [refRow_bands hc]
  have hxs : (if y < b.y0 ∨ b.y1 ≤ y then ((0, 0) : Int × Int) else (b.x0, b.x1)) = if b.ok = true ∧ b.y0 ≤ y ∧ y < b.y1 then (b.x0, b.x1) else (0, 0) := by
    cases hk : b.ok
    · have := hb.no hk
      rw [this]; simp
    · by_cases e : y < b.y0 ∨ b.y1 ≤ y
      · rw [if_pos e, if_neg (by omega)]
      · rw [if_neg e, if_pos ⟨rfl, by omega⟩]
  rw [hxs]
  have main : ∀ s : Int × Int, (d = 3 ∨ s.1 < s.2) → (∀ x, inE (rowX b y) x = decide (s.1 ≤ x ∧ x < s.2)) → joinR d (prs (rowB bs y)) s = prs (fRow (opD d) bs b y) := fun s hs hx => by
    obtain ⟨h1, h2⟩ := joinR_spec d (prs (rowB bs y)) s (by rw [hfl]; exact hr.1) hs
    have : flat (joinR d (prs (rowB bs y)) s) = fRow (opD d) bs b y := by
      refine inE_eq h1 (mix_up _ hr.1 hX.1) fun x => ?_
      rw [h2, fRow, mix_in (opD_zero d) hr.1 hX.1, hfl, hx]
    rw [← this, prs_flat]
  by_cases e : b.ok = true ∧ b.y0 ≤ y ∧ y < b.y1
  · rw [if_pos e]
    have h1 := (hb.ry e.1).1
    simp only
    rw [if_pos (.inl h1)]
    refine main _ (.inr h1) fun x => ?_
    rw [rowX_in hb, inX]
    simp [e]
  · rw [if_neg e]
    simp only
    have hx : rowX b y = [] := by rw [rowX, if_neg e]
    by_cases d3 : d = 3
    · rw [if_pos (.inr d3)]
      refine main _ (.inl d3) fun x => ?_
      rw [hx]
      simp [inE]
    · rw [if_neg (by omega), fRow, hx, mix_right_nil _ hr.1]
      intro a
      unfold opD
      rw [if_neg d3]
      split <;> simp [opCut, opAdd]
/-- the reference's loop over the rows' bounds -/
def rectSp (top y : Int) (now : List (Int × Int)) : List R4 := now.map fun p => ⟨p.1, top, p.2 - p.1, y - top⟩
def refL (nx : Int → List (Int × Int)) : List Int → List R4 → Int → List (Int × Int) → List R4
  | [], out, _, _ => out
  | [y], out, top, now => if now = [] then out else out ++ rectSp top y now
  | y :: y' :: ys, out, top, now => if now = nx y then refL nx (y' :: ys) out top now else refL nx (y' :: ys) (out ++ rectSp top y now) y (nx y)
theorem refL_is (f : Int → List Int) (hf : ∀ z, EOk (f z)) (nx : Int → List (Int × Int)) (hn : ∀ z, nx z = prs (f z)) (ys : List Int) (y : Int) : ∀ (out : List R4) (top : Int) (now : List Int), EOk now → refL nx (y :: ys) out top (prs now) = out ++ rctsB (refG f (y :: ys) top now) := by
  have pz : ∀ l : List Int, l.length % 2 = 0 → (prs l = [] ↔ l = []) := fun l hl => ⟨fun h => prs_inj hl rfl h, fun h => by rw [h]; rfl⟩
  induction ys generalizing y with
  | nil =>
    intro out top now ho
    rw [refL, refG]
    by_cases e : now = []
    · rw [if_pos ((pz now ho.2).2 e), if_pos e]; simp [rctsB]
    · rw [if_neg (fun h => e ((pz now ho.2).1 h)), if_neg e]
      simp [rctsB, rctB, rectSp]
  | cons y' ys ih =>
    intro out top now ho
    rw [refL, refG, hn]
    by_cases e : f y = now
    · rw [if_pos (by rw [e]), if_pos e, ih y' out top now ho]
    · rw [if_neg (fun h => e (prs_inj (hf y).2 ho.2 h.symm)), if_neg e, ih y' _ y (f y) (hf y)]
      by_cases e2 : now = []
      · rw [if_pos e2, e2]; simp [rectSp, prs]
      · rw [if_neg e2]
        simp [rctsB, rctB, rectSp]
theorem refG_top (f : Int → List Int) (ys : List Int) (t t' : Int) : refG f ys t [] = refG f ys t' [] := by
  induction ys with
  | nil => rfl
  | cons y ys ih =>
    cases ys with
    | nil => rw [refG, refG]; simp
    | cons y' ys =>
      rw [refG, refG]
      by_cases e : f y = []
      · rw [if_pos e, if_pos e, ih]
      · rw [if_neg e, if_neg e, if_pos rfl, if_pos rfl]
/-- the reference makes the rectangles of the bands that the program makes -/
theorem refL_chg (d : Nat) {bs : List Bd} {b : Bx} (hc : Can bs) (hb : BxOk b) (ys : List Int) (hy : ys = srtU (ysOf bs b.y0 b.y1)) : refL (nextR d (rctsB bs) b) ys [] 0 [] = rctsB (chgB (opD d) bs b) := by
  subst hy
  unfold chgB
  cases hq : srtU (ysOf bs b.y0 b.y1) with
  | nil => rfl
  | cons y ys =>
    have := refL_is (fRow (opD d) bs b) (fRow_ok (opD_zero d) hc hb) (nextR d (rctsB bs) b) (nextR_is d hc hb) ys y [] 0 [] ⟨List.Pairwise.nil, rfl⟩
    rw [show ([] : List (Int × Int)) = prs [] from rfl, this, mkBd, refG_top _ _ 0 y]
    rfl
end Go.Proofs.Ytekcheccelllcaa
namespace Go.Proofs.Ytekcheccelllcaa
set_option linter.unusedVariables false
set_option linter.unusedSimpArgs false

def zB : Bd := ⟨0, 0, []⟩
theorem rowB_drop {bs : List Bd} {z : Int} : ∀ n, n ≤ bs.length → (∀ j, j < n → (bs.getD j zB).y1 ≤ z) → rowB bs z = rowB (bs.drop n) z := by
  induction bs with
  | nil => intro n hn _; simp
  | cons b bs ih =>
    intro n hn h
    cases n with
    | zero => rfl
    | succ n =>
      have h0 : b.y1 ≤ z := h 0 (by omega)
      rw [rowB, if_neg (by omega), List.drop_succ_cons]
      exact ih n (by simp at hn; omega) fun j hj => h (j + 1) (by omega)
theorem Can.drop {bs : List Bd} (h : Can bs) : ∀ n, Can (bs.drop n) := by
  induction bs with
  | nil => intro n; simp; trivial
  | cons b bs ih =>
    intro n
    cases n with
    | zero => exact h
    | succ n => exact ih h.2.2 n
theorem dropB {bs : List Bd} {n : Nat} (h : n < bs.length) : bs.drop n = bs.getD n zB :: bs.drop (n + 1) := by
  rw [List.drop_eq_getElem_cons h, List.getD_eq_getElem?_getD, List.getElem?_eq_getElem h]; rfl
/-- where the pointer stands the row is read -/
theorem rowB_at {bs : List Bd} (hc : Can bs) {z : Int} {n : Nat} (hn : n ≤ bs.length) (hlow : ∀ j, j < n → (bs.getD j zB).y1 ≤ z) (hat : n < bs.length → z < (bs.getD n zB).y1) : rowB bs z = if n < bs.length ∧ (bs.getD n zB).y0 ≤ z then (bs.getD n zB).es else [] := by
  rw [rowB_drop n hn hlow]
  by_cases h : n < bs.length
  · have hd := hc.drop n
    rw [dropB h] at hd ⊢
    rw [rowB]
    by_cases e : (bs.getD n zB).y0 ≤ z
    · rw [if_pos ⟨e, hat h⟩, if_pos ⟨h, e⟩]
    · rw [if_neg (fun x => e x.1), if_neg (fun x => e x.2), hd.row_tail (hat h)]
  · rw [if_neg (fun x => h x.1), List.drop_eq_nil_of_le (by omega)]; rfl
theorem EOk.two {l : List Int} (h : EOk l) (hn : l ≠ []) : 2 ≤ l.length := by
  have h1 := h.2
  have : l.length ≠ 0 := fun e => hn (List.length_eq_zero_iff.1 e)
  omega
theorem Can.len {bs : List Bd} (h : Can bs) : bs.length ≤ cntB bs := by
  induction bs with
  | nil => simp
  | cons b bs ih =>
    have h1 := ih h.2.2
    have h2 := h.1.ok.two h.1.ne
    have : cntB (b :: bs) = b.es.length / 2 + cntB bs := by simp [cntB]
    rw [this, List.length_cons]
    omega
theorem cntB_append (a b : List Bd) : cntB (a ++ b) = cntB a + cntB b := by simp [cntB]
theorem insU_len (a : Int) (l : List Int) : (insU a l).length ≤ l.length + 1 := by
  induction l with
  | nil => simp [insU]
  | cons b l ih => rw [insU]; split; simp; split <;> simp; omega
theorem srtU_len (l : List Int) : (srtU l).length ≤ l.length := by
  induction l with
  | nil => simp [srtU]
  | cons a l ih => have := insU_len a (srtU l); rw [srtU] at this ih ⊢; rw [List.foldr_cons, List.length_cons]; omega
theorem ysOf_len (bs : List Bd) (y0 y1 : Int) : (ysOf bs y0 y1).length = 2 * bs.length + 2 := by
  unfold ysOf
  induction bs with
  | nil => rfl
  | cons b bs ih => simp at ih ⊢; omega
/-- all numbers lie within the plane -/
structure BIn (b : Bd) : Prop where
  t0 : -1048576 ≤ b.y0 ∧ b.y0 ≤ 1048576
  t1 : -1048576 ≤ b.y1 ∧ b.y1 ≤ 1048576
  e : ∀ x ∈ b.es, -1048576 ≤ x ∧ x ≤ 1048576
def BsIn (bs : List Bd) : Prop := ∀ b ∈ bs, BIn b
structure BxIn (b : Bx) : Prop where
  x0 : -1048576 ≤ b.x0 ∧ b.x0 ≤ 1048576
  y0 : -1048576 ≤ b.y0 ∧ b.y0 ≤ 1048576
  x1 : -1048576 ≤ b.x1 ∧ b.x1 ≤ 1048576
  y1 : -1048576 ≤ b.y1 ∧ b.y1 ≤ 1048576
theorem rowB_in {bs : List Bd} (h : BsIn bs) (z : Int) : ∀ x ∈ rowB bs z, -1048576 ≤ x ∧ x ≤ 1048576 := by
  rcases @rowB_mem bs z with e | ⟨b, h1, _, _, e⟩ <;> rw [e]
  · intro x hx; cases hx
  · exact (h b h1).e
theorem rowX_inr {b : Bx} (h : BxIn b) (z : Int) : ∀ x ∈ rowX b z, -1048576 ≤ x ∧ x ≤ 1048576 := by
  unfold rowX
  split
  · intro x hx; simp at hx; rcases hx with rfl | rfl
    · exact h.x0
    · exact h.x1
  · intro x hx; cases hx
theorem fRow_in (op : Bool → Bool → Bool) {bs : List Bd} {b : Bx} (h : BsIn bs) (hb : BxIn b) (z : Int) : ∀ x ∈ fRow op bs b z, -1048576 ≤ x ∧ x ≤ 1048576 := fun x hx => by
  rcases mix_mem hx with h1 | h1
  · exact rowB_in h z x h1
  · exact rowX_inr hb z x h1
theorem ysOf_in {bs : List Bd} {b : Bx} (h : BsIn bs) (hb : BxIn b) : ∀ y ∈ ysOf bs b.y0 b.y1, -1048576 ≤ y ∧ y ≤ 1048576 := fun y hy => by
  rcases ysOf_mem.1 hy with rfl | rfl | ⟨c, hc, rfl | rfl⟩
  · exact hb.y0
  · exact hb.y1
  · exact (h c hc).t0
  · exact (h c hc).t1
theorem refG_in (f : Int → List Int) (hf : ∀ z, ∀ x ∈ f z, -1048576 ≤ x ∧ x ≤ 1048576) (ys : List Int) (hy : ∀ y ∈ ys, -1048576 ≤ y ∧ y ≤ 1048576) (top : Int) (now : List Int) (ht : -1048576 ≤ top ∧ top ≤ 1048576) (hn : ∀ x ∈ now, -1048576 ≤ x ∧ x ≤ 1048576) : BsIn (refG f ys top now) := by
  induction ys generalizing top now with
  | nil => intro b hb; cases hb
  | cons y ys ih =>
    have hy0 := hy y (by simp)
    have hy1 : ∀ z ∈ ys, -1048576 ≤ z ∧ z ≤ 1048576 := fun z hz => hy z (by simp [hz])
    cases ys with
    | nil =>
      rw [refG]
      split
      · intro b hb; cases hb
      · intro b hb; simp at hb; subst hb; exact ⟨ht, hy0, hn⟩
    | cons y' ys =>
      rw [refG]
      split
      · exact ih hy1 top now ht hn
      · split
        · exact ih hy1 y (f y) hy0 (hf y)
        · intro b hb
          rcases List.mem_cons.1 hb with rfl | hb
          · exact ⟨ht, hy0, hn⟩
          · exact ih hy1 y (f y) hy0 (hf y) b hb
theorem chgB_in_plane (op : Bool → Bool → Bool) {bs : List Bd} {b : Bx} (h : BsIn bs) (hb : BxIn b) : BsIn (chgB op bs b) := by
  unfold chgB
  have hs : ∀ y ∈ srtU (ysOf bs b.y0 b.y1), -1048576 ≤ y ∧ y ≤ 1048576 := fun y hy => ysOf_in h hb y ((srtU_mem _ y).1 hy)
  cases hq : srtU (ysOf bs b.y0 b.y1) with
  | nil => intro b hb; cases hb
  | cons y ys =>
    rw [hq] at hs
    exact refG_in _ (fRow_in op h hb) _ hs y [] (hs y (by simp)) (fun x hx => by cases hx)
/-- a step of the loop -/
theorem goB_step (f : Int → List Int) {ys : List Int} {i : Nat} (out : List Bd) (h : i + 1 < ys.length) : goB f (ys.drop i) out = goB f (ys.drop (i + 1)) (pushB out (ys.getD i 0) (ys.getD (i + 1) 0) (f (ys.getD i 0))) := by
  have e1 : ys.drop i = ys.getD i 0 :: ys.drop (i + 1) := by rw [List.drop_eq_getElem_cons (by omega), List.getD_eq_getElem?_getD, List.getElem?_eq_getElem (by omega)]; rfl
  have e2 : ys.drop (i + 1) = ys.getD (i + 1) 0 :: ys.drop (i + 1 + 1) := by rw [List.drop_eq_getElem_cons h, List.getD_eq_getElem?_getD, List.getElem?_eq_getElem h]; rfl
  rw [e1, e2, goB]
theorem goB_end (f : Int → List Int) {ys : List Int} {i : Nat} (out : List Bd) (h : ys.length ≤ i + 1) : goB f (ys.drop i) out = out := by
  rcases hq : ys.drop i with _ | ⟨y, _ | ⟨y', t⟩⟩
  · rfl
  · rfl
  · have := congrArg List.length hq
    simp at this
    omega
theorem up_getD {ys : List Int} (h : Up ys) {i j : Nat} (hij : i < j) (hj : j < ys.length) : ys.getD i 0 < ys.getD j 0 := by
  have := List.pairwise_iff_getElem.1 h i j (by omega) hj hij
  simpa [List.getD_eq_getElem?_getD, hj, show i < ys.length by omega] using this
/-- how many rectangles a step adds -/
theorem pushB_len (out : List Bd) (y0 y1 : Int) (now : List Int) : (pushB out y0 y1 now).length ≤ out.length + 1 := by
  unfold pushB
  split
  · omega
  · split
    · simp
    · split
      · rename_i b h _
        have : out ≠ [] := fun e => by rw [e] at h; cases h
        have := List.length_pos_iff.2 this
        simp <;> omega
      · simp
end Go.Proofs.Ytekcheccelllcaa
namespace Go.Proofs.Ytekcheccelllcaa
set_option linter.unusedVariables false
set_option linter.unusedSimpArgs false

/-- all bounds and ends are out of at most 2 k numbers each -/
def Nums (bs : List Bd) (k : Nat) : Prop := ∃ Y X : List Int, Y.length ≤ 2 * k ∧ X.length ≤ 2 * k ∧ (∀ b ∈ bs, b.y0 ∈ Y ∧ b.y1 ∈ Y) ∧ ∀ b ∈ bs, ∀ x ∈ b.es, x ∈ X
theorem nums_nil : Nums [] 0 := ⟨[], [], by simp, by simp, fun b hb => (by cases hb), fun b hb => (by cases hb)⟩
theorem refG_mem (f : Int → List Int) (ys : List Int) (top : Int) (now : List Int) : ∀ b ∈ refG f ys top now, (b.y0 = top ∨ b.y0 ∈ ys) ∧ b.y1 ∈ ys ∧ (b.es = now ∨ ∃ y, b.es = f y) := by
  induction ys generalizing top now with
  | nil => intro b hb; cases hb
  | cons y ys ih =>
    cases ys with
    | nil =>
      rw [refG]
      split
      · intro b hb; cases hb
      · intro b hb; simp at hb; subst hb; exact ⟨.inl rfl, by simp, .inl rfl⟩
    | cons y' ys =>
      rw [refG]
      split
      · intro b hb
        obtain ⟨h1, h2, h3⟩ := ih top now b hb
        exact ⟨h1.imp id fun h => List.mem_cons_of_mem _ h, List.mem_cons_of_mem _ h2, h3⟩
      · have key : ∀ b ∈ refG f (y' :: ys) y (f y), (b.y0 = top ∨ b.y0 ∈ y :: y' :: ys) ∧ b.y1 ∈ y :: y' :: ys ∧ (b.es = now ∨ ∃ z, b.es = f z) := fun b hb => by
          obtain ⟨h1, h2, h3⟩ := ih y (f y) b hb
          refine ⟨.inr ?_, List.mem_cons_of_mem _ h2, .inr (h3.elim (fun h => ⟨y, h⟩) id)⟩
          rcases h1 with h | h
          · rw [h]; simp
          · exact List.mem_cons_of_mem _ h
        split
        · exact key
        · intro b hb
          rcases List.mem_cons.1 hb with rfl | hb
          · exact ⟨.inl rfl, by simp, .inl rfl⟩
          · exact key b hb
theorem nums_chg (op : Bool → Bool → Bool) {bs : List Bd} {k : Nat} (h : Nums bs k) (b : Bx) : Nums (chgB op bs b) (k + 1) := by
  obtain ⟨Y, X, hY, hX, h1, h2⟩ := h
  have hys : ∀ y ∈ srtU (ysOf bs b.y0 b.y1), y ∈ b.y0 :: b.y1 :: Y := fun y hy => by
    rcases ysOf_mem.1 ((srtU_mem _ y).1 hy) with rfl | rfl | ⟨c, hc, rfl | rfl⟩
    · simp
    · simp
    · simp [(h1 c hc).1]
    · simp [(h1 c hc).2]
  have hf : ∀ z, ∀ x ∈ fRow op bs b z, x ∈ b.x0 :: b.x1 :: X := fun z x hx => by
    rcases mix_mem hx with h | h
    · rcases @rowB_mem bs z with e | ⟨c, hc, _, _, e⟩
      · rw [e] at h; cases h
      · rw [e] at h; simp [h2 c hc x h]
    · unfold rowX at h
      split at h
      · simp at h; rcases h with rfl | rfl <;> simp
      · cases h
  refine ⟨b.y0 :: b.y1 :: Y, b.x0 :: b.x1 :: X, by simp; omega, by simp; omega, ?_, ?_⟩
  all_goals
    unfold chgB
    cases hq : srtU (ysOf bs b.y0 b.y1) with
    | nil => intro c hc; cases hc
    | cons y ys =>
      rw [hq] at hys
      intro c hc
      obtain ⟨g1, g2, g3⟩ := refG_mem _ _ _ _ c hc
      first
        | exact ⟨g1.elim (fun e => by rw [e]; exact hys y (by simp)) (fun e => hys _ e), hys _ g2⟩
        | (intro x hx
           rcases g3 with e | ⟨z, e⟩
           · rw [e] at hx; cases hx
           · rw [e] at hx; exact hf z x hx)
theorem up_sub_len {a : List Int} : ∀ {Y : List Int}, Up a → (∀ x ∈ a, x ∈ Y) → a.length ≤ Y.length := by
  induction a with
  | nil => intro Y _ _; simp
  | cons x a ih =>
    intro Y hu hs
    have hU := List.pairwise_cons.1 hu
    have hx := hs x (by simp)
    have := ih (Y := Y.erase x) hU.2 fun z hz => by
      have h1 := hU.1 z hz
      exact (List.mem_erase_of_ne (by omega)).2 (hs z (by simp [hz]))
    rw [List.length_erase_of_mem hx] at this
    have hp := List.length_pos_of_mem hx
    rw [List.length_cons]
    omega
theorem Can.ups {bs : List Bd} (h : Can bs) (hne : bs ≠ []) : ∃ t, t ∈ bs.map (·.y1) ∧ Up (bs.map (·.y0) ++ [t]) := by
  induction bs with
  | nil => exact absurd rfl hne
  | cons b bs ih =>
    cases bs with
    | nil =>
      refine ⟨b.y1, by simp, ?_⟩
      have := h.1.yy
      exact List.pairwise_cons.2 ⟨fun c hc => by simp at hc; subst hc; exact this, List.pairwise_singleton _ _⟩
    | cons c bs =>
      obtain ⟨t, h1, h2⟩ := ih h.2.2 (by simp)
      refine ⟨t, List.mem_cons_of_mem _ h1, ?_⟩
      rw [List.map_cons, List.cons_append]
      refine List.pairwise_cons.2 ⟨fun x hx => ?_, h2⟩
      have hb := h.1.yy
      have hlt := h.lt
      rcases List.mem_append.1 hx with hx | hx
      · obtain ⟨d, hd, rfl⟩ := List.mem_map.1 hx
        have := hlt d hd; omega
      · rw [List.mem_singleton] at hx
        subst hx
        obtain ⟨d, hd, rfl⟩ := List.mem_map.1 h1
        have h3 := hlt d hd
        have h4 := (h.2.2.ok d hd).yy
        omega
theorem sum_le (bs : List Bd) (k : Nat) (h : ∀ b ∈ bs, b.es.length / 2 ≤ k) : cntB bs ≤ bs.length * k := by
  induction bs with
  | nil => simp [cntB]
  | cons b bs ih =>
    have e : cntB (b :: bs) = b.es.length / 2 + cntB bs := by simp [cntB]
    have h1 := ih fun c hc => h c (by simp [hc])
    have h2 := h b (by simp)
    rw [e, List.length_cons, Nat.succ_mul]
    omega
theorem nums_cnt {bs : List Bd} {k : Nat} (hc : Can bs) (h : Nums bs k) : cntB bs ≤ (2 * k - 1) * k := by
  by_cases hne : bs = []
  · subst hne; simp [cntB]
  · obtain ⟨Y, X, hY, hX, h1, h2⟩ := h
    obtain ⟨t, ht, hu⟩ := hc.ups hne
    have hl := up_sub_len (Y := Y) hu fun x hx => by
      rcases List.mem_append.1 hx with hx | hx
      · obtain ⟨d, hd, rfl⟩ := List.mem_map.1 hx; exact (h1 d hd).1
      · rw [List.mem_singleton] at hx
        subst hx
        obtain ⟨d, hd, rfl⟩ := List.mem_map.1 ht; exact (h1 d hd).2
    simp at hl
    have hs := sum_le bs k fun b hb => by
      have := up_sub_len (Y := X) (hc.ok b hb).ok.1 (h2 b hb)
      omega
    exact Nat.le_trans hs (Nat.mul_le_mul_right k (by omega))
def enoughB (k : Nat) : Bool := decide (1000 < k) || decide (1024 < (2 * k - 1) * k)
theorem enough_mono {i k : Nat} (h : enoughB i = true) (hik : i ≤ k) : enoughB k = true := by
  unfold enoughB at *
  simp at *
  rcases h with h | h
  · exact .inl (by omega)
  · refine .inr (Nat.lt_of_lt_of_le h ?_)
    exact Nat.mul_le_mul (by omega) hik
theorem enough_of {bs : List Bd} {k : Nat} (hc : Can bs) (h : Nums bs k) (hf : 1024 < cntB bs) : enoughB k = true := by
  have := nums_cnt hc h
  unfold enoughB
  simp
  exact .inr (by omega)
end Go.Proofs.Ytekcheccelllcaa
namespace Go.Proofs.Ytekcheccelllcaa
set_option linter.unusedVariables false
set_option linter.unusedSimpArgs false

/-- a cell within a rectangle of its own form -/
def withinR (r : R4) (x y : Int) : Bool := decide (r.x ≤ x ∧ x < r.x + r.w ∧ r.y ≤ y ∧ y < r.y + r.h)
theorem prs_in : ∀ (l : List Int), Up l → l.length % 2 = 0 → ∀ x, inE l x = (prs l).any fun p => decide (p.1 ≤ x ∧ x < p.2)
  | [], _, _, x => rfl
  | [a], _, h, x => by simp at h
  | a :: b :: l, hu, h, x => by
    have h1 := List.pairwise_cons.1 hu
    have h2 := List.pairwise_cons.1 h1.2
    have ih := prs_in l h2.2 (by simp at h; omega) x
    rw [prs, List.any_cons, ← ih]
    simp only [inE]
    have hab := h1.1 b (by simp)
    by_cases e1 : x < a
    · rw [if_pos e1, inE_lt fun c hc => by have := h1.1 c (by simp [hc]); omega]
      simp; omega
    · rw [if_neg e1]
      by_cases e2 : x < b
      · rw [if_pos e2, inE_lt fun c hc => by have := h2.1 c hc; omega]
        simp; omega
      · rw [if_neg e2]
        have : ¬ (a ≤ x ∧ x < b) := by omega
        simp [this]
theorem rctB_in (b : Bd) (ho : EOk b.es) (x y : Int) : (rctB b).any (fun r => withinR r x y) = (decide (b.y0 ≤ y ∧ y < b.y1) && inE b.es x) := by
  rw [prs_in _ ho.1 ho.2, rctB, List.any_map]
  generalize prs b.es = l
  induction l with
  | nil => simp
  | cons p l ih =>
    rw [List.any_cons, List.any_cons, ih]
    have : ((fun r => withinR r x y) ∘ fun p : Int × Int => (⟨p.1, b.y0, p.2 - p.1, b.y1 - b.y0⟩ : R4)) p = (decide (b.y0 ≤ y ∧ y < b.y1) && decide (p.1 ≤ x ∧ x < p.2)) := by
      show decide _ = _
      rw [← Bool.decide_and]
      congr 1
      simp only [eq_iff_iff]
      omega
    rw [this]
    cases decide (b.y0 ≤ y ∧ y < b.y1) <;> simp
theorem rctsB_in {bs : List Bd} (h : Can bs) (x y : Int) : (rctsB bs).any (fun r => withinR r x y) = inB bs x y := by
  induction bs with
  | nil => rfl
  | cons b bs ih =>
    have e : rctsB (b :: bs) = rctB b ++ rctsB bs := by simp [rctsB]
    rw [e, List.any_append, rctB_in b h.1.ok, ih h.2.2, inB, inB, rowB]
    by_cases hy : b.y0 ≤ y ∧ y < b.y1
    · rw [if_pos hy, h.row_tail hy.2]
      simp [hy, inE]
    · rw [if_neg hy]
      simp [hy]
end Go.Proofs.Ytekcheccelllcaa
namespace Go.Proofs.Ytekcheccelllcaa
set_option linter.unusedVariables false
set_option linter.unusedSimpArgs false

/-- bands one below the other -/
structure Ord (bs : List Bd) : Prop where
  ok : ∀ b ∈ bs, BOk b
  st : bs.Pairwise fun a b => a.y1 ≤ b.y0
theorem Ord.tail {b : Bd} {bs : List Bd} (h : Ord (b :: bs)) : Ord bs := ⟨fun c hc => h.ok c (by simp [hc]), (List.pairwise_cons.1 h.st).2⟩
theorem Can.ord {bs : List Bd} (h : Can bs) : Ord bs := by
  induction bs with
  | nil => exact ⟨fun b hb => (by cases hb), List.Pairwise.nil⟩
  | cons b bs ih => exact ⟨h.ok, List.pairwise_cons.2 ⟨fun c hc => h.lt c hc, (ih h.2.2).st⟩⟩
def glue (b : Bd) : List Bd → List Bd
  | [] => [b]
  | c :: cs => if b.y1 = c.y0 ∧ b.es = c.es then ⟨b.y0, c.y1, b.es⟩ :: cs else b :: c :: cs
def mergeL : List Bd → List Bd
  | [] => []
  | b :: bs => glue b (mergeL bs)
theorem glue_first (b : Bd) (l : List Bd) : ∀ c ∈ glue b l, c.y0 = b.y0 ∨ c ∈ l := by
  intro c hc
  cases l with
  | nil => simp [glue] at hc; exact .inl (by rw [hc])
  | cons d l =>
    rw [glue] at hc
    split at hc
    · rcases List.mem_cons.1 hc with rfl | hc
      · exact .inl rfl
      · exact .inr (by simp [hc])
    · rcases List.mem_cons.1 hc with rfl | hc
      · exact .inl rfl
      · exact .inr hc
theorem mergeL_y0 (bs : List Bd) : ∀ c ∈ mergeL bs, ∃ d ∈ bs, c.y0 = d.y0 := by
  induction bs with
  | nil => intro c hc; cases hc
  | cons b bs ih =>
    intro c hc
    rcases glue_first b _ c hc with h | h
    · exact ⟨b, by simp, h⟩
    · obtain ⟨d, hd, e⟩ := ih c h
      exact ⟨d, by simp [hd], e⟩
theorem glue_can {b : Bd} {l : List Bd} (hb : BOk b) (hl : Can l) (h : ∀ c ∈ l, b.y1 ≤ c.y0) : Can (glue b l) ∧ (∀ z, rowB (glue b l) z = rowB (b :: l) z) ∧ cntB (glue b l) ≤ b.es.length / 2 + cntB l := by
  have e0 : ∀ (b : Bd) (l : List Bd), cntB (b :: l) = b.es.length / 2 + cntB l := fun b l => by simp [cntB]
  cases l with
  | nil => exact ⟨⟨hb, trivial, trivial⟩, fun z => rfl, by rw [glue, e0]; exact Nat.le_refl _⟩
  | cons c l =>
    have hc := h c (by simp)
    rw [glue]
    split
    · rename_i he
      have h1 := hb.yy
      have h2 := hl.1.yy
      refine ⟨⟨⟨by show b.y0 < c.y1; omega, hb.ne, hb.ok⟩, ?_, hl.2.2⟩, fun z => ?_, by rw [e0, e0]; show b.es.length / 2 + _ ≤ _; omega⟩
      · have := hl.2.1
        cases l with
        | nil => trivial
        | cons d l => exact ⟨this.1, fun e => by rw [he.2]; exact this.2 e⟩
      · simp only [rowB]
        by_cases q1 : b.y0 ≤ z ∧ z < b.y1
        · rw [if_pos (by omega), if_pos q1]
        · rw [if_neg q1]
          by_cases q2 : c.y0 ≤ z ∧ z < c.y1
          · rw [if_pos (by omega), if_pos q2, he.2]
          · rw [if_neg (by omega), if_neg q2]
    · rename_i he
      exact ⟨⟨hb, ⟨hc, fun e e2 => he ⟨e, e2⟩⟩, hl⟩, fun z => rfl, by rw [e0]; exact Nat.le_refl _⟩
theorem mergeL_spec {bs : List Bd} (h : Ord bs) : Can (mergeL bs) ∧ (∀ z, rowB (mergeL bs) z = rowB bs z) ∧ cntB (mergeL bs) ≤ cntB bs := by
  induction bs with
  | nil => exact ⟨trivial, fun z => rfl, Nat.le_refl _⟩
  | cons b bs ih =>
    obtain ⟨h1, h2, h3⟩ := ih h.tail
    have hst := (List.pairwise_cons.1 h.st).1
    obtain ⟨g1, g2, g3⟩ := glue_can (h.ok b (by simp)) h1 fun c hc => by
      obtain ⟨d, hd, e⟩ := mergeL_y0 bs c hc
      have := hst d hd; omega
    refine ⟨g1, fun z => ?_, ?_⟩
    · rw [mergeL, g2, rowB, rowB, h2]
    · have e0 : cntB (b :: bs) = b.es.length / 2 + cntB bs := by simp [cntB]
      rw [mergeL, e0]; omega
/-- bands that have the rows of a canonical list are it, put together -/
theorem merge_uniq {a bs : List Bd} (ha : Can a) (h : Ord bs) (hr : ∀ z, rowB a z = rowB bs z) : a = mergeL bs := by
  obtain ⟨h1, h2, _⟩ := mergeL_spec h
  exact ha.uniq h1 fun z => by rw [hr, h2]
end Go.Proofs.Ytekcheccelllcaa
namespace Go.Proofs.Ytekcheccelllcaa
set_option linter.unusedVariables false
set_option linter.unusedSimpArgs false

theorem putS_len (out : List (Int × Int)) (a b : Int) : (putS out a b).length ≤ out.length + 1 := by
  unfold putS
  split
  · omega
  · split
    · simp
    · rename_i p h
      split
      · have : out ≠ [] := fun e => by rw [e] at h; cases h
        have := List.length_pos_iff.2 this
        simp <;> omega
      · simp
theorem clipJ_len (l : List (Int × Int)) (s : Int × Int) : ∀ out, (clipJ out l s).length ≤ out.length + l.length := by
  induction l with
  | nil => intro out; rw [clipJ]; simp
  | cons p l ih =>
    intro out
    rw [clipJ]
    have h1 := ih (putS out (max p.1 s.1) (min p.2 s.2))
    have h2 := putS_len out (max p.1 s.1) (min p.2 s.2)
    rw [List.length_cons]
    omega
theorem flat_len (l : List (Int × Int)) : (flat l).length = 2 * l.length := by
  induction l with
  | nil => rfl
  | cons p l ih => rw [flat_cons]; simp; omega
/-- a row that is clipped has no more spans -/
theorem clip_len {l : List Int} (hl : EOk l) {a b : Int} (hab : a < b) : (mix opClip l [a, b]).length ≤ l.length := by
  have hX : Up [a, b] := List.pairwise_cons.2 ⟨fun c hc => by simp at hc; omega, List.pairwise_cons.2 ⟨fun c hc => (by cases hc), List.Pairwise.nil⟩⟩
  have hf : flat (prs l) = l := flat_prs l hl.2
  obtain ⟨h1, h2⟩ := joinR_spec 3 (prs l) (a, b) (by rw [hf]; exact hl.1) (.inl rfl)
  have e : flat (joinR 3 (prs l) (a, b)) = mix opClip l [a, b] := by
    refine inE_eq h1 (mix_up _ hl.1 hX) fun x => ?_
    rw [h2, mix_in rfl hl.1 hX, hf]
    have : inE [a, b] x = decide (a ≤ x ∧ x < b) := by
      simp only [inE]
      by_cases e1 : x < a
      · rw [if_pos e1]; simp; omega
      · rw [if_neg e1]
        by_cases e2 : x < b
        · rw [if_pos e2]; simp; omega
        · rw [if_neg e2]; simp; omega
    rw [this]
    rfl
  rw [← e, flat_len]
  have h3 := clipJ_len (prs l) (a, b) []
  rw [prs_len] at h3
  have : joinR 3 (prs l) (a, b) = clipJ [] (prs l) (a, b) := rfl
  rw [this]
  have := hl.2
  simp at h3
  omega
def clipD (b : Bx) (d : Bd) : Option Bd := if max d.y0 b.y0 < min d.y1 b.y1 ∧ mix opClip d.es [b.x0, b.x1] ≠ [] then some ⟨max d.y0 b.y0, min d.y1 b.y1, mix opClip d.es [b.x0, b.x1]⟩ else none
theorem clip_two {b : Bx} (hx : b.x0 < b.x1) : EOk [b.x0, b.x1] := ⟨List.pairwise_cons.2 ⟨fun c hc => by simp at hc; omega, List.pairwise_cons.2 ⟨fun c hc => (by cases hc), List.Pairwise.nil⟩⟩, by simp⟩
theorem clipL_ord {b : Bx} (hx : b.x0 < b.x1) {bs : List Bd} (h : Ord bs) : Ord (bs.filterMap (clipD b)) ∧ cntB (bs.filterMap (clipD b)) ≤ cntB bs := by
  have e0 : ∀ (b : Bd) (l : List Bd), cntB (b :: l) = b.es.length / 2 + cntB l := fun b l => by simp [cntB]
  induction bs with
  | nil => exact ⟨⟨fun c hc => (by cases hc), List.Pairwise.nil⟩, Nat.le_refl _⟩
  | cons d bs ih =>
    obtain ⟨h1, h2⟩ := ih h.tail
    rw [List.filterMap_cons]
    unfold clipD
    split
    · rename_i hq
      exact ⟨h1, by rw [e0]; unfold clipD at h2; omega⟩
    · rename_i c hq
      split at hq
      · rename_i hc
        injection hq with hq
        subst hq
        have hd := h.ok d (by simp)
        have hst := (List.pairwise_cons.1 h.st).1
        refine ⟨⟨fun e he => ?_, List.pairwise_cons.2 ⟨fun e he => ?_, h1.st⟩⟩, ?_⟩
        · rcases List.mem_cons.1 he with rfl | he
          · exact ⟨hc.1, hc.2, ⟨mix_up _ hd.ok.1 (clip_two hx).1, mix_even rfl hd.ok.1 (clip_two hx).1 hd.ok.2 (clip_two hx).2⟩⟩
          · exact h1.ok e he
        · obtain ⟨d2, hd2, hq2⟩ := List.mem_filterMap.1 he
          split at hq2
          · injection hq2 with hq2
            subst hq2
            have := hst d2 hd2
            show min d.y1 b.y1 ≤ max d2.y0 b.y0
            omega
          · cases hq2
        · rw [e0, e0]
          have h3 := clip_len hd.ok (a := b.x0) (b := b.x1) hx
          unfold clipD at h2
          show (mix opClip d.es [b.x0, b.x1]).length / 2 + _ ≤ _
          omega
      · cases hq
theorem clip_none (a : List Int) (ha : Up a) : mix opClip a [] = [] := inE_eq (mix_up _ ha List.Pairwise.nil) List.Pairwise.nil fun x => by rw [mix_in rfl ha List.Pairwise.nil]; simp [inE, opClip]
theorem nil_clip (a : List Int) (ha : Up a) : mix opClip [] a = [] := inE_eq (mix_up _ List.Pairwise.nil ha) List.Pairwise.nil fun x => by rw [mix_in rfl List.Pairwise.nil ha]; simp [inE, opClip]
theorem clipL_row {b : Bx} (hk : b.ok = true) (hx : b.x0 < b.x1) {bs : List Bd} (h : Ord bs) (z : Int) : rowB (bs.filterMap (clipD b)) z = fRow opClip bs b z := by
  have hX : rowX b z = if b.y0 ≤ z ∧ z < b.y1 then [b.x0, b.x1] else [] := by
    unfold rowX
    simp [hk]
  induction bs with
  | nil =>
    rw [fRow, rowB]
    show [] = mix opClip [] _
    rw [hX]
    split
    · exact (nil_clip _ (clip_two hx).1).symm
    · exact (mix_nil _).symm
  | cons d bs ih =>
    have hd := h.ok d (by simp)
    have hst := (List.pairwise_cons.1 h.st).1
    have i2 := ih h.tail
    have tail0 : d.y0 ≤ z → z < d.y1 → rowB bs z = [] := fun _ h2 => rowB_low fun c hc => by have := hst c hc; omega
    rw [fRow, rowB, List.filterMap_cons]
    by_cases hz : d.y0 ≤ z ∧ z < d.y1
    · rw [if_pos hz, hX]
      have t0 := tail0 hz.1 hz.2
      rw [fRow, t0] at i2
      by_cases hb : b.y0 ≤ z ∧ z < b.y1
      · rw [if_pos hb]
        unfold clipD
        by_cases hm : mix opClip d.es [b.x0, b.x1] = []
        · rw [if_neg (fun e => e.2 hm), hm]
          show rowB (bs.filterMap (clipD b)) z = []
          rw [i2, hX, if_pos hb, nil_clip _ (clip_two hx).1]
        · rw [if_pos ⟨by omega, hm⟩]
          simp only
          rw [rowB, if_pos (by simp only; omega)]
      · rw [if_neg hb, clip_none _ hd.ok.1]
        rw [hX, if_neg hb, mix_nil] at i2
        unfold clipD
        split
        · exact i2
        · rename_i c hq
          split at hq
          · injection hq with hq
            subst hq
            rw [rowB, if_neg (by simp only; omega)]
            exact i2
          · cases hq
    · rw [if_neg hz]
      rw [fRow] at i2
      unfold clipD
      split
      · exact i2
      · rename_i c hq
        split at hq
        · injection hq with hq
          subst hq
          rw [rowB, if_neg (by simp only; omega)]
          exact i2
        · cases hq
/-- a clip is never refused -/
theorem clip_few {bs : List Bd} {b : Bx} (hc : Can bs) (hb : BxOk b) : cntB (chgB opClip bs b) ≤ cntB bs := by
  cases hk : b.ok
  · have : ∀ z, rowB (chgB opClip bs b) z = rowB [] z := fun z => by
      rw [chgB_row, fRow, rowX, if_neg (by simp [hk]), clip_none _ (hc.row z).1]; rfl
    rw [(chgB_can rfl hc hb).uniq (b := []) trivial this]
    simp [cntB]
  · have hx := (hb.ry hk).1
    obtain ⟨h1, h2⟩ := clipL_ord hx hc.ord
    have e := merge_uniq (chgB_can rfl hc hb) h1 fun z => by rw [chgB_row, clipL_row hk hx hc.ord]
    rw [e]
    exact Nat.le_trans (mergeL_spec h1).2.2 h2
end Go.Proofs.Ytekcheccelllcaa
namespace Go.Proofs.Ytekcheccelllcaa
set_option linter.unusedVariables false
set_option linter.unusedSimpArgs false

theorem rctsB_cons (b : Bd) (bs : List Bd) : rctsB (b :: bs) = rctB b ++ rctsB bs := by simp [rctsB]
theorem Ord.in {bs : List Bd} (h : Ord bs) (x y : Int) : (rctsB bs).any (fun r => withinR r x y) = inB bs x y := by
  induction bs with
  | nil => rfl
  | cons b bs ih =>
    have hst := (List.pairwise_cons.1 h.st).1
    rw [rctsB_cons, List.any_append, rctB_in b (h.ok b (by simp)).ok, ih h.tail, inB, inB, rowB]
    by_cases hy : b.y0 ≤ y ∧ y < b.y1
    · rw [if_pos hy, rowB_low fun c hc => by have := hst c hc; omega]
      simp [hy, inE]
    · rw [if_neg hy]
      simp [hy]
theorem prs_take : ∀ (l : List Int) (k : Nat), (prs l).take k = prs (l.take (2 * k))
  | [], k => by simp [prs]
  | [a], 0 => by simp [prs]
  | [a], k + 1 => by rw [show 2 * (k + 1) = 2 * k + 1 + 1 from by omega]; simp [prs]
  | a :: b :: l, 0 => by simp [prs]
  | a :: b :: l, k + 1 => by
    rw [show 2 * (k + 1) = 2 * k + 1 + 1 from by omega, List.take_succ_cons, List.take_succ_cons, prs, prs, List.take_succ_cons, prs_take l k]
/-- the first rectangles of a region are a region's -/
theorem first_rects {bs : List Bd} (h : Ord bs) : ∀ k, ∃ P, Ord P ∧ rctsB P = (rctsB bs).take k ∧ ∀ c ∈ P, ∃ d ∈ bs, d.y0 = c.y0 := by
  induction bs with
  | nil => intro k; exact ⟨[], h, by simp [rctsB], fun c hc => (by cases hc)⟩
  | cons b bs ih =>
    intro k
    have hb := h.ok b (by simp)
    have hst := (List.pairwise_cons.1 h.st).1
    by_cases hk : (rctB b).length ≤ k
    · obtain ⟨P, h1, h2, h3⟩ := ih h.tail (k - (rctB b).length)
      refine ⟨b :: P, ⟨fun c hc => ?_, List.pairwise_cons.2 ⟨fun c hc => ?_, h1.st⟩⟩, ?_, fun c hc => ?_⟩
      · rcases List.mem_cons.1 hc with rfl | hc
        · exact hb
        · exact h1.ok c hc
      · obtain ⟨d, hd, e⟩ := h3 c hc
        have := hst d hd; omega
      · rw [rctsB_cons, rctsB_cons, List.take_append, List.take_of_length_le hk, h2]
      · rcases List.mem_cons.1 hc with rfl | hc
        · exact ⟨c, by simp, rfl⟩
        · obtain ⟨d, hd, e⟩ := h3 c hc
          exact ⟨d, by simp [hd], e⟩
    · by_cases h0 : k = 0
      · subst h0
        exact ⟨[], ⟨fun c hc => (by cases hc), List.Pairwise.nil⟩, by simp [rctsB], fun c hc => (by cases hc)⟩
      · have hl : (rctB b).length = b.es.length / 2 := by rw [rctB, List.length_map, prs_len]
        have hev := hb.ok.2
        refine ⟨[⟨b.y0, b.y1, b.es.take (2 * k)⟩], ⟨fun c hc => ?_, List.pairwise_cons.2 ⟨fun c hc => (by cases hc), List.Pairwise.nil⟩⟩, ?_, fun c hc => ?_⟩
        · rw [List.mem_singleton] at hc
          subst hc
          refine ⟨hb.yy, fun e => ?_, hb.ok.1.sublist (List.take_sublist _ _), ?_⟩
          · have := congrArg List.length e
            simp at this
            rcases this with h | h
            · omega
            · exact hb.ne h
          · rw [List.length_take]; omega
        · rw [rctsB_cons, rctsB_cons, List.take_append_of_le_length (by omega), rctB, rctB, ← List.map_take, prs_take]
          simp [rctsB]
        · rw [List.mem_singleton] at hc
          subst hc
          exact ⟨b, by simp, rfl⟩
end Go.Proofs.Ytekcheccelllcaa
