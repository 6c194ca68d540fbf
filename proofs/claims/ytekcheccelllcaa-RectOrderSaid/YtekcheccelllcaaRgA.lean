/- Regions of cells: rows as rising lists of ends; what mixed makes of two; plain laws. -/
namespace Go.Proofs.Ytekcheccelllcaa
set_option linter.unusedVariables false
set_option linter.unusedSimpArgs false

/-- whether column x lies in a row of which the ends are told -/
def inE : List Int → Int → Bool
  | [], _ => false
  | a :: l, x => if x < a then false else !(inE l x)
/-- rising -/
def Up (l : List Int) : Prop := l.Pairwise (· < ·)
theorem inE_lt {l : List Int} {x : Int} (h : ∀ a ∈ l, x < a) : inE l x = false := by
  cases l with
  | nil => rfl
  | cons a l => simp [inE, h a (by simp)]
theorem inE_at {a : Int} {l : List Int} (h : Up (a :: l)) : inE (a :: l) a = true := by
  have := List.pairwise_cons.1 h
  simp [inE, inE_lt this.1]
theorem inE_eq {a b : List Int} (ha : Up a) (hb : Up b) (h : ∀ x, inE a x = inE b x) : a = b := by
  induction a generalizing b with
  | nil =>
    cases b with
    | nil => rfl
    | cons y bs => have := h y; rw [inE_at hb] at this; cases this
  | cons x as ih =>
    cases b with
    | nil => have := h x; rw [inE_at ha] at this; cases this
    | cons y bs =>
      have hA := List.pairwise_cons.1 ha
      have hB := List.pairwise_cons.1 hb
      have hxy : x = y := by
        have h1 := h x
        have h2 := h y
        rw [inE_at ha] at h1
        rw [inE_at hb] at h2
        have e1 : ¬ x < y := by intro hlt; rw [inE, if_pos hlt] at h1; cases h1
        have e2 : ¬ y < x := by intro hlt; rw [inE, if_pos hlt] at h2; cases h2
        omega
      subst hxy
      rw [ih hA.2 hB.2 fun z => ?_]
      by_cases hz : z < x
      · rw [inE_lt fun a h => by have := hA.1 a h; omega, inE_lt fun a h => by have := hB.1 a h; omega]
      · have := h z
        rw [inE, inE, if_neg hz, if_neg hz] at this
        simpa using this
/-- behind all ends: in, if their number is odd -/
theorem inE_big {l : List Int} {x : Int} (h : ∀ a ∈ l, a ≤ x) : inE l x = (l.length % 2 == 1) := by
  induction l with
  | nil => rfl
  | cons a l ih =>
    have h1 := h a (by simp)
    rw [inE, if_neg (by omega), ih fun b hb => h b (by simp [hb])]
    have : (a :: l).length = l.length + 1 := rfl
    rw [this]
    by_cases e : l.length % 2 = 1
    · have : (l.length + 1) % 2 = 0 := by omega
      simp [e, this]
    · have h0 : l.length % 2 = 0 := by omega
      have : (l.length + 1) % 2 = 1 := by omega
      simp [h0, this]
/-- what mixed makes of what is left of two rows -/
def mixR (op : Bool → Bool → Bool) : List Int → List Int → Bool → Bool → Bool → List Int
  | [], [], _, _, _ => []
  | x :: as, [], pa, pb, on => if op (!pa) pb != on then x :: mixR op as [] (!pa) pb (op (!pa) pb) else mixR op as [] (!pa) pb on
  | [], y :: bs, pa, pb, on => if op pa (!pb) != on then y :: mixR op [] bs pa (!pb) (op pa (!pb)) else mixR op [] bs pa (!pb) on
  | x :: as, y :: bs, pa, pb, on =>
    if x < y then (if op (!pa) pb != on then x :: mixR op as (y :: bs) (!pa) pb (op (!pa) pb) else mixR op as (y :: bs) (!pa) pb on)
    else if y < x then (if op pa (!pb) != on then y :: mixR op (x :: as) bs pa (!pb) (op pa (!pb)) else mixR op (x :: as) bs pa (!pb) on)
    else (if op (!pa) (!pb) != on then x :: mixR op as bs (!pa) (!pb) (op (!pa) (!pb)) else mixR op as bs (!pa) (!pb) on)
  termination_by a b => a.length + b.length
def mix (op : Bool → Bool → Bool) (a b : List Int) : List Int := mixR op a b false false false
theorem mixR_mem (op : Bool → Bool → Bool) (a b : List Int) (pa pb on : Bool) : ∀ x ∈ mixR op a b pa pb on, x ∈ a ∨ x ∈ b := by
  fun_induction mixR op a b pa pb on <;> intro z hz <;> simp only [List.mem_cons, List.not_mem_nil] at * <;> grind
theorem mixR_up (op : Bool → Bool → Bool) (a b : List Int) (pa pb on : Bool) (ha : Up a) (hb : Up b) : Up (mixR op a b pa pb on) := by
  fun_induction mixR op a b pa pb on with
  | case1 => exact List.Pairwise.nil
  | case2 x as pa pb on h ih =>
    have hA := List.pairwise_cons.1 ha
    exact List.pairwise_cons.2 ⟨fun z hz => by (rcases mixR_mem _ _ _ _ _ _ z hz with h | h; exact hA.1 z h; cases h), ih hA.2 hb⟩
  | case3 x as pa pb on h ih => exact ih (List.pairwise_cons.1 ha).2 hb
  | case4 y bs pa pb on h ih =>
    have hB := List.pairwise_cons.1 hb
    exact List.pairwise_cons.2 ⟨fun z hz => by (rcases mixR_mem _ _ _ _ _ _ z hz with h | h; cases h; exact hB.1 z h), ih ha hB.2⟩
  | case5 y bs pa pb on h ih => exact ih ha (List.pairwise_cons.1 hb).2
  | case6 x as y bs pa pb on hlt h ih =>
    have hA := List.pairwise_cons.1 ha
    have hB := List.pairwise_cons.1 hb
    refine List.pairwise_cons.2 ⟨fun z hz => ?_, ih hA.2 hb⟩
    rcases mixR_mem _ _ _ _ _ _ z hz with h | h
    · exact hA.1 z h
    · rcases List.mem_cons.1 h with rfl | h
      · exact hlt
      · have := hB.1 z h; omega
  | case7 x as y bs pa pb on hlt h ih => exact ih (List.pairwise_cons.1 ha).2 hb
  | case8 x as y bs pa pb on hlt hlt2 h ih =>
    have hA := List.pairwise_cons.1 ha
    have hB := List.pairwise_cons.1 hb
    refine List.pairwise_cons.2 ⟨fun z hz => ?_, ih ha hB.2⟩
    rcases mixR_mem _ _ _ _ _ _ z hz with h | h
    · rcases List.mem_cons.1 h with rfl | h
      · exact hlt2
      · have := hA.1 z h; omega
    · exact hB.1 z h
  | case9 x as y bs pa pb on hlt hlt2 h ih => exact ih ha (List.pairwise_cons.1 hb).2
  | case10 x as y bs pa pb on hlt hlt2 h ih =>
    have hA := List.pairwise_cons.1 ha
    have hB := List.pairwise_cons.1 hb
    refine List.pairwise_cons.2 ⟨fun z hz => ?_, ih hA.2 hB.2⟩
    rcases mixR_mem _ _ _ _ _ _ z hz with h | h
    · exact hA.1 z h
    · have := hB.1 z h; omega
  | case11 x as y bs pa pb on hlt hlt2 h ih => exact ih (List.pairwise_cons.1 ha).2 (List.pairwise_cons.1 hb).2
theorem mixR_in (op : Bool → Bool → Bool) (a b : List Int) (pa pb on : Bool) (ha : Up a) (hb : Up b) (hon : on = op pa pb) (z : Int) : (on ^^ inE (mixR op a b pa pb on) z) = op (pa ^^ inE a z) (pb ^^ inE b z) := by
  fun_induction mixR op a b pa pb on with
  | case1 => simp [inE, hon]
  | case2 x as pa pb on h ih =>
    have hA := List.pairwise_cons.1 ha
    have h2 := ih hA.2 hb rfl
    by_cases hz : z < x
    · simp [inE, hz, hon]
    · simp only [inE, hz, if_false, Bool.xor_false] at h2 ⊢
      rw [show (pa ^^ !inE as z) = (!pa ^^ inE as z) by cases pa <;> simp, ← h2]
      revert h; cases on <;> cases op (!pa) pb <;> simp
  | case3 x as pa pb on h ih =>
    have hA := List.pairwise_cons.1 ha
    have h2 := ih hA.2 hb (by simpa using Eq.symm (by simpa using h))
    by_cases hz : z < x
    · have e1 : inE as z = false := inE_lt fun a h => by have := hA.1 a h; omega
      rw [e1] at h2
      simp only [inE, hz, if_true, Bool.xor_false] at h2 ⊢
      rw [h2, ← hon]
      simpa using h
    · simp only [inE, hz, if_false, Bool.xor_false] at h2 ⊢
      rw [show (pa ^^ !inE as z) = (!pa ^^ inE as z) by cases pa <;> simp, ← h2]
  | case4 y bs pa pb on h ih =>
    have hB := List.pairwise_cons.1 hb
    have h2 := ih ha hB.2 rfl
    by_cases hz : z < y
    · simp [inE, hz, hon]
    · simp only [inE, hz, if_false, Bool.xor_false] at h2 ⊢
      rw [show (pb ^^ !inE bs z) = (!pb ^^ inE bs z) by cases pb <;> simp, ← h2]
      revert h; cases on <;> cases op pa (!pb) <;> simp
  | case5 y bs pa pb on h ih =>
    have hB := List.pairwise_cons.1 hb
    have h2 := ih ha hB.2 (by simpa using Eq.symm (by simpa using h))
    by_cases hz : z < y
    · have e1 : inE bs z = false := inE_lt fun a h => by have := hB.1 a h; omega
      rw [e1] at h2
      simp only [inE, hz, if_true, Bool.xor_false] at h2 ⊢
      rw [h2, ← hon]
      simpa using h
    · simp only [inE, hz, if_false, Bool.xor_false] at h2 ⊢
      rw [show (pb ^^ !inE bs z) = (!pb ^^ inE bs z) by cases pb <;> simp, ← h2]
  | case6 x as y bs pa pb on hlt h ih =>
    have hA := List.pairwise_cons.1 ha
    have h2 := ih hA.2 hb rfl
    by_cases hz : z < x
    · have hzy : z < y := by omega
      simp [inE, hz, hzy, hon]
    · simp only [inE, hz, if_false] at h2 ⊢
      rw [show (pa ^^ !inE as z) = (!pa ^^ inE as z) by cases pa <;> simp, ← h2]
      revert h; cases on <;> cases op (!pa) pb <;> simp
  | case7 x as y bs pa pb on hlt h ih =>
    have hA := List.pairwise_cons.1 ha
    have h2 := ih hA.2 hb (by simpa using Eq.symm (by simpa using h))
    by_cases hz : z < x
    · have e1 : inE as z = false := inE_lt fun a h => by have := hA.1 a h; omega
      have hzy : z < y := by omega
      rw [e1] at h2
      simp only [inE, hz, hzy, if_true, Bool.xor_false] at h2 ⊢
      rw [h2, ← hon]
      simpa using h
    · simp only [inE, hz, if_false] at h2 ⊢
      rw [show (pa ^^ !inE as z) = (!pa ^^ inE as z) by cases pa <;> simp, ← h2]
  | case8 x as y bs pa pb on hlt hlt2 h ih =>
    have hB := List.pairwise_cons.1 hb
    have h2 := ih ha hB.2 rfl
    by_cases hz : z < y
    · have hzx : z < x := by omega
      simp [inE, hz, hzx, hon]
    · simp only [inE, hz, if_false] at h2 ⊢
      rw [show (pb ^^ !inE bs z) = (!pb ^^ inE bs z) by cases pb <;> simp, ← h2]
      revert h; cases on <;> cases op pa (!pb) <;> simp
  | case9 x as y bs pa pb on hlt hlt2 h ih =>
    have hB := List.pairwise_cons.1 hb
    have h2 := ih ha hB.2 (by simpa using Eq.symm (by simpa using h))
    by_cases hz : z < y
    · have e1 : inE bs z = false := inE_lt fun a h => by have := hB.1 a h; omega
      have hzx : z < x := by omega
      rw [e1] at h2
      simp only [inE, hz, hzx, if_true, Bool.xor_false] at h2 ⊢
      rw [h2, ← hon]
      simpa using h
    · simp only [inE, hz, if_false] at h2 ⊢
      rw [show (pb ^^ !inE bs z) = (!pb ^^ inE bs z) by cases pb <;> simp, ← h2]
  | case10 x as y bs pa pb on hlt hlt2 h ih =>
    have hA := List.pairwise_cons.1 ha
    have hB := List.pairwise_cons.1 hb
    have h2 := ih hA.2 hB.2 rfl
    obtain rfl : x = y := by omega
    by_cases hz : z < x
    · simp [inE, hz, hon]
    · simp only [inE, hz, if_false] at h2 ⊢
      rw [show (pa ^^ !inE as z) = (!pa ^^ inE as z) by cases pa <;> simp, show (pb ^^ !inE bs z) = (!pb ^^ inE bs z) by cases pb <;> simp, ← h2]
      revert h; cases on <;> cases op (!pa) (!pb) <;> simp
  | case11 x as y bs pa pb on hlt hlt2 h ih =>
    have hA := List.pairwise_cons.1 ha
    have hB := List.pairwise_cons.1 hb
    have h2 := ih hA.2 hB.2 (by simpa using Eq.symm (by simpa using h))
    obtain rfl : x = y := by omega
    by_cases hz : z < x
    · have e1 : inE as z = false := inE_lt fun a h => by have := hA.1 a h; omega
      have e2 : inE bs z = false := inE_lt fun a h => by have := hB.1 a h; omega
      rw [e1, e2] at h2
      simp only [inE, hz, if_true, Bool.xor_false] at h2 ⊢
      rw [h2, ← hon]
      simpa using h
    · simp only [inE, hz, if_false] at h2 ⊢
      rw [show (pa ^^ !inE as z) = (!pa ^^ inE as z) by cases pa <;> simp, show (pb ^^ !inE bs z) = (!pb ^^ inE bs z) by cases pb <;> simp, ← h2]
theorem mix_in {op : Bool → Bool → Bool} (h0 : op false false = false) {a b : List Int} (ha : Up a) (hb : Up b) (z : Int) : inE (mix op a b) z = op (inE a z) (inE b z) := by
  have := mixR_in op a b false false false ha hb h0.symm z
  simpa [mix] using this
theorem mix_up (op : Bool → Bool → Bool) {a b : List Int} (ha : Up a) (hb : Up b) : Up (mix op a b) := mixR_up _ _ _ _ _ _ ha hb
theorem mix_mem {op : Bool → Bool → Bool} {a b : List Int} {x : Int} (h : x ∈ mix op a b) : x ∈ a ∨ x ∈ b := mixR_mem _ _ _ _ _ _ x h
theorem list_top (l : List Int) : ∃ m : Int, ∀ a ∈ l, a ≤ m := by
  induction l with
  | nil => exact ⟨0, by simp⟩
  | cons a l ih =>
    obtain ⟨m, h⟩ := ih
    refine ⟨max a m, fun b hb => ?_⟩
    rcases List.mem_cons.1 hb with rfl | hb
    · omega
    · have := h b hb; omega
theorem mix_even {op : Bool → Bool → Bool} (h0 : op false false = false) {a b : List Int} (ha : Up a) (hb : Up b) (ea : a.length % 2 = 0) (eb : b.length % 2 = 0) : (mix op a b).length % 2 = 0 := by
  obtain ⟨m, hm⟩ := list_top (a ++ b)
  have h1 := mix_in h0 ha hb m
  rw [inE_big fun x hx => hm x (by rcases mix_mem hx with h | h <;> simp [h]), inE_big fun x hx => hm x (by simp [hx]), inE_big fun x hx => hm x (by simp [hx]), ea, eb] at h1
  have : ((0 : Nat) == 1) = false := rfl
  rw [this, h0] at h1
  have := beq_eq_false_iff_ne.1 h1
  omega
end Go.Proofs.Ytekcheccelllcaa
