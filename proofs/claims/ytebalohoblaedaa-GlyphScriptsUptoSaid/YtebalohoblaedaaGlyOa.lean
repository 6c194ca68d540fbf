/- Layer 13: plain laws of GlyphOrder: what lines lay on a cell is one join, whatever the order. -/
import Derived.Test.YtebalohoblaedaaGlyW
import Derived.Test.YtebalohoblaedaaGlyBk
namespace Go.Proofs.Ytebalohoblaedaa
set_option linter.unusedVariables false
set_option linter.unusedSimpArgs false

def jn (a b : A4) : A4 := mergeA [a, b]
theorem jn_comm (a b : A4) : jn a b = jn b a := merge_swap b a
theorem jn_assoc (a b c : A4) : jn (jn a b) c = jn a (jn b c) := merge_assoc a b c
theorem mx_self (x : Int) : mx (mx 0 (cnt x)) (cnt x) = mx 0 (cnt x) := by
  unfold mx
  split <;> simp_all
theorem jn_self (a : A4) : jn a a = mergeA [a] := by
  unfold jn
  rw [merge_two, merge_one]
  exact A4_ext (mx_self _) (mx_self _) (mx_self _) (mx_self _)
theorem jn_first (a b : A4) : jn (mergeA [a]) b = jn a b := merge_first a b
def LeA (a b : A4) : Prop := jn a b = b
theorem LeA.antisymm {a b : A4} (h1 : LeA a b) (h2 : LeA b a) : a = b := by
  unfold LeA at h1 h2
  rw [← h2, jn_comm, h1]
theorem LeA.trans {a b c : A4} (h1 : LeA a b) (h2 : LeA b c) : LeA a c := by
  unfold LeA at *
  calc jn a c = jn a (jn b c) := by rw [h2]
    _ = jn (jn a b) c := (jn_assoc _ _ _).symm
    _ = jn b c := by rw [h1]
    _ = c := h2
theorem LeA.left (a b : A4) : LeA a (jn a b) := by
  unfold LeA
  rw [← jn_assoc, jn_self, jn_first]
theorem LeA.right (a b : A4) : LeA b (jn a b) := by rw [jn_comm]; exact LeA.left b a
theorem LeA.join {a b c : A4} (h1 : LeA a c) (h2 : LeA b c) : LeA (jn a b) c := by
  unfold LeA at *
  rw [jn_assoc, h2, h1]
/-- all of a list joined -/
def fj (c : A4) (l : List A4) : A4 := l.foldl jn c
theorem fj_cons (c a : A4) (l : List A4) : fj c (a :: l) = fj (jn c a) l := rfl
theorem fj_one (c a : A4) : fj c [a] = mergeA [c, a] := by unfold fj; simp only [List.foldl_cons, List.foldl_nil, jn]
theorem fj_nil (c : A4) : fj c [] = c := rfl
theorem fj_append (c : A4) (l m : List A4) : fj c (l ++ m) = fj (fj c l) m := by unfold fj; rw [List.foldl_append]
theorem fj_up (l : List A4) : ∀ c d, LeA d c → LeA d (fj c l) := by
  induction l with
  | nil => exact fun c d h => h
  | cons a l ih => exact fun c d h => ih _ _ (h.trans (LeA.left c a))
theorem fj_mem (l : List A4) : ∀ c, ∀ a ∈ l, LeA a (fj c l) := by
  induction l with
  | nil => intro c a h; cases h
  | cons b l ih =>
    intro c a h
    rcases List.mem_cons.1 h with rfl | h
    · exact fj_up l _ _ (LeA.right c a)
    · exact ih _ a h
theorem fj_le (l : List A4) (d : A4) : ∀ c, LeA c d → (∀ a ∈ l, LeA a d) → LeA (fj c l) d := by
  induction l with
  | nil => exact fun c h _ => h
  | cons b l ih => exact fun c h hl => ih _ (h.join (hl b (List.mem_cons_self ..))) (fun a ha => hl a (List.mem_cons_of_mem _ ha))
theorem zA_self : LeA zA zA := show jn zA zA = zA by decide +kernel
theorem fj_same (l m : List A4) (h1 : ∀ a ∈ l, LeA a (fj zA m)) (h2 : ∀ a ∈ m, LeA a (fj zA l)) : fj zA l = fj zA m :=
  (fj_le l _ _ (fj_up m _ _ zA_self) h1).antisymm (fj_le m _ _ (fj_up l _ _ zA_self) h2)
theorem fj_sub (l m : List A4) (h : ∀ a ∈ l, a ∈ m) : LeA (fj zA l) (fj zA m) := fj_le l _ _ (fj_up m _ _ zA_self) fun a ha => fj_mem m _ a (h a ha)

/-- a line as it is asked for -/
structure Ln where
  x0 : Int
  y0 : Int
  x1 : Int
  y1 : Int
  k : Int
def layOne (W H : Nat) (L : List A4) (t : Ln) : List A4 := lin2 W H t.x0 t.y0 t.x1 t.y1 t.k L
def layL (W H : Nat) (ts : List Ln) (L : List A4) : List A4 := ts.foldl (layOne W H) L
theorem layL_append (W H : Nat) (s t : List Ln) (L : List A4) : layL W H (s ++ t) L = layL W H t (layL W H s L) := by unfold layL; rw [List.foldl_append]
theorem layL_len (W H : Nat) (ts : List Ln) : ∀ L : List A4, (layL W H ts L).length = L.length := by
  induction ts with
  | nil => exact fun L => rfl
  | cons t ts ih => exact fun L => (ih _).trans (lin2_len _ _ _ _ _ _ _ _)
/-- what a line lays on a cell -/
def con (x y : Nat) (t : Ln) : List A4 := if inL (min t.x0 t.x1) (min t.y0 t.y1) (max t.x0 t.x1) (max t.y0 t.y1) (x : Int) (y : Int) = true then [armOf (min t.x0 t.x1) (min t.y0 t.y1) (max t.x0 t.x1) (max t.y0 t.y1) t.k (x : Int) (y : Int)] else []
theorem layL_at (W H : Nat) (x y : Nat) (hx : x < W) (hy : y < H) (ts : List Ln) : ∀ L : List A4, L.length = W * H → (layL W H ts L).getD (y * W + x) zA = fj (L.getD (y * W + x) zA) (ts.flatMap (con x y)) := by
  induction ts with
  | nil => exact fun L _ => rfl
  | cons t ts ih =>
    intro L hl
    rw [List.flatMap_cons, fj_append]
    show (layL W H ts (layOne W H L t)).getD _ _ = _
    rw [ih _ (by unfold layOne; rw [lin2_len]; exact hl)]
    congr 1
    unfold layOne
    rw [lin2_at _ _ _ _ _ _ _ _ _ _ hl hx hy]
    unfold con
    split
    · rw [fj_one]
    · rw [fj_nil]
theorem zA_at (W H x y : Nat) (hx : x < W) (hy : y < H) : (List.replicate (W * H) zA).getD (y * W + x) zA = zA := by
  have hn : y * W + x < W * H := by
    have : (y + 1) * W ≤ H * W := Nat.mul_le_mul_right W hy
    rw [Nat.add_mul, Nat.mul_comm H W] at this
    omega
  simp [List.getD_eq_getElem?_getD, hn]
/-- the lines that a call of Line lays -/
def lnsL (x0 y0 x1 y1 k : Int) : List Ln := if 0 ≤ k ∧ k ≤ 4 ∧ (x0 = x1 ∨ y0 = y1) then [⟨x0, y0, x1, y1, k⟩] else []
theorem con_turn (x y : Nat) (x0 y0 x1 y1 k : Int) : (lnsL x1 y1 x0 y0 k).flatMap (con x y) = (lnsL x0 y0 x1 y1 k).flatMap (con x y) := by
  unfold lnsL
  by_cases h : 0 ≤ k ∧ k ≤ 4 ∧ (x0 = x1 ∨ y0 = y1)
  · rw [if_pos h, if_pos ⟨h.1, h.2.1, by omega⟩]
    simp only [List.flatMap_cons, List.flatMap_nil, con, Int.min_comm x1, Int.min_comm y1, Int.max_comm x1, Int.max_comm y1]
  · rw [if_neg h, if_neg (fun h' => h ⟨h'.1, h'.2.1, by omega⟩)]
theorem le_oneK (k : Int) (hk : 0 ≤ k ∧ k ≤ 4) (a b c d a' b' c' d' : Bool) (ha : a = true → a' = true) (hb : b = true → b' = true) (hc : c = true → c' = true) (hd : d = true → d' = true) : LeA (oneK k a b c d) (oneK k a' b' c' d') := by
  unfold LeA jn
  obtain rfl | hk : k = 0 ∨ (k = 1 ∨ k = 2 ∨ k = 3 ∨ k = 4) := by omega
  · cases a <;> cases b <;> cases c <;> cases d <;> cases a' <;> cases b' <;> cases c' <;> cases d' <;> decide +kernel
  · rw [merge_oneK k hk]
    cases a <;> cases b <;> cases c <;> cases d <;> simp_all
theorem le_oneK2 (k : Int) (hk : 0 ≤ k ∧ k ≤ 4) (a b c d a' b' c' d' a2 b2 c2 d2 : Bool) (ha : a = true → a' = true ∨ a2 = true) (hb : b = true → b' = true ∨ b2 = true) (hc : c = true → c' = true ∨ c2 = true) (hd : d = true → d' = true ∨ d2 = true) : LeA (oneK k a b c d) (jn (oneK k a' b' c' d') (oneK k a2 b2 c2 d2)) := by
  obtain rfl | hk' : k = 0 ∨ (k = 1 ∨ k = 2 ∨ k = 3 ∨ k = 4) := by omega
  · have z : ∀ a b c d, oneK 0 a b c d = zA := fun a b c d => by cases a <;> cases b <;> cases c <;> cases d <;> rfl
    rw [z, z, z]; show jn zA (jn zA zA) = jn zA zA; decide +kernel
  · unfold jn
    rw [merge_oneK k hk']
    refine le_oneK k hk _ _ _ _ _ _ _ _ ?_ ?_ ?_ ?_ <;> (rw [Bool.or_eq_true]; assumption)
/-- a line in two stretches -/
def splitL (x0 y0 x1 m k : Int) : List Ln := lnsL x0 y0 m y0 k ++ lnsL x1 y0 m y0 k
theorem split_up (x y : Nat) (x0 y0 x1 m k : Int) (h0 : x0 ≤ m) (h1 : m ≤ x1) : ∀ a ∈ (lnsL x0 y0 x1 y0 k).flatMap (con x y), LeA a (fj zA ((splitL x0 y0 x1 m k).flatMap (con x y))) := by
  intro a ha
  unfold splitL
  unfold lnsL at ha ⊢
  by_cases hk : 0 ≤ k ∧ k ≤ 4
  · rw [if_pos ⟨hk.1, hk.2, .inr rfl⟩] at ha
    rw [if_pos ⟨hk.1, hk.2, .inr rfl⟩, if_pos ⟨hk.1, hk.2, .inr rfl⟩]
    simp only [List.flatMap_cons, List.flatMap_nil, List.append_nil, List.flatMap_append, con, inL, decide_eq_true_eq, Int.min_self, Int.max_self] at ha ⊢
    rw [show min x0 x1 = x0 by omega, show max x0 x1 = x1 by omega] at ha
    rw [show min x0 m = x0 by omega, show max x0 m = m by omega, show min x1 m = m by omega, show max x1 m = x1 by omega]
    split at ha
    · rename_i hin
      rw [List.mem_singleton] at ha
      subst ha
      rcases Int.lt_trichotomy (x : Int) m with h | h | h
      · rw [if_pos (by omega), if_neg (by omega), List.append_nil]
        refine LeA.trans ?_ (fj_mem _ _ _ (List.mem_singleton.2 rfl))
        rw [arm_oneK, arm_oneK]
        refine le_oneK k hk _ _ _ _ _ _ _ _ ?_ ?_ ?_ ?_ <;> (simp only [decide_eq_true_eq]; omega)
      · rw [if_pos (by omega), if_pos (by omega)]
        refine LeA.trans ?_ (show LeA (jn (armOf x0 y0 m y0 k (x : Int) (y : Int)) (armOf m y0 x1 y0 k (x : Int) (y : Int))) _ from LeA.join (fj_mem _ _ _ (by simp)) (fj_mem _ _ _ (by simp)))
        rw [arm_oneK, arm_oneK, arm_oneK]
        refine le_oneK2 k hk _ _ _ _ _ _ _ _ _ _ _ _ ?_ ?_ ?_ ?_ <;> (simp only [decide_eq_true_eq]; omega)
      · rw [if_neg (by omega), if_pos (by omega), List.nil_append]
        refine LeA.trans ?_ (fj_mem _ _ _ (List.mem_singleton.2 rfl))
        rw [arm_oneK, arm_oneK]
        refine le_oneK k hk _ _ _ _ _ _ _ _ ?_ ?_ ?_ ?_ <;> (simp only [decide_eq_true_eq]; omega)
    · cases ha
  · rw [if_neg (fun h => hk ⟨h.1, h.2.1⟩)] at ha
    cases ha
theorem split_down (x y : Nat) (x0 y0 x1 m k : Int) (h0 : x0 ≤ m) (h1 : m ≤ x1) : ∀ a ∈ (splitL x0 y0 x1 m k).flatMap (con x y), LeA a (fj zA ((lnsL x0 y0 x1 y0 k).flatMap (con x y))) := by
  intro a ha
  unfold splitL at ha
  unfold lnsL at ha ⊢
  by_cases hk : 0 ≤ k ∧ k ≤ 4
  · rw [if_pos ⟨hk.1, hk.2, .inr rfl⟩]
    rw [if_pos ⟨hk.1, hk.2, .inr rfl⟩, if_pos ⟨hk.1, hk.2, .inr rfl⟩] at ha
    simp only [List.flatMap_cons, List.flatMap_nil, List.append_nil, List.flatMap_append, con, inL, decide_eq_true_eq, Int.min_self, Int.max_self] at ha ⊢
    rw [show min x0 x1 = x0 by omega, show max x0 x1 = x1 by omega]
    rw [show min x0 m = x0 by omega, show max x0 m = m by omega, show min x1 m = m by omega, show max x1 m = x1 by omega] at ha
    rcases List.mem_append.1 ha with ha | ha
    · split at ha
      · rw [List.mem_singleton] at ha
        subst ha
        rw [if_pos (by omega)]
        refine LeA.trans ?_ (fj_mem _ _ _ (List.mem_singleton.2 rfl))
        rw [arm_oneK, arm_oneK]
        refine le_oneK k hk _ _ _ _ _ _ _ _ ?_ ?_ ?_ ?_ <;> (simp only [decide_eq_true_eq]; omega)
      · cases ha
    · split at ha
      · rw [List.mem_singleton] at ha
        subst ha
        rw [if_pos (by omega)]
        refine LeA.trans ?_ (fj_mem _ _ _ (List.mem_singleton.2 rfl))
        rw [arm_oneK, arm_oneK]
        refine le_oneK k hk _ _ _ _ _ _ _ _ ?_ ?_ ?_ ?_ <;> (simp only [decide_eq_true_eq]; omega)
      · cases ha
  · rw [if_neg (fun h => hk ⟨h.1, h.2.1⟩), if_neg (fun h => hk ⟨h.1, h.2.1⟩)] at ha
    cases ha
/-- two ways of laying the same things -/
theorem lay_same {α : Type} (W H : Nat) (x y : Nat) (hx : x < W) (hy : y < H) (S : List α) (f g : α → List Ln) (hfg : ∀ s, ∀ a ∈ (f s).flatMap (con x y), LeA a (fj zA ((g s).flatMap (con x y)))) (hgf : ∀ s, ∀ a ∈ (g s).flatMap (con x y), LeA a (fj zA ((f s).flatMap (con x y)))) (A : List α) (h1 : ∀ s ∈ S, s ∈ A) (h2 : ∀ s ∈ A, s ∈ S) :
    (layL W H (S.flatMap f) (List.replicate (W * H) zA)).getD (y * W + x) zA = (layL W H (A.flatMap g) (List.replicate (W * H) zA)).getD (y * W + x) zA := by
  rw [layL_at W H x y hx hy _ _ (by simp), layL_at W H x y hx hy _ _ (by simp), zA_at W H x y hx hy]
  have key : ∀ (P Q : List α) (f g : α → List Ln), (∀ s, ∀ a ∈ (f s).flatMap (con x y), LeA a (fj zA ((g s).flatMap (con x y)))) → (∀ s ∈ P, s ∈ Q) → ∀ a ∈ (P.flatMap f).flatMap (con x y), LeA a (fj zA ((Q.flatMap g).flatMap (con x y))) := by
    intro P Q f g h hs a ha
    obtain ⟨t, ht, ha⟩ := List.mem_flatMap.1 ha
    obtain ⟨s, hsP, hts⟩ := List.mem_flatMap.1 ht
    refine (h s a (List.mem_flatMap.2 ⟨t, hts, ha⟩)).trans (fj_sub _ _ fun b hb => ?_)
    obtain ⟨t', ht', hb⟩ := List.mem_flatMap.1 hb
    exact List.mem_flatMap.2 ⟨t', List.mem_flatMap.2 ⟨s, hs s hsP, ht'⟩, hb⟩
  exact fj_same _ _ (key S A f g hfg h1) (key A S g f hgf h2)
end Go.Proofs.Ytebalohoblaedaa
