/- Layer 13: plain laws: there and back; merging in any order. -/
import Derived.Test.YtebalohoblaedaaGlyI
import Derived.Test.YtebalohoblaedaaGlyJ
namespace Go.Proofs.Ytebalohoblaedaa
set_option linter.unusedVariables false
set_option linter.unusedSimpArgs false

def mx (x y : Int) : Int := if rnk x < rnk y then y else x
theorem A4_ext {a b : A4} (h0 : a.u = b.u) (h1 : a.r = b.r) (h2 : a.d = b.d) (h3 : a.l = b.l) : a = b := by cases a; cases b; simp_all
theorem mst_get0 (x o : A4) : mst x o 0 = ⟨mx o.u x.u, o.r, o.d, o.l⟩ := by unfold mst mx; simp only [A4.get, A4.put]; split <;> rfl
theorem mst_get1 (x o : A4) : mst x o 1 = ⟨o.u, mx o.r x.r, o.d, o.l⟩ := by unfold mst mx; simp only [A4.get, A4.put]; split <;> rfl
theorem mst_get2 (x o : A4) : mst x o 2 = ⟨o.u, o.r, mx o.d x.d, o.l⟩ := by unfold mst mx; simp only [A4.get, A4.put]; split <;> rfl
theorem mst_get3 (x o : A4) : mst x o 3 = ⟨o.u, o.r, o.d, mx o.l x.l⟩ := by unfold mst mx; simp only [A4.get, A4.put]; split <;> rfl
theorem mrg_eq (o a : A4) : mrg o a = ⟨mx o.u (cnt a.u), mx o.r (cnt a.r), mx o.d (cnt a.d), mx o.l (cnt a.l)⟩ := by
  unfold mrg
  simp only [it, mst_get0, mst_get1, mst_get2, mst_get3, cntA]
theorem merge_nil : mergeA [] = zA := rfl
theorem merge_one (p : A4) : mergeA [p] = ⟨mx 0 (cnt p.u), mx 0 (cnt p.r), mx 0 (cnt p.d), mx 0 (cnt p.l)⟩ := by
  show mrg zA p = _
  rw [mrg_eq]; rfl
theorem merge_two (p q : A4) : mergeA [p, q] = ⟨mx (mx 0 (cnt p.u)) (cnt q.u), mx (mx 0 (cnt p.r)) (cnt q.r), mx (mx 0 (cnt p.d)) (cnt q.d), mx (mx 0 (cnt p.l)) (cnt q.l)⟩ := by
  show mrg (mrg zA p) q = _
  simp only [mrg_eq]; rfl
theorem merge_three (p q r : A4) : mergeA [p, q, r] = ⟨mx (mx (mx 0 (cnt p.u)) (cnt q.u)) (cnt r.u), mx (mx (mx 0 (cnt p.r)) (cnt q.r)) (cnt r.r), mx (mx (mx 0 (cnt p.d)) (cnt q.d)) (cnt r.d), mx (mx (mx 0 (cnt p.l)) (cnt q.l)) (cnt r.l)⟩ := by
  show mrg (mrg (mrg zA p) q) r = _
  simp only [mrg_eq]; rfl
theorem mx_f1 : ∀ a : Fin 5, mx 0 (f5 a) = f5 a := by decide +kernel
theorem mx_f2 : ∀ a b : Fin 5, mx (mx 0 (f5 a)) (f5 b) = mx (mx 0 (f5 b)) (f5 a) := by decide +kernel
theorem mx_f3 : ∀ a b : Fin 5, mx (mx (mx 0 (f5 a)) (f5 b)) (f5 a) = mx (mx 0 (f5 a)) (f5 b) := by decide +kernel
theorem mx_f4 : ∀ a b : Fin 5, mx (mx 0 (cnt (mx 0 (f5 a)))) (f5 b) = mx (mx 0 (f5 a)) (f5 b) := by decide +kernel
theorem mx_f5 : ∀ a b c : Fin 5, mx (mx 0 (cnt (mx (mx 0 (f5 a)) (f5 b)))) (f5 c) = mx (mx 0 (f5 a)) (cnt (mx (mx 0 (f5 b)) (f5 c))) := by decide +kernel
theorem mx_c1 (x : Int) : mx 0 (cnt x) = cnt x := by obtain ⟨a, h⟩ := cnt_f5 x; rw [h, mx_f1]
theorem mx_c2 (x y : Int) : mx (mx 0 (cnt x)) (cnt y) = mx (mx 0 (cnt y)) (cnt x) := by obtain ⟨a, h⟩ := cnt_f5 x; obtain ⟨b, h'⟩ := cnt_f5 y; rw [h, h', mx_f2]
theorem mx_c3 (x y : Int) : mx (mx (mx 0 (cnt x)) (cnt y)) (cnt x) = mx (mx 0 (cnt x)) (cnt y) := by obtain ⟨a, h⟩ := cnt_f5 x; obtain ⟨b, h'⟩ := cnt_f5 y; rw [h, h', mx_f3]
theorem mx_c4 (x y : Int) : mx (mx 0 (cnt (mx 0 (cnt x)))) (cnt y) = mx (mx 0 (cnt x)) (cnt y) := by obtain ⟨a, h⟩ := cnt_f5 x; obtain ⟨b, h'⟩ := cnt_f5 y; rw [h, h', mx_f4]
theorem mx_c5 (x y z : Int) : mx (mx 0 (cnt (mx (mx 0 (cnt x)) (cnt y)))) (cnt z) = mx (mx 0 (cnt x)) (cnt (mx (mx 0 (cnt y)) (cnt z))) := by
  obtain ⟨a, h⟩ := cnt_f5 x; obtain ⟨b, h'⟩ := cnt_f5 y; obtain ⟨c, h''⟩ := cnt_f5 z; rw [h, h', h'', mx_f5]
theorem merge_swap (p q : A4) : mergeA [q, p] = mergeA [p, q] := by rw [merge_two, merge_two]; exact A4_ext (mx_c2 _ _) (mx_c2 _ _) (mx_c2 _ _) (mx_c2 _ _)
theorem merge_again (p q : A4) : mergeA [p, q, p] = mergeA [p, q] := by rw [merge_two, merge_three]; exact A4_ext (mx_c3 _ _) (mx_c3 _ _) (mx_c3 _ _) (mx_c3 _ _)
theorem merge_first (p q : A4) : mergeA [mergeA [p], q] = mergeA [p, q] := by rw [merge_two, merge_two, merge_one]; exact A4_ext (mx_c4 _ _) (mx_c4 _ _) (mx_c4 _ _) (mx_c4 _ _)
theorem merge_assoc (p q c : A4) : mergeA [mergeA [p, q], c] = mergeA [p, mergeA [q, c]] := by
  rw [merge_two (mergeA [p, q]), merge_two p (mergeA [q, c]), merge_two p q, merge_two q c]; exact A4_ext (mx_c5 _ _ _) (mx_c5 _ _ _) (mx_c5 _ _ _) (mx_c5 _ _ _)
theorem merge_cnt (p : A4) : mergeA [p] = cntA p := by rw [merge_one]; exact A4_ext (mx_c1 _) (mx_c1 _) (mx_c1 _) (mx_c1 _)
theorem cnt_in (x : Int) (h : 0 ≤ x ∧ x ≤ 4) : cnt x = x := by unfold cnt; omega
theorem cnt_out (x : Int) (h : x < 0 ∨ 4 < x) : cnt x = 0 := by unfold cnt; omega
/-- a character that is lines has arms, and these have it -/
def backB (r : Int) : Bool := if (ofA r).2 = true then runeA (ofA r).1 == r && !((ofA r).1 == zA) else (ofA r).1 == zA
set_option maxRecDepth 1000000 in
theorem back_in : ∀ n : Fin 128, backB (9472 + (n.val : Int)) = true := by decide +kernel
theorem back_any (r : Int) : backB r = true := by
  by_cases h : r < 9472 ∨ 9599 < r
  · unfold backB; rw [ofA_out r h]; rfl
  · have := back_in ⟨(r - 9472).toNat, by omega⟩
    simp only [] at this
    rwa [show 9472 + (((r - 9472).toNat : Nat) : Int) = r by omega] at this
theorem back_yes (r : Int) (h : (ofA r).2 = true) : runeA (ofA r).1 = r ∧ (ofA r).1 ≠ zA := by
  have := back_any r
  unfold backB at this
  rw [if_pos h] at this
  simpa using this
theorem back_no (r : Int) (h : (ofA r).2 = false) : (ofA r).1 = zA := by
  have := back_any r
  unfold backB at this
  rw [if_neg (by rw [h]; decide)] at this
  simpa using this
set_option maxRecDepth 1000000 in
theorem rune_in : ∀ a b c d : Fin 5, ((ofA (runeC ⟨f5 a, f5 b, f5 c, f5 d⟩)).2 || runeC ⟨f5 a, f5 b, f5 c, f5 d⟩ == 32) = true := by decide +kernel
theorem rune_back (a : A4) (h : (ofA (runeA a)).2 = false) : runeA a = 32 := by
  have : ((ofA (runeA a)).2 || runeA a == 32) = true := by
    unfold runeA cntA
    obtain ⟨i, hi⟩ := cnt_f5 a.u
    obtain ⟨j, hj⟩ := cnt_f5 a.r
    obtain ⟨k, hk⟩ := cnt_f5 a.d
    obtain ⟨l, hl⟩ := cnt_f5 a.l
    rw [hi, hj, hk, hl]
    exact rune_in i j k l
  rw [h] at this
  simpa using this
end Go.Proofs.Ytebalohoblaedaa
