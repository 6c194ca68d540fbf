/- Trees: contracts of scroll.Most and of the reference's Most. -/
import Derived.Test.YtegdokchkblpiaaTreP
import Derived.Test.YtegdokchkblpiaaTrrF
import Derived.Test.YtegdokchkblpiaaScrA
import Derived.Test.YtegdokchkblpiaaHeld
import Derived.Test.YtegdokchkblpiaaLntBx
namespace Go.Proofs.Ytegdokchkblpiaa
open Go.RowKit Go.Deep
set_option linter.unusedVariables false
set_option linter.unusedSimpArgs false

/-- what Most tells -/
def mostR (T : List Nd) (nb : Nat) (bx : Nat → Nat → Int) (i : Int) : Int × Int × Int :=
  if (checkT T).1 ≠ 0 then (0, 0, (checkT T).1)
  else if nb ≠ T.length then (0, 0, 2)
  else if i < 0 ∨ (T.length : Int) ≤ i ∨ (T.getD i.toNat zNd).kind ≠ 6 then (0, 0, 150)
  else (max 0 (szF (bx ((T.getD i.toNat zNd).kids.getD 0 0).toNat 2) - szF (bx i.toNat 10)), max 0 (szF (bx ((T.getD i.toNat zNd).kids.getD 0 0).toNat 3) - szF (bx i.toNat 11)), 0)
/-- a scroll of a right tree has one kid, and that is a node -/
theorem scroll_kid {T : List Nd} (h : (checkT T).1 = 0) (i : Nat) (hi : i < T.length) (hk : (T.getD i zNd).kind = 6) : ∃ k : Nat, (T.getD i zNd).kids = [(k : Int)] ∧ i < k ∧ k < T.length := by
  obtain ⟨t, d, hw⟩ := check_each h i hi
  generalize T.getD i zNd = x at *
  have h1 : ¬ (x.kind < 1 ∨ 11 < x.kind) := by omega
  have h2 := wrong_names hw
  have h3 : ¬ kidsBad T i x t d := fun hb => by rw [wrong_kids h1 h2 hb] at hw; cases hw
  unfold kidsBad at h3
  have h4 : x.kids.length = 1 := by
    by_cases h4 : x.kids.length = 1
    · exact h4
    · exact absurd (.inr (.inr ⟨hk, h4⟩)) h3
  obtain ⟨k, hkk⟩ := List.length_eq_one_iff.1 h4
  rw [hkk] at h3 ⊢
  by_cases hb : k ≤ (i : Int) ∨ (T.length : Int) ≤ k ∨ t k.toNat = true
  · exact absurd (.inl (by rw [kidGo_bad hb]; rfl)) h3
  · refine ⟨k.toNat, ?_, by omega, by omega⟩
    rw [Int.toNat_of_nonneg (by omega)]
theorem ref_above_any (a b : Int) (w : World) (ha : 0 ≤ a ∧ a ≤ 1048576) (hb : 0 ≤ b ∧ b ≤ 1048576) : Calls Try.prog 43 #[.int .i64 a, .int .i64 b] w fun e w' => e = .returned (.int .i64 (max 0 (a - b))) ∧ w = w' := by
  rcases (show b < a ∨ a ≤ b by omega) with h | h
  · have E := Lib.hid (show a - b = max 0 (a - b) by omega)
    go_enter Try.func43, Try.ntmps43
    go_wp2
    go_ret
    exact ⟨ret_int E.out, rfl⟩
  · have E := Lib.hid (show (0 : Int) = max 0 (a - b) by omega)
    go_enter Try.func43, Try.ntmps43
    go_wp2
    go_ret
    exact ⟨ret_int E.out, rfl⟩
theorem with_facts_ {P Q : Prop} (f : P → Q) (h : P) : P ∧ Q := ⟨h, f h⟩
set_option maxRecDepth 100000 in
set_option maxHeartbeats 16000000 in
theorem scroll_Most_any (po pb : Option Addr) (co cb nb : Nat) (T : List Nd) (bx : Nat → Nat → Int) (i : Int) (w : World) (hT : TreeAt w (.slice po T.length co) T) (hB : BoxAt w pb nb bx) (hnb : nb ≤ 9223372036854775807) : Calls Try.prog 23 #[.agg #[.slice po T.length co], .slice pb nb cb, .int .i64 i] w fun e w' => e = .returned (.tuple #[.agg #[.int .i64 (mostR T nb bx i).1, .int .i64 (mostR T nb bx i).2.1], .int .i64 (mostR T nb bx i).2.2]) ∧ Below w.heap.size w w' := by
  have HT := Lib.hid hT
  have HB := Lib.hid hB
  have htl := hT.len
  clear hT hB
  obtain ⟨cd, hcd⟩ : ∃ z, z = (checkT T).1 := ⟨_, rfl⟩
  have HCD := Lib.hid hcd
  clear hcd
  obtain ⟨⟨R0, R1, R2⟩, hR⟩ : ∃ R, R = mostR T nb bx i := ⟨_, rfl⟩
  rw [← hR]
  unfold mostR at hR
  rw [← HCD.out] at hR
  have k0 : cd = 0 ∨ cd ≠ 0 := by omega
  go_enter Try.func23, Try.ntmps23
  go_wp2_with fail
  refine (tree_Check_any po co T _ (HT.out.later (by go_grown))).mono ?_
  rw [← HCD.out]
  generalize (checkT T).2 = c2 at *
  rintro e w1 ⟨rfl, hb1⟩
  have B1 : Below w.heap.size w w1 := below_via hb1 (by go_grown)
  have F1 : w.heap.size + 1 < w1.heap.size ∧ w.heap.size < w1.heap.size ∧ w1.cell? ⟨w.heap.size, 0, none⟩ = some (.slice po T.length co) ∧ w1.cell? ⟨w.heap.size + 1, 0, none⟩ = some (.int .i64 0) ∧ w1.cell? ⟨w.heap.size + 1, 1, none⟩ = some (.int .i64 0) ∧ w1.frozen? ⟨w.heap.size + 1, 0, none⟩ = false ∧ w1.frozen? ⟨w.heap.size + 1, 1, none⟩ = false := by
    obtain ⟨hc, hf⟩ := bcell hb1
    have hz := hb1.size
    simp only [World.size_alloc] at hz
    refine ⟨by omega, by omega, ?_, ?_, ?_, ?_, ?_⟩
    · rw [hc _ _ (by simp <;> omega)]; simp [go_sem]
    · rw [hc _ _ (by simp <;> omega)]; simp [go_sem]
    · rw [hc _ _ (by simp <;> omega)]; simp [go_sem]
    · rw [hf _ _ (by simp <;> omega)]; simp [go_sem]
    · rw [hf _ _ (by simp <;> omega)]; simp [go_sem]
  clear hb1
  rcases k0 with k0 | k0
  · subst k0
    rw [if_neg (by decide)] at hR
    by_cases hl : nb = T.length
    · subst hl
      rw [if_neg (fun h => h rfl)] at hR
      rcases (show i < 0 ∨ (0 ≤ i ∧ (T.length : Int) ≤ i) ∨ (0 ≤ i ∧ i < (T.length : Int)) by omega) with h1 | ⟨h1, h2⟩ | ⟨h1, h2⟩
      · rw [if_pos (.inl h1)] at hR
        injection hR with e0 hR
        injection hR with e1 e2
        subst e0 e1 e2
        clear HCD
        go_split_ands
        go_wp2
        exact bodyPost_ret (v := .tuple #[.agg #[.int .i64 0, .int .i64 0], .int .i64 150]) (by simp [results, Try.results23, go_sem, *]) rfl ⟨rfl, by go_grown⟩
      · rw [if_pos (.inr (.inl h2))] at hR
        injection hR with e0 hR
        injection hR with e1 e2
        subst e0 e1 e2
        clear HCD
        go_split_ands
        go_wp2
        exact bodyPost_ret (v := .tuple #[.agg #[.int .i64 0, .int .i64 0], .int .i64 150]) (by simp [results, Try.results23, go_sem, *]) rfl ⟨rfl, by go_grown⟩
      · obtain ⟨n, rfl⟩ : ∃ n : Nat, i = (n : Int) := ⟨i.toNat, by omega⟩
        have hn : n < T.length := by omega
        rw [Int.toNat_natCast] at hR
        obtain ⟨_, _, p', c', e, _, _, hnd⟩ := HT.out
        injection e with e1 _ e2
        subst e1 e2
        obtain ⟨b, off, rfl, hb, hnd⟩ := hnd (by omega)
        obtain ⟨kv, cv, hkv, _, hc⟩ := (hnd n hn).later B1 (Nat.le_refl _) hb
        have SK := Lib.hid (scroll_kid HCD.out.symm n hn)
        generalize T.getD n zNd = x at *
        have c0 : w1.cell? ⟨b, off + n * 34, none⟩ = some (.int .i8 x.kind) := hc 0 (by omega)
        have c3 : w1.cell? ⟨b, off + n * 34 + 3, none⟩ = some kv := hc 3 (by omega)
        have hbw : b < w1.heap.size := by have := B1.size; omega
        clear hc hnd HCD
        by_cases hk : x.kind = 6
        · rw [if_neg (by omega)] at hR
          obtain ⟨k, hkk, hnk, hkl⟩ := SK.out hk
          rw [hkk] at hkv hR
          obtain ⟨pk, ck, rfl, hck, _, _, hkc⟩ := hkv
          obtain ⟨bk, ok, rfl, hbk, hkc⟩ := hkc (by simp)
          have d0 : w1.cell? ⟨bk, ok, none⟩ = some (.int .i64 k) := hkc 0 (by simp)
          clear hkc
          obtain ⟨b2, off2, rfl, hb2, hbx⟩ := HB.out (by omega)
          have e8 : ∀ j, j < 4 → w1.cell? ⟨b2, off2 + n * 18 + 8 + j, none⟩ = some (.int .i64 (bx n (8 + j))) := fun j hj => by rw [(bcell B1).1 _ _ hb2, show off2 + n * 18 + 8 + j = off2 + (n * 18 + (8 + j)) by omega]; exact hbx n hn (8 + j) (by omega)
          have e0 : ∀ j, j < 4 → w1.cell? ⟨b2, off2 + k * 18 + j, none⟩ = some (.int .i64 (bx k j)) := fun j hj => by rw [(bcell B1).1 _ _ hb2, show off2 + k * 18 + j = off2 + (k * 18 + j) by omega]; exact hbx k hkl j (by omega)
          have v0 := e8 0 (by omega); have v1 := e8 1 (by omega); have v2 := e8 2 (by omega); have v3 := e8 3 (by omega)
          have u0 := e0 0 (by omega); have u1 := e0 1 (by omega); have u2 := e0 2 (by omega); have u3 := e0 3 (by omega)
          simp only [Nat.add_zero, Nat.reduceAdd] at v0 v1 v2 v3 u0 u1 u2 u3
          have hb2w : b2 < w1.heap.size := by have := B1.size; omega
          have hkN : (k : Int) < (T.length : Int) := by omega
          have dk : (x.kind != 6) = false := by rw [bne_eq_false_iff_eq]; exact hk
          have hR' : R0 = max 0 (szF (bx k 2) - szF (bx n 10)) ∧ R1 = max 0 (szF (bx k 3) - szF (bx n 11)) ∧ R2 = 0 := by
            simp only [List.getD_cons_zero, Int.toNat_natCast] at hR
            injection hR with g0 hR
            injection hR with g1 g2
            exact ⟨g0, g1, g2⟩
          have HR := Lib.hid hR'
          clear hR hR' hk e8 e0 hbx SK hkk h1 h2
          generalize bx n 8 = vx at *
          generalize bx n 9 = vy at *
          generalize bx n 10 = vw at *
          generalize bx n 11 = vh at *
          generalize bx k 0 = kx at *
          generalize bx k 1 = ky at *
          generalize bx k 2 = kw at *
          generalize bx k 3 = kh at *
          go_split_ands
          go_upto_region 8 with (fail)
          go_cut [10, 11] (fun p q wx => ∃ P Q : Nat, p = .pointer (some ⟨P, 0, none⟩) ∧ q = .pointer (some ⟨Q, 0, none⟩) ∧ (w.heap.size + 1 < P ∧ w.heap.size + 1 < Q) ∧ (P < wx.heap.size ∧ Q < wx.heap.size ∧ w.heap.size + 1 < wx.heap.size ∧ wx.cell? ⟨P, 0, none⟩ = some (.int .i64 vx) ∧ wx.cell? ⟨P, 1, none⟩ = some (.int .i64 vy) ∧ wx.cell? ⟨P, 2, none⟩ = some (.int .i64 vw) ∧ wx.cell? ⟨P, 3, none⟩ = some (.int .i64 vh) ∧ wx.cell? ⟨Q, 0, none⟩ = some (.int .i64 kx) ∧ wx.cell? ⟨Q, 1, none⟩ = some (.int .i64 ky) ∧ wx.cell? ⟨Q, 2, none⟩ = some (.int .i64 kw) ∧ wx.cell? ⟨Q, 3, none⟩ = some (.int .i64 kh) ∧ wx.cell? ⟨w.heap.size + 1, 0, none⟩ = some (.int .i64 0) ∧ wx.cell? ⟨w.heap.size + 1, 1, none⟩ = some (.int .i64 0) ∧ wx.frozen? ⟨w.heap.size + 1, 0, none⟩ = false ∧ wx.frozen? ⟨w.heap.size + 1, 1, none⟩ = false) ∧ Below w.heap.size w wx)
          case first =>
            have hkN' : k < T.length := by omega
            have HSF := Lib.hid (fun w' (h : Below w1.heap.size w1 w') => show (w'.cell? ⟨w.heap.size, 0, none⟩ = some (.slice (some ⟨b, off, none⟩) T.length co) ∧ w'.cell? ⟨b, off + n * 34 + 3, none⟩ = some (.slice (some ⟨bk, ok, none⟩) [(k : Int)].length ck) ∧ w'.cell? ⟨bk, ok, none⟩ = some (.int .i64 k) ∧ w'.cell? ⟨b2, off2 + n * 18 + 8, none⟩ = some (.int .i64 vx) ∧ w'.cell? ⟨b2, off2 + n * 18 + 9, none⟩ = some (.int .i64 vy) ∧ w'.cell? ⟨b2, off2 + n * 18 + 10, none⟩ = some (.int .i64 vw) ∧ w'.cell? ⟨b2, off2 + n * 18 + 11, none⟩ = some (.int .i64 vh) ∧ w'.cell? ⟨b2, off2 + k * 18, none⟩ = some (.int .i64 kx) ∧ w'.cell? ⟨b2, off2 + k * 18 + 1, none⟩ = some (.int .i64 ky) ∧ w'.cell? ⟨b2, off2 + k * 18 + 2, none⟩ = some (.int .i64 kw) ∧ w'.cell? ⟨b2, off2 + k * 18 + 3, none⟩ = some (.int .i64 kh)) from by
              obtain ⟨hc, _⟩ := bcell h
              refine ⟨?_, ?_, ?_, ?_, ?_, ?_, ?_, ?_, ?_, ?_, ?_⟩ <;> (rw [hc _ _ (by assumption)]; assumption))
            go_region_held3 (fun w' => Below w1.heap.size w1 w' ∧ (w'.cell? ⟨w.heap.size, 0, none⟩ = some (.slice (some ⟨b, off, none⟩) T.length co) ∧ w'.cell? ⟨b, off + n * 34 + 3, none⟩ = some (.slice (some ⟨bk, ok, none⟩) [(k : Int)].length ck) ∧ w'.cell? ⟨bk, ok, none⟩ = some (.int .i64 k) ∧ w'.cell? ⟨b2, off2 + n * 18 + 8, none⟩ = some (.int .i64 vx) ∧ w'.cell? ⟨b2, off2 + n * 18 + 9, none⟩ = some (.int .i64 vy) ∧ w'.cell? ⟨b2, off2 + n * 18 + 10, none⟩ = some (.int .i64 vw) ∧ w'.cell? ⟨b2, off2 + n * 18 + 11, none⟩ = some (.int .i64 vh) ∧ w'.cell? ⟨b2, off2 + k * 18, none⟩ = some (.int .i64 kx) ∧ w'.cell? ⟨b2, off2 + k * 18 + 1, none⟩ = some (.int .i64 ky) ∧ w'.cell? ⟨b2, off2 + k * 18 + 2, none⟩ = some (.int .i64 kw) ∧ w'.cell? ⟨b2, off2 + k * 18 + 3, none⟩ = some (.int .i64 kh))) ((refine with_facts_ (HSF.out _) ?_; go_grown)) (first | fail | fail)
            all_goals go_wp2
            all_goals go_meet
            all_goals refine ⟨_, _, rfl, rfl, ?_, ?_, by go_grown⟩
            all_goals ((repeat' apply And.intro) <;> first | (simp; done) | (simp; omega) | (simp [go_sem, *]; done) | omega)
          case rest =>
          obtain ⟨P, Q, rfl, rfl, hPQ, FP, BP⟩ := hcut
          go_upto_region 9 with (fail)
          clear HT HB
          go_split_ands
          have ne1 : P ≠ w.heap.size + 1 := by omega
          have ne2 : Q ≠ w.heap.size + 1 := by omega
          have a1 := szF_bd kw; have a2 := szF_bd vw; have a3 := szF_bd kh; have a4 := szF_bd vh
          have r1 : IntKind.i64.wrap (szF kw - szF vw) = szF kw - szF vw := IntWalk.i64_in _ (by omega)
          have r2 : IntKind.i64.wrap (szF kh - szF vh) = szF kh - szF vh := IntWalk.i64_in _ (by omega)
          refine wp_region_tame (phase1 17 (fun (t : Bool) => if t then ((wc.drew.setCell ⟨w.heap.size + 1, 0, none⟩ (.int .i64 (max 0 (szF kw - szF vw)))).setCell ⟨w.heap.size + 1, 1, none⟩ (.int .i64 (max 0 (szF kh - szF vh)))) else wc.drew)) (by kernel_rfl) (by kernel_rfl) (phase1_init _ rfl) ?_
          apply lexT_value1 (by decide) (by rfl)
          · (rintro (_ | _) <;> go_simp <;> try rfl)
          simp only [Act.put, List.setIfInBounds_toArray, List.set_cons_zero, List.set_cons_succ]
          apply lexT_value1 (by decide) (by rfl)
          · (rintro (_ | _) <;> go_simp <;> try rfl)
          simp only [Act.put, List.setIfInBounds_toArray, List.set_cons_zero, List.set_cons_succ]
          apply lexT_call1 (by decide) (by rfl)
          · (rintro (_ | _) <;> go_simp <;> exact ⟨rfl, rfl⟩)
          · exact fun w => scroll_size_any kw w
          simp only [Act.put, List.setIfInBounds_toArray, List.set_cons_zero, List.set_cons_succ]
          apply lexT_value1 (by decide) (by rfl)
          · (rintro (_ | _) <;> go_simp <;> try rfl)
          simp only [Act.put, List.setIfInBounds_toArray, List.set_cons_zero, List.set_cons_succ]
          apply lexT_value1 (by decide) (by rfl)
          · (rintro (_ | _) <;> go_simp <;> try rfl)
          simp only [Act.put, List.setIfInBounds_toArray, List.set_cons_zero, List.set_cons_succ]
          apply lexT_call1 (by decide) (by rfl)
          · (rintro (_ | _) <;> go_simp <;> exact ⟨rfl, rfl⟩)
          · exact fun w => scroll_size_any vw w
          simp only [Act.put, List.setIfInBounds_toArray, List.set_cons_zero, List.set_cons_succ]
          apply lexT_value1 (by decide) (by rfl)
          · (rintro (_ | _) <;> go_simp <;> try rfl)
          simp only [Act.put, List.setIfInBounds_toArray, List.set_cons_zero, List.set_cons_succ]
          apply lexT_value1 (by decide) (by rfl)
          · (rintro (_ | _) <;> go_simp <;> try rfl)
          simp only [Act.put, List.setIfInBounds_toArray, List.set_cons_zero, List.set_cons_succ]
          apply lexT_value1 (by decide) (by rfl)
          · (rintro (_ | _) <;> go_simp <;> try rfl)
          simp only [Act.put, List.setIfInBounds_toArray, List.set_cons_zero, List.set_cons_succ]
          apply lexT_value1 (by decide) (by rfl)
          · (rintro (_ | _) <;> go_simp <;> try rfl)
          simp only [Act.put, List.setIfInBounds_toArray, List.set_cons_zero, List.set_cons_succ]
          apply lexT_call1 (by decide) (by rfl)
          · (rintro (_ | _) <;> go_simp <;> exact ⟨rfl, rfl⟩)
          · exact fun w => scroll_size_any kh w
          simp only [Act.put, List.setIfInBounds_toArray, List.set_cons_zero, List.set_cons_succ]
          apply lexT_value1 (by decide) (by rfl)
          · (rintro (_ | _) <;> go_simp <;> try rfl)
          simp only [Act.put, List.setIfInBounds_toArray, List.set_cons_zero, List.set_cons_succ]
          apply lexT_value1 (by decide) (by rfl)
          · (rintro (_ | _) <;> go_simp <;> try rfl)
          simp only [Act.put, List.setIfInBounds_toArray, List.set_cons_zero, List.set_cons_succ]
          apply lexT_call1 (by decide) (by rfl)
          · (rintro (_ | _) <;> go_simp <;> exact ⟨rfl, rfl⟩)
          · exact fun w => scroll_size_any vh w
          simp only [Act.put, List.setIfInBounds_toArray, List.set_cons_zero, List.set_cons_succ]
          apply lexT_value1 (by decide) (by rfl)
          · (rintro (_ | _) <;> go_simp <;> try rfl)
          simp only [Act.put, List.setIfInBounds_toArray, List.set_cons_zero, List.set_cons_succ]
          apply lexT_value1 (by decide) (by rfl)
          · (rintro (_ | _) <;> go_simp <;> try rfl)
          simp only [Act.put, List.setIfInBounds_toArray, List.set_cons_zero, List.set_cons_succ]
          apply lexT_value1 (by decide) (by rfl)
          · (rintro (_ | _) <;> go_simp <;> try rfl)
          simp only [Act.put, List.setIfInBounds_toArray, List.set_cons_zero, List.set_cons_succ]
          apply lexT_store1 (by rfl)
          · (go_simp; try rfl)
          simp only [Act.put, List.setIfInBounds_toArray, List.set_cons_zero, List.set_cons_succ]
          apply lexT_value1 (by decide) (by rfl)
          · (rintro (_ | _) <;> go_simp <;> try rfl)
          simp only [Act.put, List.setIfInBounds_toArray, List.set_cons_zero, List.set_cons_succ]
          apply lexT_nil
          intro w' hw'
          have hw2 := phase1_end (by decide) hw'
          simp only [if_true] at hw2
          subst hw2
          clear hw'
          have BF : Below w.heap.size w ((wc.drew.setCell ⟨w.heap.size + 1, 0, none⟩ (.int .i64 (max 0 (szF kw - szF vw)))).setCell ⟨w.heap.size + 1, 1, none⟩ (.int .i64 (max 0 (szF kh - szF vh)))) := ((Below.drew BP).setCell (by simp) _).setCell (by simp) _
          go_wp2
          exact bodyPost_ret (v := .tuple #[.agg #[.int .i64 (max 0 (szF kw - szF vw)), .int .i64 (max 0 (szF kh - szF vh))], .int .i64 0]) (by simp [results, Try.results23, go_sem, *]) rfl ⟨by rw [HR.out.1, HR.out.2.1, HR.out.2.2], BF⟩
        · rw [if_pos (.inr (.inr hk))] at hR
          injection hR with e0 hR
          injection hR with e1 e2
          subst e0 e1 e2
          have dk : (x.kind != 6) = true := by rw [bne_iff_ne]; exact hk
          clear hk SK hkv
          go_split_ands
          go_wp2
          exact bodyPost_ret (v := .tuple #[.agg #[.int .i64 0, .int .i64 0], .int .i64 150]) (by simp [results, Try.results23, go_sem, *]) rfl ⟨rfl, by go_grown⟩
    · rw [if_pos hl] at hR
      injection hR with e0 hR
      injection hR with e1 e2
      subst e0 e1 e2
      clear HCD
      go_split_ands
      go_wp2
      exact bodyPost_ret (v := .tuple #[.agg #[.int .i64 0, .int .i64 0], .int .i64 2]) (by simp [results, Try.results23, go_sem, *]) rfl ⟨rfl, by go_grown⟩
  · rw [if_pos k0] at hR
    injection hR with e0 hR
    injection hR with e1 e2
    subst e0 e1 e2
    have k1 : (R2 != 0) = true := by rw [bne_iff_ne]; exact k0
    clear k0 HCD
    go_split_ands
    go_wp2
    exact bodyPost_ret (v := .tuple #[.agg #[.int .i64 0, .int .i64 0], .int .i64 R2]) (by simp [results, Try.results23, go_sem, *]) rfl ⟨rfl, by go_grown⟩
end Go.Proofs.Ytegdokchkblpiaa
