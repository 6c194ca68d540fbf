/- Trees: contract of the reference's Most. -/
import Derived.Test.YtegdokchkblpiaaLntE
namespace Go.Proofs.Ytegdokchkblpiaa
open Go.RowKit Go.Deep
set_option linter.unusedVariables false
set_option linter.unusedSimpArgs false

set_option maxRecDepth 100000 in
set_option maxHeartbeats 16000000 in
theorem ref_Most_any (po pb : Option Addr) (co cb nb : Nat) (T : List Nd) (bx : Nat → Nat → Int) (i : Int) (w : World) (hT : TreeAt w (.slice po T.length co) T) (hB : BoxAt w pb nb bx) (hnb : nb ≤ 9223372036854775807) : Calls Try.prog 20 #[.agg #[.slice po T.length co], .slice pb nb cb, .int .i64 i] w fun e w' => e = .returned (.tuple #[.agg #[.int .i64 (mostR T nb bx i).1, .int .i64 (mostR T nb bx i).2.1], .int .i64 (mostR T nb bx i).2.2]) ∧ Below w.heap.size w w' := by
  have HT := Lib.hid hT
  have HB := Lib.hid hB
  have htl := hT.len
  clear hT hB
  obtain ⟨cd, hcd⟩ : ∃ z, z = (checkT T).1 := ⟨_, rfl⟩
  have HCD := Lib.hid hcd
  clear hcd
  obtain ⟨⟨R0, R1, R2⟩, hR⟩ : ∃ R, R = mostR T nb bx i := ⟨_, rfl⟩
  rw [← hR]
  unfold mostR at hR
  rw [← HCD.out] at hR
  have k0 : cd = 0 ∨ cd ≠ 0 := by omega
  go_enter Try.func20, Try.ntmps20
  go_wp2_with fail
  refine (ref_Check_any po co T _ (HT.out.later (by go_grown))).mono ?_
  rw [← HCD.out]
  generalize (checkT T).2 = c2 at *
  rintro e w1 ⟨rfl, hb1⟩
  have B1 : Below w.heap.size w w1 := below_via hb1 (by go_grown)
  have F1 : w.heap.size + 1 < w1.heap.size ∧ w.heap.size < w1.heap.size ∧ w1.cell? ⟨w.heap.size, 0, none⟩ = some (.slice po T.length co) ∧ w1.cell? ⟨w.heap.size + 1, 0, none⟩ = some (.int .i64 0) ∧ w1.cell? ⟨w.heap.size + 1, 1, none⟩ = some (.int .i64 0) ∧ w1.frozen? ⟨w.heap.size + 1, 0, none⟩ = false ∧ w1.frozen? ⟨w.heap.size + 1, 1, none⟩ = false := by
    obtain ⟨hc, hf⟩ := bcell hb1
    have hz := hb1.size
    simp only [World.size_alloc] at hz
    refine ⟨by omega, by omega, ?_, ?_, ?_, ?_, ?_⟩
    · rw [hc _ _ (by simp <;> omega)]; simp [go_sem]
    · rw [hc _ _ (by simp <;> omega)]; simp [go_sem]
    · rw [hc _ _ (by simp <;> omega)]; simp [go_sem]
    · rw [hf _ _ (by simp <;> omega)]; simp [go_sem]
    · rw [hf _ _ (by simp <;> omega)]; simp [go_sem]
  clear hb1
  rcases k0 with k0 | k0
  · subst k0
    rw [if_neg (by decide)] at hR
    by_cases hl : nb = T.length
    · subst hl
      rw [if_neg (fun h => h rfl)] at hR
      rcases (show i < 0 ∨ (0 ≤ i ∧ (T.length : Int) ≤ i) ∨ (0 ≤ i ∧ i < (T.length : Int)) by omega) with h1 | ⟨h1, h2⟩ | ⟨h1, h2⟩
      · rw [if_pos (.inl h1)] at hR
        injection hR with e0 hR
        injection hR with e1 e2
        subst e0 e1 e2
        clear HCD
        go_split_ands
        go_wp2
        exact bodyPost_ret (v := .tuple #[.agg #[.int .i64 0, .int .i64 0], .int .i64 150]) (by simp [results, Try.results20, go_sem, *]) rfl ⟨rfl, by go_grown⟩
      · rw [if_pos (.inr (.inl h2))] at hR
        injection hR with e0 hR
        injection hR with e1 e2
        subst e0 e1 e2
        clear HCD
        go_split_ands
        go_wp2
        exact bodyPost_ret (v := .tuple #[.agg #[.int .i64 0, .int .i64 0], .int .i64 150]) (by simp [results, Try.results20, go_sem, *]) rfl ⟨rfl, by go_grown⟩
      · obtain ⟨n, rfl⟩ : ∃ n : Nat, i = (n : Int) := ⟨i.toNat, by omega⟩
        have hn : n < T.length := by omega
        rw [Int.toNat_natCast] at hR
        obtain ⟨_, _, p', c', e, _, _, hnd⟩ := HT.out
        injection e with e1 _ e2
        subst e1 e2
        obtain ⟨b, off, rfl, hb, hnd⟩ := hnd (by omega)
        obtain ⟨kv, cv, hkv, _, hc⟩ := (hnd n hn).later B1 (Nat.le_refl _) hb
        have SK := Lib.hid (scroll_kid HCD.out.symm n hn)
        generalize T.getD n zNd = x at *
        have c0 : w1.cell? ⟨b, off + n * 34, none⟩ = some (.int .i8 x.kind) := hc 0 (by omega)
        have c3 : w1.cell? ⟨b, off + n * 34 + 3, none⟩ = some kv := hc 3 (by omega)
        have hbw : b < w1.heap.size := by have := B1.size; omega
        clear hc hnd HCD
        by_cases hk : x.kind = 6
        · rw [if_neg (by omega)] at hR
          obtain ⟨k, hkk, hnk, hkl⟩ := SK.out hk
          rw [hkk] at hkv hR
          obtain ⟨pk, ck, rfl, hck, _, _, hkc⟩ := hkv
          obtain ⟨bk, ok, rfl, hbk, hkc⟩ := hkc (by simp)
          have d0 : w1.cell? ⟨bk, ok, none⟩ = some (.int .i64 k) := hkc 0 (by simp)
          clear hkc
          obtain ⟨b2, off2, rfl, hb2, hbx⟩ := HB.out (by omega)
          have e8 : ∀ j, j < 4 → w1.cell? ⟨b2, off2 + n * 18 + 8 + j, none⟩ = some (.int .i64 (bx n (8 + j))) := fun j hj => by rw [(bcell B1).1 _ _ hb2, show off2 + n * 18 + 8 + j = off2 + (n * 18 + (8 + j)) by omega]; exact hbx n hn (8 + j) (by omega)
          have e0 : ∀ j, j < 4 → w1.cell? ⟨b2, off2 + k * 18 + j, none⟩ = some (.int .i64 (bx k j)) := fun j hj => by rw [(bcell B1).1 _ _ hb2, show off2 + k * 18 + j = off2 + (k * 18 + j) by omega]; exact hbx k hkl j (by omega)
          have v0 := e8 0 (by omega); have v1 := e8 1 (by omega); have v2 := e8 2 (by omega); have v3 := e8 3 (by omega)
          have u0 := e0 0 (by omega); have u1 := e0 1 (by omega); have u2 := e0 2 (by omega); have u3 := e0 3 (by omega)
          simp only [Nat.add_zero, Nat.reduceAdd] at v0 v1 v2 v3 u0 u1 u2 u3
          have hb2w : b2 < w1.heap.size := by have := B1.size; omega
          have hkN : (k : Int) < (T.length : Int) := by omega
          have dk : (x.kind != 6) = false := by rw [bne_eq_false_iff_eq]; exact hk
          have hR' : R0 = max 0 (szF (bx k 2) - szF (bx n 10)) ∧ R1 = max 0 (szF (bx k 3) - szF (bx n 11)) ∧ R2 = 0 := by
            simp only [List.getD_cons_zero, Int.toNat_natCast] at hR
            injection hR with g0 hR
            injection hR with g1 g2
            exact ⟨g0, g1, g2⟩
          have HR := Lib.hid hR'
          clear hR hR' hk e8 e0 hbx SK hkk h1 h2
          generalize bx n 8 = vx at *
          generalize bx n 9 = vy at *
          generalize bx n 10 = vw at *
          generalize bx n 11 = vh at *
          generalize bx k 0 = kx at *
          generalize bx k 1 = ky at *
          generalize bx k 2 = kw at *
          generalize bx k 3 = kh at *
          go_split_ands
          go_upto_region 10 with (fail)
          generalize hwc : World.alloc (World.alloc w1 _) _ = wc
          obtain ⟨P, hP⟩ : ∃ P, P = w1.heap.size := ⟨_, rfl⟩
          obtain ⟨Q, hQ⟩ : ∃ Q, Q = w1.heap.size + 1 := ⟨_, rfl⟩
          have hPQ : w.heap.size + 1 < P ∧ w.heap.size + 1 < Q := by omega
          have FP : P < wc.heap.size ∧ Q < wc.heap.size ∧ w.heap.size + 1 < wc.heap.size ∧ wc.cell? ⟨P, 0, none⟩ = some (.int .i64 vx) ∧ wc.cell? ⟨P, 1, none⟩ = some (.int .i64 vy) ∧ wc.cell? ⟨P, 2, none⟩ = some (.int .i64 vw) ∧ wc.cell? ⟨P, 3, none⟩ = some (.int .i64 vh) ∧ wc.cell? ⟨Q, 0, none⟩ = some (.int .i64 kx) ∧ wc.cell? ⟨Q, 1, none⟩ = some (.int .i64 ky) ∧ wc.cell? ⟨Q, 2, none⟩ = some (.int .i64 kw) ∧ wc.cell? ⟨Q, 3, none⟩ = some (.int .i64 kh) ∧ wc.cell? ⟨w.heap.size + 1, 0, none⟩ = some (.int .i64 0) ∧ wc.cell? ⟨w.heap.size + 1, 1, none⟩ = some (.int .i64 0) ∧ wc.frozen? ⟨w.heap.size + 1, 0, none⟩ = false ∧ wc.frozen? ⟨w.heap.size + 1, 1, none⟩ = false := by
            rw [← hwc, hP, hQ]
            clear hwc hP hQ
            ((repeat' apply And.intro) <;> first | (simp; done) | (simp; omega) | (simp [go_sem, *]; done) | omega)
          have BP : Below w.heap.size w wc := by rw [← hwc]; go_grown
          rw [← hQ, ← hP]
          clear HT HB hwc hP hQ
          go_split_ands
          have ne1 : P ≠ w.heap.size + 1 := by omega
          have ne2 : Q ≠ w.heap.size + 1 := by omega
          have a1 := szF_bd kw; have a2 := szF_bd vw; have a3 := szF_bd kh; have a4 := szF_bd vh
          have r1 : IntKind.i64.wrap (szF kw - szF vw) = szF kw - szF vw := IntWalk.i64_in _ (by omega)
          have r2 : IntKind.i64.wrap (szF kh - szF vh) = szF kh - szF vh := IntWalk.i64_in _ (by omega)
          refine wp_region_tame (phase1 15 (fun (t : Bool) => if t then ((wc.drew.setCell ⟨w.heap.size + 1, 0, none⟩ (.int .i64 (max 0 (szF kw - szF vw)))).setCell ⟨w.heap.size + 1, 1, none⟩ (.int .i64 (max 0 (szF kh - szF vh)))) else wc.drew)) (by kernel_rfl) (by kernel_rfl) (phase1_init _ rfl) ?_
          apply lexT_value1 (by decide) (by rfl)
          · (rintro (_ | _) <;> go_simp <;> try rfl)
          simp only [Act.put, List.setIfInBounds_toArray, List.set_cons_zero, List.set_cons_succ]
          apply lexT_value1 (by decide) (by rfl)
          · (rintro (_ | _) <;> go_simp <;> try rfl)
          simp only [Act.put, List.setIfInBounds_toArray, List.set_cons_zero, List.set_cons_succ]
          apply lexT_call1 (by decide) (by rfl)
          · (rintro (_ | _) <;> go_simp <;> exact ⟨rfl, rfl⟩)
          · exact fun w => ref_size_any kw w
          simp only [Act.put, List.setIfInBounds_toArray, List.set_cons_zero, List.set_cons_succ]
          apply lexT_value1 (by decide) (by rfl)
          · (rintro (_ | _) <;> go_simp <;> try rfl)
          simp only [Act.put, List.setIfInBounds_toArray, List.set_cons_zero, List.set_cons_succ]
          apply lexT_value1 (by decide) (by rfl)
          · (rintro (_ | _) <;> go_simp <;> try rfl)
          simp only [Act.put, List.setIfInBounds_toArray, List.set_cons_zero, List.set_cons_succ]
          apply lexT_call1 (by decide) (by rfl)
          · (rintro (_ | _) <;> go_simp <;> exact ⟨rfl, rfl⟩)
          · exact fun w => ref_size_any vw w
          simp only [Act.put, List.setIfInBounds_toArray, List.set_cons_zero, List.set_cons_succ]
          apply lexT_call1 (by decide) (by rfl)
          · (rintro (_ | _) <;> go_simp <;> exact ⟨rfl, rfl⟩)
          · exact fun w => ref_above_any (szF kw) (szF vw) w (szF_bd _) (szF_bd _)
          simp only [Act.put, List.setIfInBounds_toArray, List.set_cons_zero, List.set_cons_succ]
          apply lexT_value1 (by decide) (by rfl)
          · (rintro (_ | _) <;> go_simp <;> try rfl)
          simp only [Act.put, List.setIfInBounds_toArray, List.set_cons_zero, List.set_cons_succ]
          apply lexT_value1 (by decide) (by rfl)
          · (rintro (_ | _) <;> go_simp <;> try rfl)
          simp only [Act.put, List.setIfInBounds_toArray, List.set_cons_zero, List.set_cons_succ]
          apply lexT_call1 (by decide) (by rfl)
          · (rintro (_ | _) <;> go_simp <;> exact ⟨rfl, rfl⟩)
          · exact fun w => ref_size_any kh w
          simp only [Act.put, List.setIfInBounds_toArray, List.set_cons_zero, List.set_cons_succ]
          apply lexT_value1 (by decide) (by rfl)
          · (rintro (_ | _) <;> go_simp <;> try rfl)
          simp only [Act.put, List.setIfInBounds_toArray, List.set_cons_zero, List.set_cons_succ]
          apply lexT_value1 (by decide) (by rfl)
          · (rintro (_ | _) <;> go_simp <;> try rfl)
          simp only [Act.put, List.setIfInBounds_toArray, List.set_cons_zero, List.set_cons_succ]
          apply lexT_call1 (by decide) (by rfl)
          · (rintro (_ | _) <;> go_simp <;> exact ⟨rfl, rfl⟩)
          · exact fun w => ref_size_any vh w
          simp only [Act.put, List.setIfInBounds_toArray, List.set_cons_zero, List.set_cons_succ]
          apply lexT_call1 (by decide) (by rfl)
          · (rintro (_ | _) <;> go_simp <;> exact ⟨rfl, rfl⟩)
          · exact fun w => ref_above_any (szF kh) (szF vh) w (szF_bd _) (szF_bd _)
          simp only [Act.put, List.setIfInBounds_toArray, List.set_cons_zero, List.set_cons_succ]
          apply lexT_value1 (by decide) (by rfl)
          · (rintro (_ | _) <;> go_simp <;> try rfl)
          simp only [Act.put, List.setIfInBounds_toArray, List.set_cons_zero, List.set_cons_succ]
          apply lexT_store1 (by rfl)
          · (go_simp; try rfl)
          simp only [Act.put, List.setIfInBounds_toArray, List.set_cons_zero, List.set_cons_succ]
          apply lexT_value1 (by decide) (by rfl)
          · (rintro (_ | _) <;> go_simp <;> try rfl)
          simp only [Act.put, List.setIfInBounds_toArray, List.set_cons_zero, List.set_cons_succ]
          apply lexT_nil
          intro w' hw'
          have hw2 := phase1_end (by decide) hw'
          simp only [if_true] at hw2
          subst hw2
          clear hw'
          have BF : Below w.heap.size w ((wc.drew.setCell ⟨w.heap.size + 1, 0, none⟩ (.int .i64 (max 0 (szF kw - szF vw)))).setCell ⟨w.heap.size + 1, 1, none⟩ (.int .i64 (max 0 (szF kh - szF vh)))) := ((Below.drew BP).setCell (by simp) _).setCell (by simp) _
          go_wp2
          exact bodyPost_ret (v := .tuple #[.agg #[.int .i64 (max 0 (szF kw - szF vw)), .int .i64 (max 0 (szF kh - szF vh))], .int .i64 0]) (by simp [results, Try.results20, go_sem, *]) rfl ⟨by rw [HR.out.1, HR.out.2.1, HR.out.2.2], BF⟩
        · rw [if_pos (.inr (.inr hk))] at hR
          injection hR with e0 hR
          injection hR with e1 e2
          subst e0 e1 e2
          have dk : (x.kind != 6) = true := by rw [bne_iff_ne]; exact hk
          clear hk SK hkv
          go_split_ands
          go_wp2
          exact bodyPost_ret (v := .tuple #[.agg #[.int .i64 0, .int .i64 0], .int .i64 150]) (by simp [results, Try.results20, go_sem, *]) rfl ⟨rfl, by go_grown⟩
    · rw [if_pos hl] at hR
      injection hR with e0 hR
      injection hR with e1 e2
      subst e0 e1 e2
      clear HCD
      go_split_ands
      go_wp2
      exact bodyPost_ret (v := .tuple #[.agg #[.int .i64 0, .int .i64 0], .int .i64 2]) (by simp [results, Try.results20, go_sem, *]) rfl ⟨rfl, by go_grown⟩
  · rw [if_pos k0] at hR
    injection hR with e0 hR
    injection hR with e1 e2
    subst e0 e1 e2
    have k1 : (R2 != 0) = true := by rw [bne_iff_ne]; exact k0
    clear k0 HCD
    go_split_ands
    go_wp2
    exact bodyPost_ret (v := .tuple #[.agg #[.int .i64 0, .int .i64 0], .int .i64 R2]) (by simp [results, Try.results20, go_sem, *]) rfl ⟨rfl, by go_grown⟩
end Go.Proofs.Ytegdokchkblpiaa
