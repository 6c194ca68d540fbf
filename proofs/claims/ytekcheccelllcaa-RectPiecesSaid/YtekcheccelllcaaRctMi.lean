/- The walk of RectMinus. -/
import Derived.Test.YtekcheccelllcaaRctAq
import Derived.Test.YtekcheccelllcaaRctU
import Derived.Test.YtekcheccelllcaaRctW
namespace Go.Proofs.Ytekcheccelllcaa
open Go.RowKit
set_option linter.unusedVariables false
set_option linter.unusedSimpArgs false

theorem isR_minus (a b : R4) : ∀ r ∈ minusR a b, isR r := by
  intro r hr
  unfold minusR at hr
  split at hr
  · split at hr
    · unfold partsR at hr
      obtain ⟨h1, _⟩ := List.mem_filter.1 hr
      obtain ⟨b, _, rfl⟩ := List.mem_map.1 h1
      exact isR_mk _ _ _ _
    · simp only [List.mem_singleton] at hr; subst hr; exact isR_mk _ _ _ _
  · simp at hr
theorem minus_le (a b : R4) : (minusR a b).length ≤ 4 := by
  unfold minusR
  split
  · split
    · exact parts_le _ _ _
    · simp
  · simp
/-- two lists laid in one block -/
theorem told_two {w1 w2 w3 w : World} {p q : Value} {L : List R4} (hp : OwnR w2 w1.heap.size p L) (hq : OwnR w3 w2.heap.size q L) (b12 : w1.heap.size ≤ w2.heap.size) (b23 : Below w2.heap.size w2 w3) (b3 : Below w3.heap.size w3 w) (t : TypeId) :
    Told (w.alloc (.cells #[p, q] t)) w1.heap.size w.heap.size 0 [p, q] [L, L] := by
  have p3 : w.ownsRow w1.heap.size 23 4 p L.length (cellsR L) := own_later (own_later hp b23) b3
  have q3 : w.ownsRow w2.heap.size 23 4 q L.length (cellsR L) := own_later hq b3
  have zp : ∀ g, p.ownBlock = some g → g < w2.heap.size := fun g hg => (own_lt hp g hg).1
  have zq : ∀ g, q.ownBlock = some g → w2.heap.size ≤ g := fun g hg => (own_lt hq g hg).2
  have zq3 : ∀ g, q.ownBlock = some g → g < w3.heap.size := fun g hg => (own_lt hq g hg).1
  have s3 := b23.size
  have s4 := b3.size
  have hal : Below w.heap.size w (w.alloc (.cells #[p, q] t)) := (Below.refl _ _).alloc (Nat.le_refl _) _
  have own2 : ∀ i, i < 2 → (w.alloc (.cells #[p, q] t)).ownsRow w1.heap.size 23 4 ([p, q].getD i undef) ([L, L].getD i []).length (cellsR ([L, L].getD i [])) := by
    intro i hi
    rcases i with _ | _ | i
    · exact own_later p3 hal
    · exact own_mono (own_later q3 hal) b12
    · omega
  refine ⟨rfl, by simp, ?_, own2, ?_, ?_⟩
  · intro i hi
    rcases i with _ | _ | i
    · simp [go_sem]
    · simp [go_sem]
    · simp at hi; omega
  · intro i j hi hj hij
    rcases hp' : p.ownBlock with _ | gp
    · rcases hq' : q.ownBlock with _ | gq
      · left; rcases i with _ | _ | i
        · exact hp'
        · exact hq'
        · simp at hi; omega
      · rcases i with _ | _ | i
        · left; exact hp'
        · right
          rcases j with _ | _ | j
          · show q.ownBlock ≠ p.ownBlock
            rw [hp', hq']; simp
          · omega
          · simp at hj; omega
        · simp at hi; omega
    · have z1 := zp gp hp'
      right
      rcases i with _ | _ | i
      · rcases j with _ | _ | j
        · omega
        · show p.ownBlock ≠ q.ownBlock
          rw [hp']; intro h
          have := zq gp h.symm
          omega
        · simp at hj; omega
      · rcases j with _ | _ | j
        · show q.ownBlock ≠ p.ownBlock
          rw [hp']; intro h
          have := zq gp h
          omega
        · omega
        · simp at hj; omega
      · simp at hi; omega
  · intro i hi
    rcases i with _ | _ | i
    · show p.ownBlock ≠ _
      intro h; have := zp _ h; omega
    · show q.ownBlock ≠ _
      intro h; have := zq3 _ h; omega
    · simp at hi; omega

set_option maxRecDepth 100000 in
set_option maxHeartbeats 16000000 in
theorem RectMinus_walk (ax ay aw ah bx b2 bw bh : Int) (w : World) (hax : -9223372036854775808 ≤ ax ∧ ax ≤ 9223372036854775807) (hay : -9223372036854775808 ≤ ay ∧ ay ≤ 9223372036854775807) (haw : -9223372036854775808 ≤ aw ∧ aw ≤ 9223372036854775807) (hah : -9223372036854775808 ≤ ah ∧ ah ≤ 9223372036854775807) (hbx : -9223372036854775808 ≤ bx ∧ bx ≤ 9223372036854775807) (hb2 : -9223372036854775808 ≤ b2 ∧ b2 ≤ 9223372036854775807) (hbw : -9223372036854775808 ≤ bw ∧ bw ≤ 9223372036854775807) (hbh : -9223372036854775808 ≤ bh ∧ bh ≤ 9223372036854775807) : Calls Try.prog 5 #[.agg #[.int .i64 ax, .int .i64 ay, .int .i64 aw, .int .i64 ah], .agg #[.int .i64 bx, .int .i64 b2, .int .i64 bw, .int .i64 bh]] w fun e w' => e = .returned (.bool true) ∧ Below w.heap.size w w' := by
  go_enter Try.func5, Try.ntmps5
  go_wp2_with fail
  refine (ref_Minus_any _ _ _ _ _ _ _ _ _ hax hay haw hah hbx hb2 hbw hbh).mono ?_
  rintro e w1 ⟨v1, rfl, o1, hq1⟩
  have B1 : Below w.heap.size w w1 := below_via hq1 (by go_grown)
  have S1 := B1.size
  have F1 : w.heap.size + 1 < w1.heap.size ∧ w1.cell? ⟨w.heap.size, 0, none⟩ = some (.int .i64 ax) ∧ w1.cell? ⟨w.heap.size, 1, none⟩ = some (.int .i64 ay) ∧ w1.cell? ⟨w.heap.size, 2, none⟩ = some (.int .i64 aw) ∧ w1.cell? ⟨w.heap.size, 3, none⟩ = some (.int .i64 ah) ∧ w1.cell? ⟨w.heap.size + 1, 0, none⟩ = some (.int .i64 bx) ∧ w1.cell? ⟨w.heap.size + 1, 1, none⟩ = some (.int .i64 b2) ∧ w1.cell? ⟨w.heap.size + 1, 2, none⟩ = some (.int .i64 bw) ∧ w1.cell? ⟨w.heap.size + 1, 3, none⟩ = some (.int .i64 bh) := by
    obtain ⟨hc, hf⟩ := bcell hq1
    have hz := hq1.size
    (try simp only [World.size_alloc, World.size_drew, World.size_setCell] at hz)
    (repeat' apply And.intro) <;> (first | omega | (rw [hc _ _ (by first | omega | (simp only [World.size_alloc, World.size_drew, World.size_setCell]; omega))]; first | (simp [go_sem]; done) | (simp [*]; done)) | (rw [hf _ _ (by first | omega | (simp only [World.size_alloc, World.size_drew, World.size_setCell]; omega))]; first | (simp [go_sem]; done) | (simp [*]; done)))
  clear hq1
  go_wp2_with fail
  refine (rect_Minus_any _ _ _ _ _ _ _ _ _ hax hay haw hah hbx hb2 hbw hbh).mono ?_
  rintro e w2 ⟨v2, rfl, o2, hq2⟩
  have B2 : Below w.heap.size w w2 := below_via hq2 (by go_grown)
  have S2 := B2.size
  have F2 : w.heap.size + 1 < w2.heap.size ∧ w2.cell? ⟨w.heap.size, 0, none⟩ = some (.int .i64 ax) ∧ w2.cell? ⟨w.heap.size, 1, none⟩ = some (.int .i64 ay) ∧ w2.cell? ⟨w.heap.size, 2, none⟩ = some (.int .i64 aw) ∧ w2.cell? ⟨w.heap.size, 3, none⟩ = some (.int .i64 ah) ∧ w2.cell? ⟨w.heap.size + 1, 0, none⟩ = some (.int .i64 bx) ∧ w2.cell? ⟨w.heap.size + 1, 1, none⟩ = some (.int .i64 b2) ∧ w2.cell? ⟨w.heap.size + 1, 2, none⟩ = some (.int .i64 bw) ∧ w2.cell? ⟨w.heap.size + 1, 3, none⟩ = some (.int .i64 bh) := by
    obtain ⟨hc, hf⟩ := bcell hq2
    have hz := hq2.size
    (try simp only [World.size_alloc, World.size_drew, World.size_setCell] at hz)
    (repeat' apply And.intro) <;> (first | omega | (rw [hc _ _ (by first | omega | (simp only [World.size_alloc, World.size_drew, World.size_setCell]; omega))]; first | (simp [go_sem, F1]; done) | (simp [*]; done)) | (rw [hf _ _ (by first | omega | (simp only [World.size_alloc, World.size_drew, World.size_setCell]; omega))]; first | (simp [go_sem, F1]; done) | (simp [*]; done)))
  go_wp2_with fail
  refine (rect_Minus_any _ _ _ _ _ _ _ _ _ hax hay haw hah hbx hb2 hbw hbh).mono ?_
  rintro e w3 ⟨v3, rfl, o3, hq3⟩
  have B3 : Below w.heap.size w w3 := below_via hq3 (by go_grown)
  have S3 := B3.size
  have F3 : w.heap.size + 1 < w3.heap.size ∧ w3.cell? ⟨w.heap.size, 0, none⟩ = some (.int .i64 ax) ∧ w3.cell? ⟨w.heap.size, 1, none⟩ = some (.int .i64 ay) ∧ w3.cell? ⟨w.heap.size, 2, none⟩ = some (.int .i64 aw) ∧ w3.cell? ⟨w.heap.size, 3, none⟩ = some (.int .i64 ah) ∧ w3.cell? ⟨w.heap.size + 1, 0, none⟩ = some (.int .i64 bx) ∧ w3.cell? ⟨w.heap.size + 1, 1, none⟩ = some (.int .i64 b2) ∧ w3.cell? ⟨w.heap.size + 1, 2, none⟩ = some (.int .i64 bw) ∧ w3.cell? ⟨w.heap.size + 1, 3, none⟩ = some (.int .i64 bh) := by
    obtain ⟨hc, hf⟩ := bcell hq3
    have hz := hq3.size
    (try simp only [World.size_alloc, World.size_drew, World.size_setCell] at hz)
    (repeat' apply And.intro) <;> (first | omega | (rw [hc _ _ (by first | omega | (simp only [World.size_alloc, World.size_drew, World.size_setCell]; omega))]; first | (simp [go_sem, F2]; done) | (simp [*]; done)) | (rw [hf _ _ (by first | omega | (simp only [World.size_alloc, World.size_drew, World.size_setCell]; omega))]; first | (simp [go_sem, F2]; done) | (simp [*]; done)))
  have hL : (minusR ⟨ax, ay, aw, ah⟩ ⟨bx, b2, bw, bh⟩).length ≤ 4 := minus_le _ _
  generalize hLe : minusR ⟨ax, ay, aw, ah⟩ ⟨bx, b2, bw, bh⟩ = L at *
  have HLe := Lib.hid hLe
  clear hLe
  obtain ⟨p1, c1, rfl, _, s1, _, _⟩ := own_sl o1 rfl
  obtain ⟨p2, c2, rfl, _, s2, _, _⟩ := own_sl o2 rfl
  obtain ⟨p3, c3, rfl, _, s3, _, _⟩ := own_sl o3 rfl
  have G3 : Below w2.heap.size w2 w3 := below_via hq3 (by go_grown)
  have G2 : Below w1.heap.size w1 w2 := below_via hq2 (by go_grown)
  have G13 : Below w1.heap.size w1 w3 := below_via G3 G2
  have H1 := Lib.hid (s1.later G13)
  have HW1 := Lib.hid s1
  have G13b := Lib.hid G13
  have H2 := Lib.hid (s2.later G3)
  have H3 := Lib.hid s3
  have O2 := Lib.hid o2
  have O3 := Lib.hid o3
  have G2b := G2
  have G3b := G3
  have K2 := Lib.hid G2
  have K3 := Lib.hid G3
  clear s1 s2 s3 o1 o2 o3 hq2 hq3 G13 G2 G3
  go_wp2_with fail
  refine (ref_Same_any _ _ _ _ _ _ L L _ rfl rfl (by omega) (H2.out.later (by go_grown)) (H1.out.later (by go_grown))).mono ?_
  rintro e w4 ⟨q4, rfl, hs4, hq4⟩
  obtain rfl : q4 = true := hs4.2 rfl
  have B4 : Below w.heap.size w w4 := below_via hq4 (by go_grown)
  have G4 : Below w3.heap.size w3 w4 := below_via hq4 (by go_grown)
  have S4 := B4.size
  have F4 : w.heap.size + 1 < w4.heap.size ∧ w4.cell? ⟨w.heap.size, 0, none⟩ = some (.int .i64 ax) ∧ w4.cell? ⟨w.heap.size, 1, none⟩ = some (.int .i64 ay) ∧ w4.cell? ⟨w.heap.size, 2, none⟩ = some (.int .i64 aw) ∧ w4.cell? ⟨w.heap.size, 3, none⟩ = some (.int .i64 ah) ∧ w4.cell? ⟨w.heap.size + 1, 0, none⟩ = some (.int .i64 bx) ∧ w4.cell? ⟨w.heap.size + 1, 1, none⟩ = some (.int .i64 b2) ∧ w4.cell? ⟨w.heap.size + 1, 2, none⟩ = some (.int .i64 bw) ∧ w4.cell? ⟨w.heap.size + 1, 3, none⟩ = some (.int .i64 bh) := by
    obtain ⟨hc, hf⟩ := bcell hq4
    have hz := hq4.size
    (try simp only [World.size_alloc, World.size_drew, World.size_setCell] at hz)
    (repeat' apply And.intro) <;> (first | omega | (rw [hc _ _ (by first | omega | (simp only [World.size_alloc, World.size_drew, World.size_setCell]; omega))]; first | (simp [go_sem, F3]; done) | (simp [*]; done)) | (rw [hf _ _ (by first | omega | (simp only [World.size_alloc, World.size_drew, World.size_setCell]; omega))]; first | (simp [go_sem, F3]; done) | (simp [*]; done)))
  clear hq4 hs4 F3
  go_wp2_with fail
  refine (ref_Same_any _ _ _ _ _ _ L L _ rfl rfl (by omega) (H3.out.later (by go_grown)) ((H1.out.later (by go_grown)))).mono ?_
  rintro e w5 ⟨q5, rfl, hs5, hq5⟩
  obtain rfl : q5 = true := hs5.2 rfl
  have B5 : Below w.heap.size w w5 := below_via hq5 (by go_grown)
  have G5 : Below w3.heap.size w3 w5 := below_via hq5 (by go_grown)
  have S5 := B5.size
  have F5 : w.heap.size + 1 < w5.heap.size ∧ w5.cell? ⟨w.heap.size, 0, none⟩ = some (.int .i64 ax) ∧ w5.cell? ⟨w.heap.size, 1, none⟩ = some (.int .i64 ay) ∧ w5.cell? ⟨w.heap.size, 2, none⟩ = some (.int .i64 aw) ∧ w5.cell? ⟨w.heap.size, 3, none⟩ = some (.int .i64 ah) ∧ w5.cell? ⟨w.heap.size + 1, 0, none⟩ = some (.int .i64 bx) ∧ w5.cell? ⟨w.heap.size + 1, 1, none⟩ = some (.int .i64 b2) ∧ w5.cell? ⟨w.heap.size + 1, 2, none⟩ = some (.int .i64 bw) ∧ w5.cell? ⟨w.heap.size + 1, 3, none⟩ = some (.int .i64 bh) := by
    obtain ⟨hc, hf⟩ := bcell hq5
    have hz := hq5.size
    (try simp only [World.size_alloc, World.size_drew, World.size_setCell] at hz)
    (repeat' apply And.intro) <;> (first | omega | (rw [hc _ _ (by first | omega | (simp only [World.size_alloc, World.size_drew, World.size_setCell]; omega))]; first | (simp [go_sem, F4]; done) | (simp [*]; done)) | (rw [hf _ _ (by first | omega | (simp only [World.size_alloc, World.size_drew, World.size_setCell]; omega))]; first | (simp [go_sem, F4]; done) | (simp [*]; done)))
  have Z1 := G2b.size
  have Z2 := G3b.size
  have Z3 := G5.size
  clear hq5 hs5 F4 G4
  go_wp2_with fail
  have T := told_two O2.out O3.out Z1 K3.out G5 26
  refine (apart_some w1.heap.size _ 0 2 2 _ _ _ rfl T (by omega) (by simp; omega) (by simp; omega)).mono ?_
  clear T
  rintro e w6 ⟨rfl, hq6⟩
  have B6 : Below w.heap.size w w6 := (below_al B5 _).trans (hq6.mono S1)
  have K6 : Below w1.heap.size w1 w6 := (below_al (below_via G5 G13b.out) _).trans hq6
  have S6 := B6.size
  have hp6 := ((below_al (Below.refl w5.heap.size w5) _).mono (show w1.heap.size ≤ w5.heap.size by omega)).trans hq6
  have F6 : w.heap.size + 1 < w6.heap.size ∧ w6.cell? ⟨w.heap.size, 0, none⟩ = some (.int .i64 ax) ∧ w6.cell? ⟨w.heap.size, 1, none⟩ = some (.int .i64 ay) ∧ w6.cell? ⟨w.heap.size, 2, none⟩ = some (.int .i64 aw) ∧ w6.cell? ⟨w.heap.size, 3, none⟩ = some (.int .i64 ah) ∧ w6.cell? ⟨w.heap.size + 1, 0, none⟩ = some (.int .i64 bx) ∧ w6.cell? ⟨w.heap.size + 1, 1, none⟩ = some (.int .i64 b2) ∧ w6.cell? ⟨w.heap.size + 1, 2, none⟩ = some (.int .i64 bw) ∧ w6.cell? ⟨w.heap.size + 1, 3, none⟩ = some (.int .i64 bh) := by
    obtain ⟨hc, hf⟩ := bcell hp6
    have hz := hp6.size
    (try simp only [World.size_alloc, World.size_drew, World.size_setCell] at hz)
    (repeat' apply And.intro) <;> (first | omega | (rw [hc _ _ (by first | omega | (simp only [World.size_alloc, World.size_drew, World.size_setCell]; omega))]; first | (simp [go_sem, F5]; done) | (simp [*]; done)) | (rw [hf _ _ (by first | omega | (simp only [World.size_alloc, World.size_drew, World.size_setCell]; omega))]; first | (simp [go_sem, F5]; done) | (simp [*]; done)))
  clear hp6
  have HW := Lib.hid (HW1.out.later K6)
  clear hq6 F5 H1 H2 H3 O2 O3 K2 K3 G2b G3b G5 HW1 K6 G13b
  go_wp2_with fail
  refine (rect_Minus_any _ _ _ _ _ _ _ _ _ hax hay haw hah hbx hb2 hbw hbh).mono ?_
  rw [HLe.out]
  rintro e w7 ⟨v7, rfl, o7, hq7⟩
  have B7 : Below w.heap.size w w7 := below_via hq7 (by go_grown)
  have G7 : Below w6.heap.size w6 w7 := below_via hq7 (by go_grown)
  have S7 := B7.size
  obtain ⟨p7, c7, rfl, _, s7, _, _⟩ := own_sl o7 rfl
  have H7 := Lib.hid s7
  clear s7 o7 hq7 F6
  go_wp2_with fail
  refine (ref_Same_any _ _ _ _ _ _ L L _ rfl rfl (by omega) (H7.out.later (by go_grown)) (HW.out.later (by go_grown))).mono ?_
  rintro e w8 ⟨q8, rfl, hs8, hq8⟩
  obtain rfl : q8 = true := hs8.2 rfl
  have B8 : Below w.heap.size w w8 := below_via hq8 (by go_grown)
  clear hs8 hq8
  go_wp2_with fail
  refine (wakes_any _).mono ?_
  rintro e w9 ⟨rfl, hq9⟩
  go_wp2
  go_ret
  exact ⟨rfl, below_via hq9 (by go_grown)⟩
end Go.Proofs.Ytekcheccelllcaa
