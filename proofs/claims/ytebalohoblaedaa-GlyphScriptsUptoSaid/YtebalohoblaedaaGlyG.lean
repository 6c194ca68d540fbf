/- Layer 13: the reference's Count, Of, with, counted, strength. -/
import Derived.Test.YtebalohoblaedaaGlyF
namespace Go.Proofs.Ytebalohoblaedaa
open Go.RowKit
set_option linter.unusedVariables false
set_option linter.unusedSimpArgs false

theorem count_any (w : World) : Calls Try.prog 39 #[] w fun e w' => e = .returned (.int .i64 113) ∧ w = w' := by
  go_enter Try.func39, Try.ntmps39
  go_wp2
  go_ret
  exact ⟨rfl, rfl⟩

/-- the reference's Of -/
def rof (r : Int) : A4 × Bool := match (List.range 113).find? (fun i => (9472 + (entN i : Int)) == r) with | some i => (ofN (entN i), true) | none => (zA, false)
theorem rof_hit (r : Int) (k : Nat) (hk : k < 113) (h : (9472 + (entN k : Int)) = r) (hn : ∀ j, j < k → ¬ (9472 + (entN j : Int)) = r) : rof r = (ofN (entN k), true) := by
  have : (List.range 113).find? (fun i => (9472 + (entN i : Int)) == r) = some k := by
    rw [List.find?_range_eq_some]
    exact ⟨by simpa using h, by simpa using hk, fun j hj => by simpa using hn j hj⟩
  unfold rof; rw [this]
theorem rof_miss (r : Int) (hn : ∀ j, j < 113 → ¬ (9472 + (entN j : Int)) = r) : rof r = (zA, false) := by
  have : (List.range 113).find? (fun i => (9472 + (entN i : Int)) == r) = none := by
    rw [List.find?_range_eq_none]
    exact fun j hj => by simpa using hn j hj
  unfold rof; rw [this]
def withA (a : A4) : Int := match (List.range 113).find? (fun i => a == ofN (entN i)) with | some i => 9472 + (entN i : Int) | none => 0
theorem with_hit (a : A4) (k : Nat) (hk : k < 113) (h : (a == ofN (entN k)) = true) (hn : ∀ j, j < k → (a == ofN (entN j)) = false) : withA a = 9472 + (entN k : Int) := by
  have : (List.range 113).find? (fun i => a == ofN (entN i)) = some k := by
    rw [List.find?_range_eq_some]
    exact ⟨h, by simpa using hk, fun j hj => by rw [hn j hj]; rfl⟩
  unfold withA; rw [this]
theorem with_miss (a : A4) (hn : ∀ j, j < 113 → (a == ofN (entN j)) = false) : withA a = 0 := by
  have : (List.range 113).find? (fun i => a == ofN (entN i)) = none := by
    rw [List.find?_range_eq_none]
    exact fun j hj => by rw [hn j hj]; rfl
  unfold withA; rw [this]

set_option maxRecDepth 100000 in
set_option maxHeartbeats 4000000 in
theorem rof_any (r : Int) (w : World) : Calls Try.prog 18 #[.int .i32 r] w fun e w' => e = .returned (.tuple #[.agg #[.int .i8 ((rof r).1.u), .int .i8 ((rof r).1.r), .int .i8 ((rof r).1.d), .int .i8 ((rof r).1.l)], .bool (rof r).2]) ∧ Below w.heap.size w w' := by
  generalize hq : rof r = q
  have HQ := Lib.hid hq
  clear hq
  go_enter Try.func18, Try.ntmps18
  go_wp2
  go_loopw [4, 5, 6] (fun i _ _ wr => ∃ k : Nat, k ≤ 113 ∧ i = .int .i64 k ∧ RowKit.Hid (∀ j, j < k → ¬ (9472 + (entN j : Int)) = r) ∧ (w.heap.size < wr.heap.size ∧ wr.cell? ⟨w.heap.size, 0, none⟩ = some (.int .i8 0) ∧ wr.cell? ⟨w.heap.size, 1, none⟩ = some (.int .i8 0) ∧ wr.cell? ⟨w.heap.size, 2, none⟩ = some (.int .i8 0) ∧ wr.cell? ⟨w.heap.size, 3, none⟩ = some (.int .i8 0) ∧ wr.frozen? ⟨w.heap.size, 0, none⟩ = false ∧ wr.frozen? ⟨w.heap.size, 1, none⟩ = false ∧ wr.frozen? ⟨w.heap.size, 2, none⟩ = false ∧ wr.frozen? ⟨w.heap.size, 3, none⟩ = false) ∧ Below w.heap.size w wr) (fun i _ _ _ => 113 - (intOf i).toNat)
  case atStart => exact ⟨0, by omega, rfl, Lib.hid fun j hj => by omega, by simp [go_sem], by go_grown⟩
  case round =>
    rename_i wr
    obtain ⟨k, hk, rfl, HN, hcs, BW⟩ := hrel
    by_cases hlt : k < 113
    · go_wp2_with (first | (go_at_call 39; refine (count_any _).mono ?_; rintro e w' ⟨rfl, rfl⟩) | fail)
      refine (entry_any _ hlt _).mono ?_
      rintro e w1 ⟨rfl, hb⟩
      have F1 : w.heap.size < w1.heap.size ∧ w1.cell? ⟨w.heap.size, 0, none⟩ = some (.int .i8 0) ∧ w1.cell? ⟨w.heap.size, 1, none⟩ = some (.int .i8 0) ∧ w1.cell? ⟨w.heap.size, 2, none⟩ = some (.int .i8 0) ∧ w1.cell? ⟨w.heap.size, 3, none⟩ = some (.int .i8 0) ∧ w1.frozen? ⟨w.heap.size, 0, none⟩ = false ∧ w1.frozen? ⟨w.heap.size, 1, none⟩ = false ∧ w1.frozen? ⟨w.heap.size, 2, none⟩ = false ∧ w1.frozen? ⟨w.heap.size, 3, none⟩ = false := by
        obtain ⟨hc, hf⟩ := bcell hb
        have hz := hb.size
        (try simp only [World.size_alloc, World.size_drew, World.size_setCell] at hz)
        (repeat' apply And.intro) <;> (first | omega | (rw [hc _ _ (by first | omega | (simp only [World.size_alloc, World.size_drew, World.size_setCell]; omega))]; first | (simp [go_sem, hcs]; done) | (simp [*]; done)) | (rw [hf _ _ (by first | omega | (simp only [World.size_alloc, World.size_drew, World.size_setCell]; omega))]; first | (simp [go_sem, hcs]; done) | (simp [*]; done)))
      have BW1 : Below w.heap.size w w1 := below_via hb BW
      clear hb hcs
      have hen := entN_lt k hlt
      by_cases he : (9472 + (entN k : Int)) = r
      · have E := HQ.out.symm.trans (rof_hit r k hlt he HN.out)
        subst E
        have he' : ((9472 + (entN k : Int)) == r) = true := by simp [he]
        clear he
        go_wp2
        exact bodyPost_ret (v := .tuple #[.agg #[.int .i8 ((ofN (entN k)).u), .int .i8 ((ofN (entN k)).r), .int .i8 ((ofN (entN k)).d), .int .i8 ((ofN (entN k)).l)], .bool true]) (by simp [results, Try.results18, go_sem, F1]) rfl ⟨rfl, by go_grown⟩
      · have he' : ((9472 + (entN k : Int)) == r) = false := by simp [he]
        have HE := Lib.hid he
        clear he
        generalize ofN (entN k) = b
        go_wp2
        go_roundw
        case rel =>
          refine ⟨k + 1, by omega, by go_num, Lib.hid fun j hj => ?_, ?_, by go_grown⟩
          · by_cases hjk : j < k
            · exact HN.out j hjk
            · obtain rfl : j = k := by omega
              exact HE.out
          · obtain ⟨f0, f1, f2, f3, f4, f5, f6, f7, f8⟩ := F1
            simp [go_sem, f0, f1, f2, f3, f4, f5, f6, f7, f8] <;> omega
        case measure => simp [intOf]; omega
    · obtain rfl : k = 113 := by omega
      have E := HQ.out.symm.trans (rof_miss r HN.out)
      subst E
      go_wp2_with (go_at_call 39; refine (count_any _).mono ?_; rintro e w' ⟨rfl, rfl⟩)
      exact bodyPost_ret (v := .tuple #[.agg #[.int .i8 0, .int .i8 0, .int .i8 0, .int .i8 0], .bool false]) (by simp [results, Try.results18, go_sem, hcs]) rfl ⟨rfl, by go_grown⟩

set_option maxRecDepth 100000 in
set_option maxHeartbeats 4000000 in
theorem with_any (a : A4) (w : World) : Calls Try.prog 37 #[.agg #[.int .i8 a.u, .int .i8 a.r, .int .i8 a.d, .int .i8 a.l]] w fun e w' => e = .returned (.int .i32 (withA a)) ∧ Below w.heap.size w w' := by
  generalize hq : withA a = q
  have HQ := Lib.hid hq
  clear hq
  go_enter Try.func37, Try.ntmps37
  go_wp2
  go_loopw [3, 4, 5] (fun i _ _ wr => ∃ k : Nat, k ≤ 113 ∧ i = .int .i64 k ∧ RowKit.Hid (∀ j, j < k → (a == ofN (entN j)) = false) ∧ (w.heap.size < wr.heap.size ∧ wr.cell? ⟨w.heap.size, 0, none⟩ = some (.int .i8 a.u) ∧ wr.cell? ⟨w.heap.size, 1, none⟩ = some (.int .i8 a.r) ∧ wr.cell? ⟨w.heap.size, 2, none⟩ = some (.int .i8 a.d) ∧ wr.cell? ⟨w.heap.size, 3, none⟩ = some (.int .i8 a.l)) ∧ Below w.heap.size w wr) (fun i _ _ _ => 113 - (intOf i).toNat)
  case atStart => exact ⟨0, by omega, rfl, Lib.hid fun j hj => by omega, by simp [go_sem], by go_grown⟩
  case round =>
    rename_i wr
    obtain ⟨k, hk, rfl, HN, hcs, BW⟩ := hrel
    by_cases hlt : k < 113
    · go_wp2_with (first | (go_at_call 39; refine (count_any _).mono ?_; rintro e w' ⟨rfl, rfl⟩) | fail)
      refine (entry_any _ hlt _).mono ?_
      rintro e w1 ⟨rfl, hb⟩
      have F1 : w.heap.size < w1.heap.size ∧ w1.cell? ⟨w.heap.size, 0, none⟩ = some (.int .i8 a.u) ∧ w1.cell? ⟨w.heap.size, 1, none⟩ = some (.int .i8 a.r) ∧ w1.cell? ⟨w.heap.size, 2, none⟩ = some (.int .i8 a.d) ∧ w1.cell? ⟨w.heap.size, 3, none⟩ = some (.int .i8 a.l) := by
        obtain ⟨hc, hf⟩ := bcell hb
        have hz := hb.size
        (try simp only [World.size_alloc, World.size_drew, World.size_setCell] at hz)
        (repeat' apply And.intro) <;> (first | omega | (rw [hc _ _ (by first | omega | (simp only [World.size_alloc, World.size_drew, World.size_setCell]; omega))]; first | (simp [go_sem, hcs]; done) | (simp [*]; done)) | (rw [hf _ _ (by first | omega | (simp only [World.size_alloc, World.size_drew, World.size_setCell]; omega))]; first | (simp [go_sem, hcs]; done) | (simp [*]; done)))
      have BW1 : Below w.heap.size w w1 := below_via hb BW
      clear hb hcs
      have E := Lib.hid (A4.eq_iff a (ofN (entN k)))
      have W := fun h => with_hit a k hlt h HN.out
      have WH := Lib.hid W
      clear W
      have hen := entN_lt k hlt
      have HN2 : RowKit.Hid ((a == ofN (entN k)) = false → ∀ j, j < k + 1 → (a == ofN (entN j)) = false) := Lib.hid fun h j hj => by
        by_cases hjk : j < k
        · exact HN.out j hjk
        · obtain rfl : j = k := by omega
          exact h
      generalize ofN (entN k) = b at E WH HN2 ⊢
      have eqs := eqArr
      cases hm : (a.u == b.u && a.r == b.r && a.d == b.d && a.l == b.l)
      · rw [hm] at E
        go_wp2
        go_roundw
        case rel =>
          refine ⟨k + 1, by omega, by go_num, Lib.hid (HN2.out E.out), ?_, by go_grown⟩
          obtain ⟨f0, f1, f2, f3, f4⟩ := F1
          simp [go_sem, f0, f1, f2, f3, f4] <;> omega
        case measure => simp [intOf]; omega
      · rw [hm] at E
        have E3 := Lib.hid (HQ.out.symm.trans (WH.out E.out))
        go_wp2
        go_ret
        exact ⟨by rw [E3.out]; rfl, by go_grown⟩
    · obtain rfl : k = 113 := by omega
      have E := HQ.out.symm.trans (with_miss a HN.out)
      subst E
      go_wp2_with (go_at_call 39; refine (count_any _).mono ?_; rintro e w' ⟨rfl, rfl⟩)
      go_ret
      exact ⟨rfl, by go_grown⟩
end Go.Proofs.Ytebalohoblaedaa
