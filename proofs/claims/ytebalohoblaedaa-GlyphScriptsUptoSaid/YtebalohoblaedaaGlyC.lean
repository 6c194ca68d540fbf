/- Layer 13: seek. -/
import Derived.Test.YtebalohoblaedaaGlyB
namespace Go.Proofs.Ytebalohoblaedaa
open Go.RowKit
set_option linter.unusedVariables false
set_option linter.unusedSimpArgs false

/-- is n the character of a? -/
def isCh (a : A4) (n : Nat) : Bool := okN n && a == ofN n
/-- the character that has these arms -/
def seekA (a : A4) : Int := match (List.range 128).find? (isCh a) with | some n => 9472 + (n : Int) | none => 32
theorem seek_hit (a : A4) (k : Nat) (hk : k < 128) (h : isCh a k = true) (hn : ∀ j, j < k → isCh a j = false) : seekA a = 9472 + (k : Int) := by
  have : (List.range 128).find? (isCh a) = some k := by
    rw [List.find?_range_eq_some]
    exact ⟨h, by simpa using hk, fun j hj => by rw [hn j hj]; rfl⟩
  unfold seekA; rw [this]
theorem seek_miss (a : A4) (hn : ∀ j, j < 128 → isCh a j = false) : seekA a = 32 := by
  have : (List.range 128).find? (isCh a) = none := by
    rw [List.find?_range_eq_none]
    exact fun j hj => by rw [hn j hj]; rfl
  unfold seekA; rw [this]
theorem isCh_of (a : A4) (k : Nat) (hk : k < 128) : isCh a k = ((ofA (9472 + (k : Int))).2 && a == (ofA (9472 + (k : Int))).1) := by
  rw [ofA_in k hk]; unfold isCh
  by_cases h : okN k = true
  · simp [h]
  · simp [h]
theorem A4.eq_iff (a b : A4) : (a == b) = (a.u == b.u && a.r == b.r && a.d == b.d && a.l == b.l) := by
  cases a; cases b
  rw [Bool.eq_iff_iff]
  simp [and_assoc]

section
variable {P : Program}
theorem run_eq_arms (w : World) (t e : TypeId) (ht : P.underlying t = some (.array 4 e)) (he : P.underlying e = some (.int .i8)) (hsz : ∀ w, (sizeOf e).run P w = .ok 1 w) (a b c d a' b' c' d' : Int) :
    (Op.equalIn 10000 t (.agg #[.int .i8 a, .int .i8 b, .int .i8 c, .int .i8 d]) (.agg #[.int .i8 a', .int .i8 b', .int .i8 c', .int .i8 d'])).run P w = .ok (a == a' && b == b' && c == c' && d == d') w := by
  rw [show (10000 : Nat) = 9998 + 2 by rfl, Op.equalIn]
  simp only [Sem.run_bind, run_underlying ht, Result.andThen_ok, hsz, Std.Legacy.Range.forIn_eq_forIn_range', Std.Legacy.Range.size, Nat.sub_zero, Nat.add_sub_cancel, Nat.div_one]
  rw [show List.range' 0 4 1 = [0, 1, 2, 3] by rfl]
  have pp : ∀ (x y z v : Int) (i : Nat), i < 4 → (part e #[.int .i8 x, .int .i8 y, .int .i8 z, .int .i8 v] i).run P w = .ok (#[Value.int .i8 x, .int .i8 y, .int .i8 z, .int .i8 v].getD i undef) w := by
    intro x y z v i hi
    simp [part, isAgg, run_underlying he]
    match i, hi with
    | 0, _ => rfl
    | 1, _ => rfl
    | 2, _ => rfl
    | 3, _ => rfl
  have pe : ∀ (x y : Int), (Op.equalIn (9998 + 1) e (.int .i8 x) (.int .i8 y)).run P w = .ok (x == y) w := fun x y => run_equalIn_int w 9998 e .i8 .i8 x y he
  have q0 := fun x y z v => pp x y z v 0 (by omega)
  have q1 := fun x y z v => pp x y z v 1 (by omega)
  have q2 := fun x y z v => pp x y z v 2 (by omega)
  have q3 := fun x y z v => pp x y z v 3 (by omega)
  cases h1 : (a == a') <;> cases h2 : (b == b') <;> cases h3 : (c == c') <;> cases h4 : (d == d') <;> simp [List.forIn_cons, Sem.run_bind, q0, q1, q2, q3, pe, h1, h2, h3, h4]
end
theorem eqArms (w : World) (a b c d a' b' c' d' : Int) : (Op.equalIn 10000 25 (.agg #[.int .i8 a, .int .i8 b, .int .i8 c, .int .i8 d]) (.agg #[.int .i8 a', .int .i8 b', .int .i8 c', .int .i8 d'])).run Try.prog w = .ok (a == a' && b == b' && c == c' && d == d') w :=
  run_eq_arms w _ 22 Try.underlying25 Try.underlying22 (fun _ => by kernel_rfl) a b c d a' b' c' d'
theorem eqArr (w : World) (a b c d a' b' c' d' : Int) : (Op.equalIn 10000 23 (.agg #[.int .i8 a, .int .i8 b, .int .i8 c, .int .i8 d]) (.agg #[.int .i8 a', .int .i8 b', .int .i8 c', .int .i8 d'])).run Try.prog w = .ok (a == a' && b == b' && c == c' && d == d') w :=
  run_eq_arms w _ 22 Try.underlying23 Try.underlying22 (fun _ => by kernel_rfl) a b c d a' b' c' d'

set_option maxRecDepth 100000 in
set_option maxHeartbeats 4000000 in
theorem seek_any (a : A4) (w : World) : Calls Try.prog 34 #[.agg #[.int .i8 a.u, .int .i8 a.r, .int .i8 a.d, .int .i8 a.l]] w fun e w' => e = .returned (.int .i32 (seekA a)) ∧ Below w.heap.size w w' := by
  go_enter Try.func34, Try.ntmps34
  go_wp2
  go_loopw [3] (fun i wr => ∃ k : Nat, k ≤ 128 ∧ i = .int .i32 (9472 + (k : Int)) ∧ RowKit.Hid (∀ j, j < k → isCh a j = false) ∧ (w.heap.size < wr.heap.size ∧ wr.cell? ⟨w.heap.size, 0, none⟩ = some (.int .i8 a.u) ∧ wr.cell? ⟨w.heap.size, 1, none⟩ = some (.int .i8 a.r) ∧ wr.cell? ⟨w.heap.size, 2, none⟩ = some (.int .i8 a.d) ∧ wr.cell? ⟨w.heap.size, 3, none⟩ = some (.int .i8 a.l)) ∧ Below w.heap.size w wr) (fun i _ => 9600 - (intOf i).toNat)
  case atStart => exact ⟨0, by omega, rfl, Lib.hid fun j hj => by omega, by simp [go_sem], by go_grown⟩
  case round =>
    rename_i wr
    obtain ⟨k, hk, rfl, HN, hcs, BW⟩ := hrel
    by_cases hlt : k < 128
    · have E := Lib.hid (isCh_of a k hlt)
      go_wp2_with fail
      refine (of_any _ _).mono ?_
      rintro e w1 ⟨rfl, hb⟩
      have F1 : w.heap.size < w1.heap.size ∧ w1.cell? ⟨w.heap.size, 0, none⟩ = some (.int .i8 a.u) ∧ w1.cell? ⟨w.heap.size, 1, none⟩ = some (.int .i8 a.r) ∧ w1.cell? ⟨w.heap.size, 2, none⟩ = some (.int .i8 a.d) ∧ w1.cell? ⟨w.heap.size, 3, none⟩ = some (.int .i8 a.l) := by
        obtain ⟨hc, hf⟩ := bcell hb
        have hz := hb.size
        (try simp only [World.size_alloc, World.size_drew, World.size_setCell] at hz)
        (repeat' apply And.intro) <;> (first | omega | (rw [hc _ _ (by first | omega | (simp only [World.size_alloc, World.size_drew, World.size_setCell]; omega))]; first | (simp [go_sem, hcs]; done) | (simp [*]; done)) | (rw [hf _ _ (by first | omega | (simp only [World.size_alloc, World.size_drew, World.size_setCell]; omega))]; first | (simp [go_sem, hcs]; done) | (simp [*]; done)))
      have BW1 : Below w.heap.size w w1 := below_via hb BW
      clear hb hcs
      generalize ofA (9472 + (k : Int)) = q at E ⊢
      obtain ⟨⟨bu, br, bd, bl⟩, bo⟩ := q
      cases bo
      · have E2 : RowKit.Hid (isCh a k = false) := by rw [E.out]; exact Lib.hid rfl
        clear E
        go_wp2
        go_roundw
        case rel =>
          refine ⟨k + 1, by omega, by go_num, Lib.hid fun j hj => ?_, ?_, by go_grown⟩
          · by_cases hjk : j < k
            · exact HN.out j hjk
            · obtain rfl : j = k := by omega
              exact E2.out
          · obtain ⟨f1, f2, f3, f4, f5⟩ := F1
            simp [go_sem, f1, f2, f3, f4, f5] <;> omega
        case measure => simp [intOf]; omega
      · have eqs := eqArms
        have E2 : RowKit.Hid (isCh a k = (a.u == bu && a.r == br && a.d == bd && a.l == bl)) := by
          rw [E.out]
          exact Lib.hid (A4.eq_iff _ _)
        clear E
        cases hm : (a.u == bu && a.r == br && a.d == bd && a.l == bl)
        · rw [hm] at E2
          go_wp2
          go_roundw
          case rel =>
            refine ⟨k + 1, by omega, by go_num, Lib.hid fun j hj => ?_, ?_, by go_grown⟩
            · by_cases hjk : j < k
              · exact HN.out j hjk
              · obtain rfl : j = k := by omega
                exact E2.out
            · obtain ⟨f1, f2, f3, f4, f5⟩ := F1
              simp [go_sem, f1, f2, f3, f4, f5] <;> omega
          case measure => simp [intOf]; omega
        · rw [hm] at E2
          have E3 := Lib.hid (seek_hit a k hlt E2.out HN.out)
          go_wp2
          go_ret
          exact ⟨by rw [E3.out]; rfl, by go_grown⟩
    · obtain rfl : k = 128 := by omega
      have E := Lib.hid (seek_miss a HN.out)
      go_wp2
      go_ret
      exact ⟨by rw [E.out]; rfl, by go_grown⟩
end Go.Proofs.Ytebalohoblaedaa
