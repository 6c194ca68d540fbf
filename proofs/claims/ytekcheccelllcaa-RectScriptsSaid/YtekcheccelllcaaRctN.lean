/- Contract of rect.Minus. -/
import Derived.Test.YtekcheccelllcaaRctE
import Derived.Test.YtekcheccelllcaaRctR
namespace Go.Proofs.Ytekcheccelllcaa
open Go.RowKit
set_option linter.unusedVariables false
set_option linter.unusedSimpArgs false

def cellsR (L : List R4) : List Value := L.flatMap fun r => [.int .i64 r.x, .int .i64 r.y, .int .i64 r.w, .int .i64 r.h]
/-- v is a list of the call's own (its block is none below base) and holds the rectangles L -/
def OwnR (w : World) (base : Nat) (v : Value) (L : List R4) : Prop := w.ownsRow base 23 4 v L.length (cellsR L)
theorem own_later {w w1 : World} {base e size n : Nat} {v : Value} {xs : List Value} (h : w.ownsRow base e size v n xs) (hb : Below w.heap.size w w1) : w1.ownsRow base e size v n xs :=
  h.kept (row := none) ⟨hb.os, hb.tape, hb.output, hb.size, fun k hk _ => hb.block k hk⟩ (by cases hv : v.ownBlock <;> simp)
theorem cellsR_snoc (L : List R4) (r : R4) : cellsR (L ++ [r]) = cellsR L ++ [.int .i64 r.x, .int .i64 r.y, .int .i64 r.w, .int .i64 r.h] := by simp [cellsR]

/-- the ends of a rectangle -/
def endsR (r : R4) : R4 := ⟨rlo r.x, rlo r.y, rhi r.x r.w, rhi r.y r.h⟩
def bxs (p q : R4) : List R4 := [⟨p.x, p.y, p.w, q.y⟩, ⟨p.x, q.y, q.x, q.h⟩, ⟨q.w, q.y, p.w, q.h⟩, ⟨p.x, q.h, p.w, p.h⟩]
def mkB (b : R4) : R4 := mkR b.x b.y b.w b.h
def keepR (r : R4) : Bool := decide (0 < r.w)
def partsR (p q : R4) (k : Nat) : List R4 := (((bxs p q).take k).map mkB).filter keepR
def minusR (a b : R4) : List R4 := if okR4 a then (if okR4 (meetR a b) then partsR (endsR a) (endsR (meetR a b)) 4 else [mkB (endsR a)]) else []
theorem parts_keep (p q : R4) (k : Nat) (hk : k < 4) (h : keepR (mkB ((bxs p q).getD k zR)) = true) : partsR p q (k + 1) = partsR p q k ++ [mkB ((bxs p q).getD k zR)] := by
  unfold partsR
  rw [List.take_succ_eq_append_getElem (by simpa [bxs] using hk), List.map_append, List.filter_append]
  have e : (bxs p q)[k]'(by simpa [bxs] using hk) = (bxs p q).getD k zR := by simp [List.getD_eq_getElem?_getD, bxs, hk]
  simp only [List.map_cons, List.map_nil, e, List.filter_cons, List.filter_nil, h, if_true, if_false, Bool.false_eq_true, List.append_nil]
theorem parts_drop (p q : R4) (k : Nat) (hk : k < 4) (h : keepR (mkB ((bxs p q).getD k zR)) = false) : partsR p q (k + 1) = partsR p q k := by
  unfold partsR
  rw [List.take_succ_eq_append_getElem (by simpa [bxs] using hk), List.map_append, List.filter_append]
  have e : (bxs p q)[k]'(by simpa [bxs] using hk) = (bxs p q).getD k zR := by simp [List.getD_eq_getElem?_getD, bxs, hk]
  simp only [List.map_cons, List.map_nil, e, List.filter_cons, List.filter_nil, h, if_true, if_false, Bool.false_eq_true, List.append_nil]
theorem own_mono {w : World} {base base' e size n : Nat} {v : Value} {xs : List Value} (h : w.ownsRow base e size v n xs) (hb : base' ≤ base) : w.ownsRow base' e size v n xs := by
  refine ⟨h.1, ?_⟩
  rcases h.2 with hn | ⟨g, cap, cur, rfl, h1, rest⟩
  · exact .inl hn
  · exact .inr ⟨g, cap, cur, rfl, by omega, rest⟩
theorem parts_le (p q : R4) (k : Nat) : (partsR p q k).length ≤ 4 := by
  unfold partsR
  refine Nat.le_trans (List.length_filter_le _ _) ?_
  simp [bxs]; omega
/-- four boxes that lie in memory one behind the other -/
def BoxAt (w : World) (b : Nat) (L : List R4) : Prop := ∀ i, i < L.length → w.cell? ⟨b, i * 4, none⟩ = some (.int .i64 (L.getD i zR).x) ∧ w.cell? ⟨b, i * 4 + 1, none⟩ = some (.int .i64 (L.getD i zR).y) ∧ w.cell? ⟨b, i * 4 + 2, none⟩ = some (.int .i64 (L.getD i zR).w) ∧ w.cell? ⟨b, i * 4 + 3, none⟩ = some (.int .i64 (L.getD i zR).h)
theorem BoxAt.later {w wr : World} {b : Nat} {L : List R4} {B : Nat} (h : BoxAt w b L) (hb : Below B w wr) (hB : b < B) : BoxAt wr b L := by
  intro i hi
  obtain ⟨h0, h1, h2, h3⟩ := h i hi
  obtain ⟨hc, hf⟩ := bcell hb
  exact ⟨by rw [hc _ _ hB]; exact h0, by rw [hc _ _ hB]; exact h1, by rw [hc _ _ hB]; exact h2, by rw [hc _ _ hB]; exact h3⟩
theorem infoRect : (Try.prog.info? 23).map (fun i => (i.zero, i.size, i.bytes)) = some (some (.agg #[.int .i64 0, .int .i64 0, .int .i64 0, .int .i64 0]), 4, 32) := by kernel_rfl

set_option maxRecDepth 100000 in
set_option maxHeartbeats 16000000 in
theorem rect_Minus_any (ax ay aw ah bx b2 bw bh : Int) (w : World) (hax : -9223372036854775808 ≤ ax ∧ ax ≤ 9223372036854775807) (hay : -9223372036854775808 ≤ ay ∧ ay ≤ 9223372036854775807) (haw : -9223372036854775808 ≤ aw ∧ aw ≤ 9223372036854775807) (hah : -9223372036854775808 ≤ ah ∧ ah ≤ 9223372036854775807) (hbx : -9223372036854775808 ≤ bx ∧ bx ≤ 9223372036854775807) (hb2 : -9223372036854775808 ≤ b2 ∧ b2 ≤ 9223372036854775807) (hbw : -9223372036854775808 ≤ bw ∧ bw ≤ 9223372036854775807) (hbh : -9223372036854775808 ≤ bh ∧ bh ≤ 9223372036854775807) : Calls Try.prog 21 #[.agg #[.int .i64 ax, .int .i64 ay, .int .i64 aw, .int .i64 ah], .agg #[.int .i64 bx, .int .i64 b2, .int .i64 bw, .int .i64 bh]] w fun e w' => ∃ v, e = .returned v ∧ OwnR w' w.heap.size v (minusR ⟨ax, ay, aw, ah⟩ ⟨bx, b2, bw, bh⟩) ∧ Below w.heap.size w w' := by
  have im := isR_meet ⟨ax, ay, aw, ah⟩ ⟨bx, b2, bw, bh⟩
  cases ok1 : okB ax ay aw ah
  · rw [show minusR ⟨ax, ay, aw, ah⟩ ⟨bx, b2, bw, bh⟩ = [] by unfold minusR okR4; rw [ok1]; rfl]
    obtain ⟨i0, hi, hz0, hz1, hz2⟩ := info_parts infoRect
    go_enter Try.func21, Try.ntmps21
    go_wp2_with fail
    refine (rect_ends_any _ _ _ _ _ hax hay haw hah).mono ?_
    rw [ok1]
    rintro e w1 ⟨rfl, hb1⟩
    have B1 : Below w.heap.size w w1 := below_via hb1 (below_al (below_al (Below.refl _ _) _) _)
    have S1 := B1.size
    have F1 : w.heap.size < w1.heap.size ∧ w.heap.size + 1 < w1.heap.size ∧ w1.cell? ⟨w.heap.size, 0, none⟩ = some (.int .i64 ax) ∧ w1.cell? ⟨w.heap.size, 1, none⟩ = some (.int .i64 ay) ∧ w1.cell? ⟨w.heap.size, 2, none⟩ = some (.int .i64 aw) ∧ w1.cell? ⟨w.heap.size, 3, none⟩ = some (.int .i64 ah) ∧ w1.cell? ⟨w.heap.size + 1, 0, none⟩ = some (.int .i64 bx) ∧ w1.cell? ⟨w.heap.size + 1, 1, none⟩ = some (.int .i64 b2) ∧ w1.cell? ⟨w.heap.size + 1, 2, none⟩ = some (.int .i64 bw) ∧ w1.cell? ⟨w.heap.size + 1, 3, none⟩ = some (.int .i64 bh) := by
      obtain ⟨hc, hf⟩ := bcell hb1
      have hz := hb1.size
      (try simp only [World.size_alloc, World.size_drew, World.size_setCell] at hz)
      (repeat' apply And.intro) <;> (first | omega | (rw [hc _ _ (by first | omega | (simp only [World.size_alloc, World.size_drew, World.size_setCell]; omega))]; first | (simp [go_sem]; done) | (simp [*]; done)) | (rw [hf _ _ (by first | omega | (simp only [World.size_alloc, World.size_drew, World.size_setCell]; omega))]; first | (simp [go_sem]; done) | (simp [*]; done)))
    clear hb1
    go_wp2
    go_ret
    exact ⟨_, rfl, World.ownsRow_nil _ _ _ _, by go_grown⟩
  · cases ok2 : okB (meetR ⟨ax, ay, aw, ah⟩ ⟨bx, b2, bw, bh⟩).x (meetR ⟨ax, ay, aw, ah⟩ ⟨bx, b2, bw, bh⟩).y (meetR ⟨ax, ay, aw, ah⟩ ⟨bx, b2, bw, bh⟩).w (meetR ⟨ax, ay, aw, ah⟩ ⟨bx, b2, bw, bh⟩).h
    · rw [show minusR ⟨ax, ay, aw, ah⟩ ⟨bx, b2, bw, bh⟩ = [mkB (endsR ⟨ax, ay, aw, ah⟩)] by unfold minusR okR4; rw [ok1, ok2]; rfl]
      obtain ⟨i0, hi, hz0, hz1, hz2⟩ := info_parts infoRect
      go_enter Try.func21, Try.ntmps21
      go_wp2_with fail
      refine (rect_ends_any _ _ _ _ _ hax hay haw hah).mono ?_
      rw [ok1]
      rintro e w1 ⟨rfl, hb1⟩
      have B1 : Below w.heap.size w w1 := below_via hb1 (below_al (below_al (Below.refl _ _) _) _)
      have S1 := B1.size
      have F1 : w.heap.size < w1.heap.size ∧ w.heap.size + 1 < w1.heap.size ∧ w1.cell? ⟨w.heap.size, 0, none⟩ = some (.int .i64 ax) ∧ w1.cell? ⟨w.heap.size, 1, none⟩ = some (.int .i64 ay) ∧ w1.cell? ⟨w.heap.size, 2, none⟩ = some (.int .i64 aw) ∧ w1.cell? ⟨w.heap.size, 3, none⟩ = some (.int .i64 ah) ∧ w1.cell? ⟨w.heap.size + 1, 0, none⟩ = some (.int .i64 bx) ∧ w1.cell? ⟨w.heap.size + 1, 1, none⟩ = some (.int .i64 b2) ∧ w1.cell? ⟨w.heap.size + 1, 2, none⟩ = some (.int .i64 bw) ∧ w1.cell? ⟨w.heap.size + 1, 3, none⟩ = some (.int .i64 bh) := by
        obtain ⟨hc, hf⟩ := bcell hb1
        have hz := hb1.size
        (try simp only [World.size_alloc, World.size_drew, World.size_setCell] at hz)
        (repeat' apply And.intro) <;> (first | omega | (rw [hc _ _ (by first | omega | (simp only [World.size_alloc, World.size_drew, World.size_setCell]; omega))]; first | (simp [go_sem]; done) | (simp [*]; done)) | (rw [hf _ _ (by first | omega | (simp only [World.size_alloc, World.size_drew, World.size_setCell]; omega))]; first | (simp [go_sem]; done) | (simp [*]; done)))
      clear hb1
      go_wp2_with fail
      refine (rect_Meet_any _ _ _ _ _ _ _ _ _ hax hay haw hah hbx hb2 hbw hbh).mono ?_
      rintro e w2 ⟨rfl, hb2⟩
      have B2 : Below w.heap.size w w2 := below_via hb2 (below_al B1 _)
      have S2 := B2.size
      have F2 : w1.heap.size < w2.heap.size ∧ w2.cell? ⟨w1.heap.size, 0, none⟩ = some (.int .i64 (rlo ax)) ∧ w2.cell? ⟨w1.heap.size, 1, none⟩ = some (.int .i64 (rlo ay)) ∧ w2.cell? ⟨w1.heap.size, 2, none⟩ = some (.int .i64 (rhi ax aw)) ∧ w2.cell? ⟨w1.heap.size, 3, none⟩ = some (.int .i64 (rhi ay ah)) := by
        obtain ⟨hc, hf⟩ := bcell hb2
        have hz := hb2.size
        (try simp only [World.size_alloc, World.size_drew, World.size_setCell] at hz)
        (repeat' apply And.intro) <;> (first | omega | (rw [hc _ _ (by first | omega | (simp only [World.size_alloc, World.size_drew, World.size_setCell]; omega))]; first | (simp [go_sem, F1]; done) | (simp [*]; done)) | (rw [hf _ _ (by first | omega | (simp only [World.size_alloc, World.size_drew, World.size_setCell]; omega))]; first | (simp [go_sem, F1]; done) | (simp [*]; done)))
      clear hb2 F1
      go_wp2_with fail
      refine (rect_ends_any _ _ _ _ _ im.x im.y im.w im.h).mono ?_
      rw [ok2]
      rintro e w3 ⟨rfl, hb3⟩
      have B3 : Below w.heap.size w w3 := below_via hb3 B2
      have S3 := B3.size
      have F3 : w1.heap.size < w3.heap.size ∧ w3.cell? ⟨w1.heap.size, 0, none⟩ = some (.int .i64 (rlo ax)) ∧ w3.cell? ⟨w1.heap.size, 1, none⟩ = some (.int .i64 (rlo ay)) ∧ w3.cell? ⟨w1.heap.size, 2, none⟩ = some (.int .i64 (rhi ax aw)) ∧ w3.cell? ⟨w1.heap.size, 3, none⟩ = some (.int .i64 (rhi ay ah)) := by
        obtain ⟨hc, hf⟩ := bcell hb3
        have hz := hb3.size
        (try simp only [World.size_alloc, World.size_drew, World.size_setCell] at hz)
        (repeat' apply And.intro) <;> (first | omega | (rw [hc _ _ (by first | omega | (simp only [World.size_alloc, World.size_drew, World.size_setCell]; omega))]; first | (simp [go_sem, F2]; done) | (simp [*]; done)) | (rw [hf _ _ (by first | omega | (simp only [World.size_alloc, World.size_drew, World.size_setCell]; omega))]; first | (simp [go_sem, F2]; done) | (simp [*]; done)))
      clear hb3 F2
      go_wp2_with fail
      refine (rect_rect_any _ _ _ _ _).mono ?_
      rintro e w4 ⟨rfl, hb4⟩
      have B4 : Below w.heap.size w w4 := below_via hb4 (below_al B3 _)
      have S4 := B4.size
      clear hb4 F3
      go_wp2
      go_ret
      exact ⟨_, rfl, ⟨by simp [cellsR], .inr ⟨w4.heap.size, 1, _, rfl, S4, heap_alloc_new w4 _, by simp, by decide, by simp, by simp [cellsR, mkB, endsR]⟩⟩, by go_grown⟩
    · rw [show minusR ⟨ax, ay, aw, ah⟩ ⟨bx, b2, bw, bh⟩ = partsR (endsR ⟨ax, ay, aw, ah⟩) (endsR (meetR ⟨ax, ay, aw, ah⟩ ⟨bx, b2, bw, bh⟩)) 4 by unfold minusR okR4; rw [ok1, ok2]; rfl]
      obtain ⟨i0, hi, hz0, hz1, hz2⟩ := info_parts infoRect
      go_enter Try.func21, Try.ntmps21
      go_wp2_with fail
      refine (rect_ends_any _ _ _ _ _ hax hay haw hah).mono ?_
      rw [ok1]
      rintro e w1 ⟨rfl, hb1⟩
      have B1 : Below w.heap.size w w1 := below_via hb1 (below_al (below_al (Below.refl _ _) _) _)
      have S1 := B1.size
      have F1 : w.heap.size < w1.heap.size ∧ w.heap.size + 1 < w1.heap.size ∧ w1.cell? ⟨w.heap.size, 0, none⟩ = some (.int .i64 ax) ∧ w1.cell? ⟨w.heap.size, 1, none⟩ = some (.int .i64 ay) ∧ w1.cell? ⟨w.heap.size, 2, none⟩ = some (.int .i64 aw) ∧ w1.cell? ⟨w.heap.size, 3, none⟩ = some (.int .i64 ah) ∧ w1.cell? ⟨w.heap.size + 1, 0, none⟩ = some (.int .i64 bx) ∧ w1.cell? ⟨w.heap.size + 1, 1, none⟩ = some (.int .i64 b2) ∧ w1.cell? ⟨w.heap.size + 1, 2, none⟩ = some (.int .i64 bw) ∧ w1.cell? ⟨w.heap.size + 1, 3, none⟩ = some (.int .i64 bh) := by
        obtain ⟨hc, hf⟩ := bcell hb1
        have hz := hb1.size
        (try simp only [World.size_alloc, World.size_drew, World.size_setCell] at hz)
        (repeat' apply And.intro) <;> (first | omega | (rw [hc _ _ (by first | omega | (simp only [World.size_alloc, World.size_drew, World.size_setCell]; omega))]; first | (simp [go_sem]; done) | (simp [*]; done)) | (rw [hf _ _ (by first | omega | (simp only [World.size_alloc, World.size_drew, World.size_setCell]; omega))]; first | (simp [go_sem]; done) | (simp [*]; done)))
      clear hb1
      go_wp2_with fail
      refine (rect_Meet_any _ _ _ _ _ _ _ _ _ hax hay haw hah hbx hb2 hbw hbh).mono ?_
      rintro e w2 ⟨rfl, hb2⟩
      have B2 : Below w.heap.size w w2 := below_via hb2 (below_al B1 _)
      have S2 := B2.size
      have F2 : w1.heap.size < w2.heap.size ∧ w2.cell? ⟨w1.heap.size, 0, none⟩ = some (.int .i64 (rlo ax)) ∧ w2.cell? ⟨w1.heap.size, 1, none⟩ = some (.int .i64 (rlo ay)) ∧ w2.cell? ⟨w1.heap.size, 2, none⟩ = some (.int .i64 (rhi ax aw)) ∧ w2.cell? ⟨w1.heap.size, 3, none⟩ = some (.int .i64 (rhi ay ah)) := by
        obtain ⟨hc, hf⟩ := bcell hb2
        have hz := hb2.size
        (try simp only [World.size_alloc, World.size_drew, World.size_setCell] at hz)
        (repeat' apply And.intro) <;> (first | omega | (rw [hc _ _ (by first | omega | (simp only [World.size_alloc, World.size_drew, World.size_setCell]; omega))]; first | (simp [go_sem, F1]; done) | (simp [*]; done)) | (rw [hf _ _ (by first | omega | (simp only [World.size_alloc, World.size_drew, World.size_setCell]; omega))]; first | (simp [go_sem, F1]; done) | (simp [*]; done)))
      clear hb2 F1
      go_wp2_with fail
      refine (rect_ends_any _ _ _ _ _ im.x im.y im.w im.h).mono ?_
      rw [ok2]
      rintro e w3 ⟨rfl, hb3⟩
      have B3 : Below w.heap.size w w3 := below_via hb3 B2
      have S3 := B3.size
      have F3 : w1.heap.size < w3.heap.size ∧ w3.cell? ⟨w1.heap.size, 0, none⟩ = some (.int .i64 (rlo ax)) ∧ w3.cell? ⟨w1.heap.size, 1, none⟩ = some (.int .i64 (rlo ay)) ∧ w3.cell? ⟨w1.heap.size, 2, none⟩ = some (.int .i64 (rhi ax aw)) ∧ w3.cell? ⟨w1.heap.size, 3, none⟩ = some (.int .i64 (rhi ay ah)) := by
        obtain ⟨hc, hf⟩ := bcell hb3
        have hz := hb3.size
        (try simp only [World.size_alloc, World.size_drew, World.size_setCell] at hz)
        (repeat' apply And.intro) <;> (first | omega | (rw [hc _ _ (by first | omega | (simp only [World.size_alloc, World.size_drew, World.size_setCell]; omega))]; first | (simp [go_sem, F2]; done) | (simp [*]; done)) | (rw [hf _ _ (by first | omega | (simp only [World.size_alloc, World.size_drew, World.size_setCell]; omega))]; first | (simp [go_sem, F2]; done) | (simp [*]; done)))
      clear hb3 F2
      go_wp2
      go_loopw [8, 69] (fun v i wr => ∃ k : Nat, k ≤ 4 ∧ i = .int .i64 k ∧ OwnR wr (w3.heap.size + 2) v (partsR (endsR ⟨ax, ay, aw, ah⟩) (endsR (meetR ⟨ax, ay, aw, ah⟩ ⟨bx, b2, bw, bh⟩)) k) ∧ w3.heap.size + 1 < wr.heap.size ∧ BoxAt wr (w3.heap.size + 1) (bxs (endsR ⟨ax, ay, aw, ah⟩) (endsR (meetR ⟨ax, ay, aw, ah⟩ ⟨bx, b2, bw, bh⟩))) ∧ Below w.heap.size w wr) (fun _ i _ => 4 - (intOf i).toNat)
      case atStart =>
        refine ⟨0, by omega, rfl, World.ownsRow_nil _ _ _ _, by simp, ?_, by go_grown⟩
        intro i hi
        rcases i with _ | _ | _ | _ | i
        · simp [go_sem, bxs, endsR]
        · simp [go_sem, bxs, endsR]
        · simp [go_sem, bxs, endsR]
        · simp [go_sem, bxs, endsR]
        · simp [bxs] at hi; omega
      case round =>
        obtain ⟨k, hk, rfl, hown, hs, hbx, BW⟩ := hrel
        have S4 := BW.size
        clear B1 B2 S1 S2 F3
        by_cases hlt : k < 4
        · obtain ⟨c0, c1, c2, c3⟩ := hbx k (by simpa [bxs] using hlt)
          have hn := parts_le (endsR ⟨ax, ay, aw, ah⟩) (endsR (meetR ⟨ax, ay, aw, ah⟩ ⟨bx, b2, bw, bh⟩)) k
          have HK := Lib.hid (parts_keep (endsR ⟨ax, ay, aw, ah⟩) (endsR (meetR ⟨ax, ay, aw, ah⟩ ⟨bx, b2, bw, bh⟩)) k hlt)
          have HD := Lib.hid (parts_drop (endsR ⟨ax, ay, aw, ah⟩) (endsR (meetR ⟨ax, ay, aw, ah⟩ ⟨bx, b2, bw, bh⟩)) k hlt)
          have HB := Lib.hid hbx
          have HO := Lib.hid hown
          clear hbx hown
          generalize (bxs (endsR ⟨ax, ay, aw, ah⟩) (endsR (meetR ⟨ax, ay, aw, ah⟩ ⟨bx, b2, bw, bh⟩))).getD k zR = r at *
          go_wp2_with fail
          refine (rect_rect_any r.x r.y r.w r.h _).mono ?_
          rintro e w4 ⟨rfl, hb4⟩
          have B4 : Below w.heap.size w w4 := below_via hb4 (below_al BW _)
          have S5 := B4.size
          have S6 := hb4.size
          simp only [World.size_alloc] at S6
          have own4 := Lib.hid (own_later (HO.out.alloc _) hb4)
          have box4 := Lib.hid ((HB.out.later (below_al (Below.refl wr.heap.size wr) _) hs).later hb4 (by simp; omega))
          clear hb4 HO HB
          cases kp : keepR (mkB r)
          · have kq : ¬ 0 < (mkR r.x r.y r.w r.h).w := of_decide_eq_false kp
            have e2 := Lib.hid (HD.out kp)
            clear kp HK HD
            go_wp2
            go_roundw
            case rel => exact ⟨k + 1, by omega, by go_num, by rw [e2.out]; exact own4.out.alloc _, by simp; omega, box4.out.later (below_al (Below.refl w4.heap.size w4) _) (by omega), by go_grown⟩
            case measure => simp [intOf]; omega
          · have kq : 0 < (mkR r.x r.y r.w r.h).w := of_decide_eq_true kp
            have e2 := Lib.hid (HK.out kp)
            clear kp HK HD
            go_wp2_with (at_builtin; go_must (refine wpList_append_own _ rfl (.tmp 78) (.tmp 80) 26 rfl (w3.heap.size + 2) 23 i0 (.agg #[.int .i64 0, .int .i64 0, .int .i64 0, .int .i64 0]) 4 32 Try.underlying26 hi hz0 hz1 hz2 rfl (by decide) _ _ _ rfl ((own4.out.alloc _).alloc _) ⟨w4.heap.size + 1, 0, none⟩ 1 1 [.int .i64 (mkR r.x r.y r.w r.h).x, .int .i64 (mkR r.x r.y r.w r.h).y, .int .i64 (mkR r.x r.y r.w r.h).w, .int .i64 (mkR r.x r.y r.w r.h).h] rfl rfl ?c1 ?c2 ?c3 ?c4 ?c5 ?_))
            case c1 =>
              intro j u hj
              match j, hj with
              | 0, hj => simp at hj; subst hj; simp [Addr.add, go_sem]
              | 1, hj => simp at hj; subst hj; simp [Addr.add, go_sem]
              | 2, hj => simp at hj; subst hj; simp [Addr.add, go_sem]
              | 3, hj => simp at hj; subst hj; simp [Addr.add, go_sem]
            case c2 => intro u hu; simp at hu; rcases hu with rfl | rfl | rfl | rfl <;> rfl
            case c3 => unfold maxLen; omega
            case c4 => omega
            case c5 => simp; omega
            intro v' w5 own5 gr5 _
            have own5' := Lib.hid own5
            have B5 : Below w.heap.size w w5 := Below.grown (below_al (below_al B4 _) _) gr5 (by simp; omega) (fun k hk => by have := (own4.out.lt k hk).1; omega)
            have S7 := gr5.size
            simp only [World.size_alloc] at S7
            have box5 := Lib.hid (show BoxAt w5 (w3.heap.size + 1) (bxs (endsR ⟨ax, ay, aw, ah⟩) (endsR (meetR ⟨ax, ay, aw, ah⟩ ⟨bx, b2, bw, bh⟩))) from fun i hi => by
              obtain ⟨d0, d1, d2, d3⟩ := (box4.out.later (below_al (below_al (Below.refl w4.heap.size w4) _) _) (by omega)) i hi
              exact ⟨gr5.cell d0 (by intro h; have := (own4.out.lt _ h.symm).1; simp at this), gr5.cell d1 (by intro h; have := (own4.out.lt _ h.symm).1; simp at this), gr5.cell d2 (by intro h; have := (own4.out.lt _ h.symm).1; simp at this), gr5.cell d3 (by intro h; have := (own4.out.lt _ h.symm).1; simp at this)⟩)
            clear own5 gr5 own4 box4
            go_wp2
            go_roundw
            case rel => exact ⟨k + 1, by omega, by go_num, by rw [e2.out]; unfold OwnR; rw [cellsR_snoc, List.length_append]; exact own5'.out, by omega, box5.out, B5⟩
            case measure => simp [intOf]; omega
        · have hk4 : k = 4 := by omega
          subst hk4
          go_wp2
          go_ret
          exact ⟨_, rfl, own_mono hown (by omega), BW⟩

end Go.Proofs.Ytekcheccelllcaa
