/- Reading trees' bytes: fresco/tree.reader: contracts of fail, octet, number, signed, text, item. -/
import Derived.Test.YtcihihncgpddfaaRdM
import Derived.BigQuiet
namespace Go.Proofs.Ytcihihncgpddfaa
open Go.RowKit Go.Deep
set_option linter.unusedVariables false
set_option linter.unusedSimpArgs false

set_option maxRecDepth 100000 in
set_option maxHeartbeats 8000000 in
theorem rd_fail (w0 W : World) (rb : Nat) (sv : Value) (B : List Int) (s : Rs) (c a : Int) (h : RdAt 100 w0 W rb sv B s) : Calls Try.prog 55 #[.pointer (some ⟨rb, 0, none⟩), .int .i64 c, .int .i64 a] W fun e W' => e = .returned (.tuple #[]) ∧ RdS 100 w0 W rb sv B (failS c a s) W' := by
  obtain ⟨p, cd, bd⟩ := s
  have q0 := h.cells.1
  have q1 : W.cell? ⟨rb, 1, none⟩ = some (.int .i64 p) := h.cells.2.1
  have q2 : W.cell? ⟨rb, 2, none⟩ = some (.int .i64 cd) := h.cells.2.2.1
  have q3 : W.cell? ⟨rb, 3, none⟩ = some (.int .i64 bd) := h.cells.2.2.2
  have f1 := h.free 1
  have f2 := h.free 2
  have f3 := h.free 3
  have zr := h.lt
  by_cases hc : cd = 0
  · subst hc
    have HE := Lib.hid (show RdS 100 w0 W rb sv B (failS c a ⟨p, 0, bd⟩) ((W.setCell ⟨rb, 2, none⟩ (.int .i64 c)).setCell ⟨rb, 3, none⟩ (.int .i64 a)) by
      rw [failS_yes rfl]
      have h1 := h.set1 (s1 := ⟨p, c, bd⟩) (Below.refl _ _) 2 (.int .i64 c) rfl h.at_
      exact h1.trans (h1.at_.set1 (s1 := ⟨p, c, a⟩) (Below.refl _ _) 3 (.int .i64 a) rfl h1.at_.at_))
    clear h
    go_enter Try.func55, Try.ntmps55
    go_wp2
    first
      | exact bodyPost_end (v := .tuple #[]) (results_none rfl _ _ _) rfl ⟨rfl, HE.out⟩
      | exact bodyPost_ret (v := .tuple #[]) (results_none rfl _ _ _) rfl ⟨rfl, HE.out⟩
  · have HE := Lib.hid (show RdS 100 w0 W rb sv B (failS c a ⟨p, cd, bd⟩) W by rw [failS_no hc]; exact RdS.refl h)
    have hcb : (cd == 0) = false := beq_eq_false_iff_ne.2 hc
    clear h hc
    go_enter Try.func55, Try.ntmps55
    go_wp2
    first
      | exact bodyPost_end (v := .tuple #[]) (results_none rfl _ _ _) rfl ⟨rfl, HE.out⟩
      | exact bodyPost_ret (v := .tuple #[]) (results_none rfl _ _ _) rfl ⟨rfl, HE.out⟩
set_option maxRecDepth 100000 in
set_option maxHeartbeats 8000000 in
theorem rd_octet (w0 W : World) (rb : Nat) (sv : Value) (B : List Int) (s : Rs) (m : Int) (h : RdAt 100 w0 W rb sv B s) : Calls Try.prog 54 #[.pointer (some ⟨rb, 0, none⟩), .int .u8 m] W (RdPost 100 w0 W rb sv B (octR m B s)) := by
  obtain ⟨p, cd, bd⟩ := s
  have HH := Lib.hid h
  obtain ⟨pv, cv, rfl, hcv1, hcv2, hbs⟩ := h.src
  have hap : p ≤ B.length := h.at_
  have hlen := h.len
  have q0 := h.cells.1
  have q1 : W.cell? ⟨rb, 1, none⟩ = some (.int .i64 p) := h.cells.2.1
  have q2 : W.cell? ⟨rb, 2, none⟩ = some (.int .i64 cd) := h.cells.2.2.1
  have q3 : W.cell? ⟨rb, 3, none⟩ = some (.int .i64 bd) := h.cells.2.2.2
  have f1 := h.free 1
  have f2 := h.free 2
  have f3 := h.free 3
  have zr := h.lt
  by_cases hc : cd = 0
  · subst hc
    by_cases hp : p = B.length
    · subst hp
      have HF := Lib.hid (fun W1 (hb : Below W.heap.size W W1) => rd_fail w0 W1 rb _ B ⟨B.length, 0, bd⟩ 6 B.length (h.later hb))
      have E := Lib.hid (octR_end (m := m) (B := B) (s := ⟨B.length, 0, bd⟩) rfl (Nat.le_refl _))
      clear h hbs
      go_enter Try.func54, Try.ntmps54
      go_upto_region 3 with (fail)
      go_quiet (fail)
      go_wp2_with fail
      refine (HF.out _ (by first | exact Below.refl _ _ | exact below_drewN (Below.refl _ _) _ | exact below_drewN (below_drewN (Below.refl _ _) _) _)).mono ?_
      rintro e w1 ⟨rfl, hs⟩
      rw [failS_yes rfl] at hs
      have HS := Lib.hid (hs.from (W := W) (by first | exact Below.refl _ _ | exact below_drewN (Below.refl _ _) _ | exact below_drewN (below_drewN (Below.refl _ _) _) _))
      clear hs HF
      go_wp2
      refine bodyPost_ret (v := .int .i64 0) (by simp [results, Try.results54, go_sem]) rfl ?_
      exact rd_mk E.out HS.out
    · have hlt : p < B.length := by omega
      have hpi : (p : Int) < (B.length : Int) := by omega
      have hpb : ((p : Int) == (B.length : Int)) = false := beq_eq_false_iff_ne.2 (by omega)
      obtain ⟨b, off, rfl, hb, hbs⟩ := hbs (by omega)
      have cb : W.cell? ⟨b, off + p, none⟩ = some (.int .u8 (B.getD p 0)) := by rw [(bcell h.be).1 _ _ hb]; exact hbs p hlt
      have hbw : b < W.heap.size := Nat.lt_of_lt_of_le hb h.be.size
      have hrg := h.byte.at p
      have E1 := Lib.hid (fun (hm : m < B.getD p 0) => octR_big (m := m) (B := B) (s := ⟨p, 0, bd⟩) rfl hlt hm)
      have E2 := Lib.hid (fun (hm : B.getD p 0 ≤ m) => octR_ok (m := m) (B := B) (s := ⟨p, 0, bd⟩) rfl hlt hm)
      clear hbs
      obtain ⟨ch, hch⟩ : ∃ ch, ch = B.getD p 0 := ⟨_, rfl⟩
      rw [← hch] at cb hrg E1 E2
      clear hch
      by_cases hm : m < ch
      · have HF := Lib.hid (fun W1 (hb : Below W.heap.size W W1) => rd_fail w0 W1 rb _ B ⟨p, 0, bd⟩ 100 p (h.later hb))
        have E := Lib.hid (E1.out hm)
        clear h E1 E2
        go_enter Try.func54, Try.ntmps54
        go_upto_region 3 with (fail)
        go_quiet (fail)
        go_upto_region 6 with (fail)
        go_quiet (fail)
        go_wp2_with fail
        refine (HF.out _ (by first | exact Below.refl _ _ | exact below_drewN (Below.refl _ _) _ | exact below_drewN (below_drewN (Below.refl _ _) _) _)).mono ?_
        rintro e w1 ⟨rfl, hs⟩
        rw [failS_yes rfl] at hs
        have HS := Lib.hid (hs.from (W := W) (by first | exact Below.refl _ _ | exact below_drewN (Below.refl _ _) _ | exact below_drewN (below_drewN (Below.refl _ _) _) _))
        clear hs HF
        go_wp2
        refine bodyPost_ret (v := .int .i64 0) (by simp [results, Try.results54, go_sem]) rfl ?_
        exact rd_mk E.out HS.out
      · have HF := Lib.hid (fun W1 (hb : Below W.heap.size W W1) => h.set1 (s1 := ⟨p + 1, 0, bd⟩) hb 1 (.int .i64 ((p + 1 : Nat) : Int)) rfl (by simp only; omega))
        have E := Lib.hid (E2.out (by omega))
        have hm' : ch ≤ m := by omega
        have hpp : ((p + 1 : Nat) : Int) = (p : Int) + 1 := by omega
        rw [hpp] at HF
        clear h E1 E2 hm hpp
        go_enter Try.func54, Try.ntmps54
        go_upto_region 3 with (fail)
        go_quiet (fail)
        go_upto_region 6 with (fail)
        go_quiet (fail)
        go_wp2
        refine bodyPost_ret (v := .int .i64 ch) (by simp [results, Try.results54, go_sem]) rfl ?_
        exact rd_mk E.out (HF.out _ (by first | exact Below.refl _ _ | exact below_drewN (Below.refl _ _) _ | exact below_drewN (below_drewN (Below.refl _ _) _) _))
  · have hcb : (cd == 0) = false := beq_eq_false_iff_ne.2 hc
    have E := Lib.hid (octR_no (m := m) (B := B) (s := ⟨p, cd, bd⟩) hc)
    clear h hbs hc
    go_enter Try.func54, Try.ntmps54
    go_wp2
    refine bodyPost_ret (v := .int .i64 0) (by simp [results, Try.results54, go_sem]) rfl ?_
    exact rd_mk E.out (RdS.refl HH.out)

theorem or_zero_ {n : Nat} (h : n < 4503599627370496) : bits BinOp.or IntKind.i64 (n : Int) 0 = (n : Int) := by
  have := or_add (a := n) (b := 0) (k := 60) (by omega) (by omega)
  simpa using this
theorem numGo_no {start f i : Nat} {n : Int} {B : List Int} {s : Rs} (h : (octR 255 B s).2.code ≠ 0) : numGo start (f + 1) i n B s = (0, (octR 255 B s).2) := by rw [numGo_succ, if_pos h]
theorem numGo_bad {start f i : Nat} {n : Int} {B : List Int} {s : Rs} (h0 : (octR 255 B s).2.code = 0) (h1 : (octR 255 B s).1 < 128) (h2 : (0 < i ∧ (octR 255 B s).1 = 0) ∨ 2147483648 ≤ n + (octR 255 B s).1 % 128 * 128 ^ i) : numGo start (f + 1) i n B s = (0, failS 100 start (octR 255 B s).2) := by rw [numGo_succ, if_neg (by rw [h0]; simp), if_pos h1, if_pos h2]
theorem numGo_end {start f i : Nat} {n : Int} {B : List Int} {s : Rs} (h0 : (octR 255 B s).2.code = 0) (h1 : (octR 255 B s).1 < 128) (h2 : ¬ ((0 < i ∧ (octR 255 B s).1 = 0) ∨ 2147483648 ≤ n + (octR 255 B s).1 % 128 * 128 ^ i)) : numGo start (f + 1) i n B s = (n + (octR 255 B s).1 % 128 * 128 ^ i, (octR 255 B s).2) := by rw [numGo_succ, if_neg (by rw [h0]; simp), if_pos h1, if_neg h2]
theorem numGo_next {start f i : Nat} {n : Int} {B : List Int} {s : Rs} (h0 : (octR 255 B s).2.code = 0) (h1 : ¬ (octR 255 B s).1 < 128) : numGo start (f + 1) i n B s = numGo start f (i + 1) (n + (octR 255 B s).1 % 128 * 128 ^ i) B (octR 255 B s).2 := by rw [numGo_succ, if_neg (by rw [h0]; simp), if_neg h1]
set_option maxRecDepth 100000 in
set_option maxHeartbeats 8000000 in
theorem rd_number (w0 W : World) (rb : Nat) (sv : Value) (B : List Int) (s : Rs) (h : RdAt 100 w0 W rb sv B s) : Calls Try.prog 56 #[.pointer (some ⟨rb, 0, none⟩)] W (RdPost 100 w0 W rb sv B (numR B s)) := by
  obtain ⟨p, cd, bd⟩ := s
  have HH := Lib.hid h
  have hby := h.byte
  have q0 := h.cells.1
  have q1 : W.cell? ⟨rb, 1, none⟩ = some (.int .i64 p) := h.cells.2.1
  have q2 : W.cell? ⟨rb, 2, none⟩ = some (.int .i64 cd) := h.cells.2.2.1
  have q3 : W.cell? ⟨rb, 3, none⟩ = some (.int .i64 bd) := h.cells.2.2.2
  have f1 := h.free 1
  have f2 := h.free 2
  have f3 := h.free 3
  have zr := h.lt
  have HP := Lib.hid (fun (n : Int) (s1 : Rs) (W1 : World) (e : numR B ⟨p, cd, bd⟩ = (n, s1)) (hs : RdS 100 w0 W rb sv B s1 W1) => rd_mk e hs)
  have HO := Lib.hid (fun (s1 : Rs) (W1 : World) (hs : RdAt 100 w0 W1 rb sv B s1) => rd_octet w0 W1 rb sv B s1 255 hs)
  have HF := Lib.hid (fun (s1 : Rs) (W1 : World) (hs : RdAt 100 w0 W1 rb sv B s1) => rd_fail w0 W1 rb sv B s1 100 p hs)
  have HE0 := Lib.hid (show numGo p 5 0 0 B ⟨p, cd, bd⟩ = numR B ⟨p, cd, bd⟩ from rfl)
  generalize RdPost 100 w0 W rb sv B (numR B ⟨p, cd, bd⟩) = post at *
  generalize numR B ⟨p, cd, bd⟩ = res at *
  clear h q0 q2 q3 f1 f2 f3
  go_enter Try.func56, Try.ntmps56
  go_wp2
  go_loopw [4, 11] (fun nv iv wr => ∃ (i n : Nat) (s1 : Rs), nv = .int .i64 n ∧ iv = .int .i64 i ∧ i ≤ 5 ∧ RowKit.Hid (n < 128 ^ i) ∧ RowKit.Hid (RdS 100 w0 W rb sv B s1 wr) ∧ RowKit.Hid ((i < 5 ∧ numGo p (5 - i) i n B s1 = res) ∨ (i = 5 ∧ s1.code ≠ 0 ∧ res = (0, s1)))) (fun _ iv _ => 5 - (intOf iv).toNat)
  case atStart => exact ⟨0, 0, ⟨p, cd, bd⟩, rfl, rfl, by omega, Lib.hid (by decide), Lib.hid (RdS.refl HH.out), Lib.hid (.inl ⟨by omega, HE0.out⟩)⟩
  case round =>
    clear q1 zr
    obtain ⟨i, n, s1, rfl, rfl, hi, HN, HS, HE⟩ := hrel
    have hn := HN.out
    obtain rfl | rfl | rfl | rfl | rfl | rfl : i = 0 ∨ i = 1 ∨ i = 2 ∨ i = 3 ∨ i = 4 ∨ i = 5 := by omega
    · obtain ⟨_, he⟩ := HE.out.resolve_right (fun h => absurd h.1 (by decide))
      have HC := Lib.hid (HO.out s1 wr HS.out.at_)
      have hsum := octR_sum 255 hby s1
      have HNX := Lib.hid (And.intro (fun h => he.symm.trans (numGo_no (start := p) (f := 4) (i := 0) (n := n) (B := B) (s := s1) h)) (And.intro (fun h h1 h2 => he.symm.trans (numGo_bad (start := p) (f := 4) (i := 0) (n := n) (B := B) (s := s1) h h1 h2)) (And.intro (fun h h1 h2 => he.symm.trans (numGo_end (start := p) (f := 4) (i := 0) (n := n) (B := B) (s := s1) h h1 h2)) (fun h h1 => he.symm.trans (numGo_next (start := p) (f := 4) (i := 0) (n := n) (B := B) (s := s1) h h1)))))
      clear he HE
      obtain ⟨r, hr⟩ : ∃ r, r = octR 255 B s1 := ⟨_, rfl⟩
      rw [← hr] at hsum HNX HC
      obtain ⟨c, s2⟩ := r
      simp only at hsum HNX
      clear hr
      go_wp2_with fail
      refine HC.out.mono ?_
      rintro e w2 ⟨rfl, hs⟩
      have HS2 := Lib.hid (HS.out.trans hs)
      clear hs HC HS
      simp only at HS2 ⊢
      have hn : n < 1 := HN.out
      rcases hsum with ⟨hcode, rfl⟩ | ⟨hcode, hc0, hc1, _, _⟩
      · have E := Lib.hid (HNX.out.1 hcode)
        have hor : bits BinOp.or IntKind.i64 (n : Int) 0 = (n : Int) := or_zero_ (by omega)
        have han : bits BinOp.and IntKind.i64 0 127 = 0 := by decide
        have hcb : (s2.code == 0) = false := beq_eq_false_iff_ne.2 hcode
        clear HNX
        have k2 := HS2.out.at_.cells.2.2.1
        have k3 := HS2.out.at_.lt
        have hnz : ¬ (2147483648 : Int) ≤ (n : Int) := by omega
        clear hcode
        go_wp2
        exact HP.out _ _ _ E.out HS2.out
      · obtain ⟨c, rfl⟩ := Int.eq_ofNat_of_zero_le hc0
        obtain ⟨m, hm⟩ : ∃ m, m = c % 128 := ⟨_, rfl⟩
        have hml : m < 128 := by omega
        have hmi : (c : Int) % 128 = (m : Int) := by omega
        have han : bits BinOp.and IntKind.i64 (c : Int) 127 = (m : Int) := by rw [and_127_ hc0 hc1]; exact hmi
        have hor : bits BinOp.or IntKind.i64 (n : Int) ((m : Int)) = (n : Int) + (m : Int) := by
          have := or_add (a := n) (b := m) (k := 0) (by omega) (by omega)
          rw [show ((m * 2 ^ 0 : Nat) : Int) = (m : Int) by omega, show ((n + m * 2 ^ 0 : Nat) : Int) = (n : Int) + (m : Int) by omega] at this
          exact this
        have HNX2 := Lib.hid (And.intro (HNX.out.2.1 hcode) (And.intro (HNX.out.2.2.1 hcode) (HNX.out.2.2.2 hcode)))
        rw [hmi, show (m : Int) * 128 ^ 0 = (m : Int) by omega] at HNX2
        have HM := Lib.hid hm
        clear HNX hmi hm
        by_cases hlt : (c : Int) < 128
        · have hnb : ¬ (2147483648 : Int) ≤ (n : Int) + (m : Int) := by omega
          have E := Lib.hid (HNX2.out.2.1 hlt (fun h => h.elim (fun h => absurd h.1 (by decide)) (fun h => hnb h)))
          have k2 : w2.cell? ⟨rb, 2, none⟩ = some (.int .i64 0) := by rw [← hcode]; exact HS2.out.at_.cells.2.2.1
          have k3 := HS2.out.at_.lt
          clear HNX2 hcode
          go_wp2
          exact HP.out _ _ _ E.out HS2.out
        · have hcast : ((n + m * 1 : Nat) : Int) = (n : Int) + (m : Int) := by omega
          have E := Lib.hid (HNX2.out.2.2 (Int.not_lt.1 hlt))
          clear HNX2
          go_wp2
          go_roundw
          case rel => exact ⟨1, n + m * 1, s2, by first | rfl | (rw [hcast]) | go_num, by first | rfl | go_num, by omega, Lib.hid (by show _ < 128; omega), HS2, Lib.hid (.inl ⟨by omega, by rw [hcast]; exact E.out.symm⟩)⟩
          case measure => simp [intOf]
    · obtain ⟨_, he⟩ := HE.out.resolve_right (fun h => absurd h.1 (by decide))
      have HC := Lib.hid (HO.out s1 wr HS.out.at_)
      have hsum := octR_sum 255 hby s1
      have HNX := Lib.hid (And.intro (fun h => he.symm.trans (numGo_no (start := p) (f := 3) (i := 1) (n := n) (B := B) (s := s1) h)) (And.intro (fun h h1 h2 => he.symm.trans (numGo_bad (start := p) (f := 3) (i := 1) (n := n) (B := B) (s := s1) h h1 h2)) (And.intro (fun h h1 h2 => he.symm.trans (numGo_end (start := p) (f := 3) (i := 1) (n := n) (B := B) (s := s1) h h1 h2)) (fun h h1 => he.symm.trans (numGo_next (start := p) (f := 3) (i := 1) (n := n) (B := B) (s := s1) h h1)))))
      clear he HE
      obtain ⟨r, hr⟩ : ∃ r, r = octR 255 B s1 := ⟨_, rfl⟩
      rw [← hr] at hsum HNX HC
      obtain ⟨c, s2⟩ := r
      simp only at hsum HNX
      clear hr
      go_wp2_with fail
      refine HC.out.mono ?_
      rintro e w2 ⟨rfl, hs⟩
      have HS2 := Lib.hid (HS.out.trans hs)
      clear hs HC HS
      simp only at HS2 ⊢
      have hn : n < 128 := HN.out
      rcases hsum with ⟨hcode, rfl⟩ | ⟨hcode, hc0, hc1, _, _⟩
      · have E := Lib.hid (HNX.out.1 hcode)
        have hor : bits BinOp.or IntKind.i64 (n : Int) 0 = (n : Int) := or_zero_ (by omega)
        have han : bits BinOp.and IntKind.i64 0 127 = 0 := by decide
        have hcb : (s2.code == 0) = false := beq_eq_false_iff_ne.2 hcode
        clear HNX
        have HFF := Lib.hid (HF.out s2 w2 HS2.out.at_)
        have HFF2 := Lib.hid (show Calls _ _ _ _ fun e W' => e = .returned (.tuple #[]) ∧ RdS 100 w0 w2 rb sv B s2 W' by have := HFF.out; rw [failS_no hcode] at this; exact this)
        clear HFF
        go_wp2_with fail
        refine HFF2.out.mono ?_
        rintro e w3 ⟨rfl, hs⟩
        have HS3 := Lib.hid (HS2.out.trans hs)
        have k2 := HS3.out.at_.cells.2.2.1
        have k3 := HS3.out.at_.lt
        clear hs HFF2 HS2
        clear hcode
        go_wp2
        exact HP.out _ _ _ E.out HS3.out
      · obtain ⟨c, rfl⟩ := Int.eq_ofNat_of_zero_le hc0
        obtain ⟨m, hm⟩ : ∃ m, m = c % 128 := ⟨_, rfl⟩
        have hml : m < 128 := by omega
        have hmi : (c : Int) % 128 = (m : Int) := by omega
        have han : bits BinOp.and IntKind.i64 (c : Int) 127 = (m : Int) := by rw [and_127_ hc0 hc1]; exact hmi
        have hsh : wrap64 ((m : Int) * 128) = (m : Int) * 128 := IntWalk.wrap64_in _ ⟨by omega, by omega⟩
        have hor : bits BinOp.or IntKind.i64 (n : Int) ((m : Int) * 128) = (n : Int) + (m : Int) * 128 := by
          have := or_add (a := n) (b := m) (k := 7) (by omega) (by omega)
          rw [show ((m * 2 ^ 7 : Nat) : Int) = (m : Int) * 128 by omega, show ((n + m * 2 ^ 7 : Nat) : Int) = (n : Int) + (m : Int) * 128 by omega] at this
          exact this
        have HNX2 := Lib.hid (And.intro (HNX.out.2.1 hcode) (And.intro (HNX.out.2.2.1 hcode) (HNX.out.2.2.2 hcode)))
        rw [hmi, show (m : Int) * 128 ^ 1 = (m : Int) * 128 by omega] at HNX2
        have HM := Lib.hid hm
        clear HNX hmi hm
        by_cases hlt : (c : Int) < 128
        · by_cases hz : (c : Int) = 0
          · have hcz : ((c : Int) == 0) = true := by rw [beq_iff_eq]; exact hz
            have E := Lib.hid (HNX2.out.1 hlt (.inl ⟨by decide, hz⟩))
            rw [failS_yes hcode] at E
            clear HNX2
            have HFF := Lib.hid (HF.out s2 w2 HS2.out.at_)
            have HFF2 := Lib.hid (show Calls _ _ _ _ fun e W' => e = .returned (.tuple #[]) ∧ RdS 100 w0 w2 rb sv B ⟨s2.at_, 100, p⟩ W' by have := HFF.out; rw [failS_yes hcode] at this; exact this)
            clear HFF
            go_wp2_with fail
            refine HFF2.out.mono ?_
            rintro e w3 ⟨rfl, hs⟩
            have HS3 := Lib.hid (HS2.out.trans hs)
            have k2 : w3.cell? ⟨rb, 2, none⟩ = some (.int .i64 100) := HS3.out.at_.cells.2.2.1
            have k3 := HS3.out.at_.lt
            clear hs HFF2 HS2
            clear hcode hz
            go_wp2
            exact HP.out _ _ _ E.out HS3.out
          · have hcz : ((c : Int) == 0) = false := beq_eq_false_iff_ne.2 hz
            have hnb : ¬ (2147483648 : Int) ≤ (n : Int) + (m : Int) * 128 := by omega
            have E := Lib.hid (HNX2.out.2.1 hlt (fun h => h.elim (fun h => absurd h.2 hz) (fun h => hnb h)))
            have k2 : w2.cell? ⟨rb, 2, none⟩ = some (.int .i64 0) := by rw [← hcode]; exact HS2.out.at_.cells.2.2.1
            have k3 := HS2.out.at_.lt
            clear HNX2 hcode
            go_wp2
            exact HP.out _ _ _ E.out HS2.out
        · have hcast : ((n + m * 128 : Nat) : Int) = (n : Int) + (m : Int) * 128 := by omega
          have E := Lib.hid (HNX2.out.2.2 (Int.not_lt.1 hlt))
          clear HNX2
          go_wp2
          go_roundw
          case rel => exact ⟨2, n + m * 128, s2, by first | rfl | (rw [hcast]) | go_num, by first | rfl | go_num, by omega, Lib.hid (by show _ < 16384; omega), HS2, Lib.hid (.inl ⟨by omega, by rw [hcast]; exact E.out.symm⟩)⟩
          case measure => simp [intOf]
    · obtain ⟨_, he⟩ := HE.out.resolve_right (fun h => absurd h.1 (by decide))
      have HC := Lib.hid (HO.out s1 wr HS.out.at_)
      have hsum := octR_sum 255 hby s1
      have HNX := Lib.hid (And.intro (fun h => he.symm.trans (numGo_no (start := p) (f := 2) (i := 2) (n := n) (B := B) (s := s1) h)) (And.intro (fun h h1 h2 => he.symm.trans (numGo_bad (start := p) (f := 2) (i := 2) (n := n) (B := B) (s := s1) h h1 h2)) (And.intro (fun h h1 h2 => he.symm.trans (numGo_end (start := p) (f := 2) (i := 2) (n := n) (B := B) (s := s1) h h1 h2)) (fun h h1 => he.symm.trans (numGo_next (start := p) (f := 2) (i := 2) (n := n) (B := B) (s := s1) h h1)))))
      clear he HE
      obtain ⟨r, hr⟩ : ∃ r, r = octR 255 B s1 := ⟨_, rfl⟩
      rw [← hr] at hsum HNX HC
      obtain ⟨c, s2⟩ := r
      simp only at hsum HNX
      clear hr
      go_wp2_with fail
      refine HC.out.mono ?_
      rintro e w2 ⟨rfl, hs⟩
      have HS2 := Lib.hid (HS.out.trans hs)
      clear hs HC HS
      simp only at HS2 ⊢
      have hn : n < 16384 := HN.out
      rcases hsum with ⟨hcode, rfl⟩ | ⟨hcode, hc0, hc1, _, _⟩
      · have E := Lib.hid (HNX.out.1 hcode)
        have hor : bits BinOp.or IntKind.i64 (n : Int) 0 = (n : Int) := or_zero_ (by omega)
        have han : bits BinOp.and IntKind.i64 0 127 = 0 := by decide
        have hcb : (s2.code == 0) = false := beq_eq_false_iff_ne.2 hcode
        clear HNX
        have HFF := Lib.hid (HF.out s2 w2 HS2.out.at_)
        have HFF2 := Lib.hid (show Calls _ _ _ _ fun e W' => e = .returned (.tuple #[]) ∧ RdS 100 w0 w2 rb sv B s2 W' by have := HFF.out; rw [failS_no hcode] at this; exact this)
        clear HFF
        go_wp2_with fail
        refine HFF2.out.mono ?_
        rintro e w3 ⟨rfl, hs⟩
        have HS3 := Lib.hid (HS2.out.trans hs)
        have k2 := HS3.out.at_.cells.2.2.1
        have k3 := HS3.out.at_.lt
        clear hs HFF2 HS2
        clear hcode
        go_wp2
        exact HP.out _ _ _ E.out HS3.out
      · obtain ⟨c, rfl⟩ := Int.eq_ofNat_of_zero_le hc0
        obtain ⟨m, hm⟩ : ∃ m, m = c % 128 := ⟨_, rfl⟩
        have hml : m < 128 := by omega
        have hmi : (c : Int) % 128 = (m : Int) := by omega
        have han : bits BinOp.and IntKind.i64 (c : Int) 127 = (m : Int) := by rw [and_127_ hc0 hc1]; exact hmi
        have hsh : wrap64 ((m : Int) * 16384) = (m : Int) * 16384 := IntWalk.wrap64_in _ ⟨by omega, by omega⟩
        have hor : bits BinOp.or IntKind.i64 (n : Int) ((m : Int) * 16384) = (n : Int) + (m : Int) * 16384 := by
          have := or_add (a := n) (b := m) (k := 14) (by omega) (by omega)
          rw [show ((m * 2 ^ 14 : Nat) : Int) = (m : Int) * 16384 by omega, show ((n + m * 2 ^ 14 : Nat) : Int) = (n : Int) + (m : Int) * 16384 by omega] at this
          exact this
        have HNX2 := Lib.hid (And.intro (HNX.out.2.1 hcode) (And.intro (HNX.out.2.2.1 hcode) (HNX.out.2.2.2 hcode)))
        rw [hmi, show (m : Int) * 128 ^ 2 = (m : Int) * 16384 by omega] at HNX2
        have HM := Lib.hid hm
        clear HNX hmi hm
        by_cases hlt : (c : Int) < 128
        · by_cases hz : (c : Int) = 0
          · have hcz : ((c : Int) == 0) = true := by rw [beq_iff_eq]; exact hz
            have E := Lib.hid (HNX2.out.1 hlt (.inl ⟨by decide, hz⟩))
            rw [failS_yes hcode] at E
            clear HNX2
            have HFF := Lib.hid (HF.out s2 w2 HS2.out.at_)
            have HFF2 := Lib.hid (show Calls _ _ _ _ fun e W' => e = .returned (.tuple #[]) ∧ RdS 100 w0 w2 rb sv B ⟨s2.at_, 100, p⟩ W' by have := HFF.out; rw [failS_yes hcode] at this; exact this)
            clear HFF
            go_wp2_with fail
            refine HFF2.out.mono ?_
            rintro e w3 ⟨rfl, hs⟩
            have HS3 := Lib.hid (HS2.out.trans hs)
            have k2 : w3.cell? ⟨rb, 2, none⟩ = some (.int .i64 100) := HS3.out.at_.cells.2.2.1
            have k3 := HS3.out.at_.lt
            clear hs HFF2 HS2
            clear hcode hz
            go_wp2
            exact HP.out _ _ _ E.out HS3.out
          · have hcz : ((c : Int) == 0) = false := beq_eq_false_iff_ne.2 hz
            have hnb : ¬ (2147483648 : Int) ≤ (n : Int) + (m : Int) * 16384 := by omega
            have E := Lib.hid (HNX2.out.2.1 hlt (fun h => h.elim (fun h => absurd h.2 hz) (fun h => hnb h)))
            have k2 : w2.cell? ⟨rb, 2, none⟩ = some (.int .i64 0) := by rw [← hcode]; exact HS2.out.at_.cells.2.2.1
            have k3 := HS2.out.at_.lt
            clear HNX2 hcode
            go_wp2
            exact HP.out _ _ _ E.out HS2.out
        · have hcast : ((n + m * 16384 : Nat) : Int) = (n : Int) + (m : Int) * 16384 := by omega
          have E := Lib.hid (HNX2.out.2.2 (Int.not_lt.1 hlt))
          clear HNX2
          go_wp2
          go_roundw
          case rel => exact ⟨3, n + m * 16384, s2, by first | rfl | (rw [hcast]) | go_num, by first | rfl | go_num, by omega, Lib.hid (by show _ < 2097152; omega), HS2, Lib.hid (.inl ⟨by omega, by rw [hcast]; exact E.out.symm⟩)⟩
          case measure => simp [intOf]
    · obtain ⟨_, he⟩ := HE.out.resolve_right (fun h => absurd h.1 (by decide))
      have HC := Lib.hid (HO.out s1 wr HS.out.at_)
      have hsum := octR_sum 255 hby s1
      have HNX := Lib.hid (And.intro (fun h => he.symm.trans (numGo_no (start := p) (f := 1) (i := 3) (n := n) (B := B) (s := s1) h)) (And.intro (fun h h1 h2 => he.symm.trans (numGo_bad (start := p) (f := 1) (i := 3) (n := n) (B := B) (s := s1) h h1 h2)) (And.intro (fun h h1 h2 => he.symm.trans (numGo_end (start := p) (f := 1) (i := 3) (n := n) (B := B) (s := s1) h h1 h2)) (fun h h1 => he.symm.trans (numGo_next (start := p) (f := 1) (i := 3) (n := n) (B := B) (s := s1) h h1)))))
      clear he HE
      obtain ⟨r, hr⟩ : ∃ r, r = octR 255 B s1 := ⟨_, rfl⟩
      rw [← hr] at hsum HNX HC
      obtain ⟨c, s2⟩ := r
      simp only at hsum HNX
      clear hr
      go_wp2_with fail
      refine HC.out.mono ?_
      rintro e w2 ⟨rfl, hs⟩
      have HS2 := Lib.hid (HS.out.trans hs)
      clear hs HC HS
      simp only at HS2 ⊢
      have hn : n < 2097152 := HN.out
      rcases hsum with ⟨hcode, rfl⟩ | ⟨hcode, hc0, hc1, _, _⟩
      · have E := Lib.hid (HNX.out.1 hcode)
        have hor : bits BinOp.or IntKind.i64 (n : Int) 0 = (n : Int) := or_zero_ (by omega)
        have han : bits BinOp.and IntKind.i64 0 127 = 0 := by decide
        have hcb : (s2.code == 0) = false := beq_eq_false_iff_ne.2 hcode
        clear HNX
        have HFF := Lib.hid (HF.out s2 w2 HS2.out.at_)
        have HFF2 := Lib.hid (show Calls _ _ _ _ fun e W' => e = .returned (.tuple #[]) ∧ RdS 100 w0 w2 rb sv B s2 W' by have := HFF.out; rw [failS_no hcode] at this; exact this)
        clear HFF
        go_wp2_with fail
        refine HFF2.out.mono ?_
        rintro e w3 ⟨rfl, hs⟩
        have HS3 := Lib.hid (HS2.out.trans hs)
        have k2 := HS3.out.at_.cells.2.2.1
        have k3 := HS3.out.at_.lt
        clear hs HFF2 HS2
        clear hcode
        go_wp2
        exact HP.out _ _ _ E.out HS3.out
      · obtain ⟨c, rfl⟩ := Int.eq_ofNat_of_zero_le hc0
        obtain ⟨m, hm⟩ : ∃ m, m = c % 128 := ⟨_, rfl⟩
        have hml : m < 128 := by omega
        have hmi : (c : Int) % 128 = (m : Int) := by omega
        have han : bits BinOp.and IntKind.i64 (c : Int) 127 = (m : Int) := by rw [and_127_ hc0 hc1]; exact hmi
        have hsh : wrap64 ((m : Int) * 2097152) = (m : Int) * 2097152 := IntWalk.wrap64_in _ ⟨by omega, by omega⟩
        have hor : bits BinOp.or IntKind.i64 (n : Int) ((m : Int) * 2097152) = (n : Int) + (m : Int) * 2097152 := by
          have := or_add (a := n) (b := m) (k := 21) (by omega) (by omega)
          rw [show ((m * 2 ^ 21 : Nat) : Int) = (m : Int) * 2097152 by omega, show ((n + m * 2 ^ 21 : Nat) : Int) = (n : Int) + (m : Int) * 2097152 by omega] at this
          exact this
        have HNX2 := Lib.hid (And.intro (HNX.out.2.1 hcode) (And.intro (HNX.out.2.2.1 hcode) (HNX.out.2.2.2 hcode)))
        rw [hmi, show (m : Int) * 128 ^ 3 = (m : Int) * 2097152 by omega] at HNX2
        have HM := Lib.hid hm
        clear HNX hmi hm
        by_cases hlt : (c : Int) < 128
        · by_cases hz : (c : Int) = 0
          · have hcz : ((c : Int) == 0) = true := by rw [beq_iff_eq]; exact hz
            have E := Lib.hid (HNX2.out.1 hlt (.inl ⟨by decide, hz⟩))
            rw [failS_yes hcode] at E
            clear HNX2
            have HFF := Lib.hid (HF.out s2 w2 HS2.out.at_)
            have HFF2 := Lib.hid (show Calls _ _ _ _ fun e W' => e = .returned (.tuple #[]) ∧ RdS 100 w0 w2 rb sv B ⟨s2.at_, 100, p⟩ W' by have := HFF.out; rw [failS_yes hcode] at this; exact this)
            clear HFF
            go_wp2_with fail
            refine HFF2.out.mono ?_
            rintro e w3 ⟨rfl, hs⟩
            have HS3 := Lib.hid (HS2.out.trans hs)
            have k2 : w3.cell? ⟨rb, 2, none⟩ = some (.int .i64 100) := HS3.out.at_.cells.2.2.1
            have k3 := HS3.out.at_.lt
            clear hs HFF2 HS2
            clear hcode hz
            go_wp2
            exact HP.out _ _ _ E.out HS3.out
          · have hcz : ((c : Int) == 0) = false := beq_eq_false_iff_ne.2 hz
            have hnb : ¬ (2147483648 : Int) ≤ (n : Int) + (m : Int) * 2097152 := by omega
            have E := Lib.hid (HNX2.out.2.1 hlt (fun h => h.elim (fun h => absurd h.2 hz) (fun h => hnb h)))
            have k2 : w2.cell? ⟨rb, 2, none⟩ = some (.int .i64 0) := by rw [← hcode]; exact HS2.out.at_.cells.2.2.1
            have k3 := HS2.out.at_.lt
            clear HNX2 hcode
            go_wp2
            exact HP.out _ _ _ E.out HS2.out
        · have hcast : ((n + m * 2097152 : Nat) : Int) = (n : Int) + (m : Int) * 2097152 := by omega
          have E := Lib.hid (HNX2.out.2.2 (Int.not_lt.1 hlt))
          clear HNX2
          go_wp2
          go_roundw
          case rel => exact ⟨4, n + m * 2097152, s2, by first | rfl | (rw [hcast]) | go_num, by first | rfl | go_num, by omega, Lib.hid (by show _ < 268435456; omega), HS2, Lib.hid (.inl ⟨by omega, by rw [hcast]; exact E.out.symm⟩)⟩
          case measure => simp [intOf]
    · obtain ⟨_, he⟩ := HE.out.resolve_right (fun h => absurd h.1 (by decide))
      have HC := Lib.hid (HO.out s1 wr HS.out.at_)
      have hsum := octR_sum 255 hby s1
      have HNX := Lib.hid (And.intro (fun h => he.symm.trans (numGo_no (start := p) (f := 0) (i := 4) (n := n) (B := B) (s := s1) h)) (And.intro (fun h h1 h2 => he.symm.trans (numGo_bad (start := p) (f := 0) (i := 4) (n := n) (B := B) (s := s1) h h1 h2)) (And.intro (fun h h1 h2 => he.symm.trans (numGo_end (start := p) (f := 0) (i := 4) (n := n) (B := B) (s := s1) h h1 h2)) (fun h h1 => he.symm.trans (numGo_next (start := p) (f := 0) (i := 4) (n := n) (B := B) (s := s1) h h1)))))
      clear he HE
      obtain ⟨r, hr⟩ : ∃ r, r = octR 255 B s1 := ⟨_, rfl⟩
      rw [← hr] at hsum HNX HC
      obtain ⟨c, s2⟩ := r
      simp only at hsum HNX
      clear hr
      go_wp2_with fail
      refine HC.out.mono ?_
      rintro e w2 ⟨rfl, hs⟩
      have HS2 := Lib.hid (HS.out.trans hs)
      clear hs HC HS
      simp only at HS2 ⊢
      have hn : n < 268435456 := HN.out
      rcases hsum with ⟨hcode, rfl⟩ | ⟨hcode, hc0, hc1, _, _⟩
      · have E := Lib.hid (HNX.out.1 hcode)
        have hor : bits BinOp.or IntKind.i64 (n : Int) 0 = (n : Int) := or_zero_ (by omega)
        have han : bits BinOp.and IntKind.i64 0 127 = 0 := by decide
        have hcb : (s2.code == 0) = false := beq_eq_false_iff_ne.2 hcode
        clear HNX
        have HFF := Lib.hid (HF.out s2 w2 HS2.out.at_)
        have HFF2 := Lib.hid (show Calls _ _ _ _ fun e W' => e = .returned (.tuple #[]) ∧ RdS 100 w0 w2 rb sv B s2 W' by have := HFF.out; rw [failS_no hcode] at this; exact this)
        clear HFF
        go_wp2_with fail
        refine HFF2.out.mono ?_
        rintro e w3 ⟨rfl, hs⟩
        have HS3 := Lib.hid (HS2.out.trans hs)
        have k2 := HS3.out.at_.cells.2.2.1
        have k3 := HS3.out.at_.lt
        clear hs HFF2 HS2
        clear hcode
        go_wp2
        exact HP.out _ _ _ E.out HS3.out
      · obtain ⟨c, rfl⟩ := Int.eq_ofNat_of_zero_le hc0
        obtain ⟨m, hm⟩ : ∃ m, m = c % 128 := ⟨_, rfl⟩
        have hml : m < 128 := by omega
        have hmi : (c : Int) % 128 = (m : Int) := by omega
        have han : bits BinOp.and IntKind.i64 (c : Int) 127 = (m : Int) := by rw [and_127_ hc0 hc1]; exact hmi
        have hsh : wrap64 ((m : Int) * 268435456) = (m : Int) * 268435456 := IntWalk.wrap64_in _ ⟨by omega, by omega⟩
        have hor : bits BinOp.or IntKind.i64 (n : Int) ((m : Int) * 268435456) = (n : Int) + (m : Int) * 268435456 := by
          have := or_add (a := n) (b := m) (k := 28) (by omega) (by omega)
          rw [show ((m * 2 ^ 28 : Nat) : Int) = (m : Int) * 268435456 by omega, show ((n + m * 2 ^ 28 : Nat) : Int) = (n : Int) + (m : Int) * 268435456 by omega] at this
          exact this
        have HNX2 := Lib.hid (And.intro (HNX.out.2.1 hcode) (And.intro (HNX.out.2.2.1 hcode) (HNX.out.2.2.2 hcode)))
        rw [hmi, show (m : Int) * 128 ^ 4 = (m : Int) * 268435456 by omega] at HNX2
        have HM := Lib.hid hm
        clear HNX hmi hm
        by_cases hlt : (c : Int) < 128
        · by_cases hz : (c : Int) = 0
          · have hcz : ((c : Int) == 0) = true := by rw [beq_iff_eq]; exact hz
            have E := Lib.hid (HNX2.out.1 hlt (.inl ⟨by decide, hz⟩))
            rw [failS_yes hcode] at E
            clear HNX2
            have HFF := Lib.hid (HF.out s2 w2 HS2.out.at_)
            have HFF2 := Lib.hid (show Calls _ _ _ _ fun e W' => e = .returned (.tuple #[]) ∧ RdS 100 w0 w2 rb sv B ⟨s2.at_, 100, p⟩ W' by have := HFF.out; rw [failS_yes hcode] at this; exact this)
            clear HFF
            go_wp2_with fail
            refine HFF2.out.mono ?_
            rintro e w3 ⟨rfl, hs⟩
            have HS3 := Lib.hid (HS2.out.trans hs)
            have k2 : w3.cell? ⟨rb, 2, none⟩ = some (.int .i64 100) := HS3.out.at_.cells.2.2.1
            have k3 := HS3.out.at_.lt
            clear hs HFF2 HS2
            clear hcode hz
            go_wp2
            exact HP.out _ _ _ E.out HS3.out
          · have hcz : ((c : Int) == 0) = false := beq_eq_false_iff_ne.2 hz
            by_cases hbig : (2147483648 : Int) ≤ (n : Int) + (m : Int) * 268435456
            · have E := Lib.hid (HNX2.out.1 hlt (.inr hbig))
              rw [failS_yes hcode] at E
              clear HNX2
              have HFF := Lib.hid (HF.out s2 w2 HS2.out.at_)
              have HFF2 := Lib.hid (show Calls _ _ _ _ fun e W' => e = .returned (.tuple #[]) ∧ RdS 100 w0 w2 rb sv B ⟨s2.at_, 100, p⟩ W' by have := HFF.out; rw [failS_yes hcode] at this; exact this)
              clear HFF
              go_wp2_with fail
              refine HFF2.out.mono ?_
              rintro e w3 ⟨rfl, hs⟩
              have HS3 := Lib.hid (HS2.out.trans hs)
              have k2 : w3.cell? ⟨rb, 2, none⟩ = some (.int .i64 100) := HS3.out.at_.cells.2.2.1
              have k3 := HS3.out.at_.lt
              clear hs HFF2 HS2
              clear hcode hz
              go_wp2
              exact HP.out _ _ _ E.out HS3.out
            · have E := Lib.hid (HNX2.out.2.1 hlt (fun h => h.elim (fun h => absurd h.2 hz) (fun h => hbig h)))
              have k2 : w2.cell? ⟨rb, 2, none⟩ = some (.int .i64 0) := by rw [← hcode]; exact HS2.out.at_.cells.2.2.1
              have k3 := HS2.out.at_.lt
              clear HNX2 hcode
              go_wp2
              exact HP.out _ _ _ E.out HS2.out
        · have hcast : ((n + m * 268435456 : Nat) : Int) = (n : Int) + (m : Int) * 268435456 := by omega
          have E := Lib.hid (show res = (0, failS 100 p s2) from HNX2.out.2.2 (Int.not_lt.1 hlt))
          rw [failS_yes hcode] at E
          clear HNX2
          have HFF := Lib.hid (HF.out s2 w2 HS2.out.at_)
          have HFF2 := Lib.hid (show Calls _ _ _ _ fun e W' => e = .returned (.tuple #[]) ∧ RdS 100 w0 w2 rb sv B ⟨s2.at_, 100, p⟩ W' by have := HFF.out; rw [failS_yes hcode] at this; exact this)
          clear HFF
          go_wp2_with fail
          refine HFF2.out.mono ?_
          rintro e w3 ⟨rfl, hs⟩
          have HS3 := Lib.hid (HS2.out.trans hs)
          have k2 : w3.cell? ⟨rb, 2, none⟩ = some (.int .i64 100) := HS3.out.at_.cells.2.2.1
          have k3 := HS3.out.at_.lt
          clear hs HFF2 HS2
          clear hcode
          go_wp2
          go_roundw
          case rel => exact ⟨5, n + m * 268435456, _, by first | rfl | (rw [hcast]) | go_num, by first | rfl | go_num, by omega, Lib.hid (by show _ < 34359738368; omega), HS3, Lib.hid (.inr ⟨rfl, by simp, E.out⟩)⟩
          case measure => simp [intOf]
    · obtain ⟨_, hcode, he⟩ := HE.out.resolve_left (fun h => absurd h.1 (by decide))
      have E := Lib.hid he
      have k2 := HS.out.at_.cells.2.2.1
      have k3 := HS.out.at_.lt
      have hcb : (s1.code == 0) = false := beq_eq_false_iff_ne.2 hcode
      clear HE he hcode
      go_wp2
      exact HP.out 0 _ _ E.out HS.out
end Go.Proofs.Ytcihihncgpddfaa
