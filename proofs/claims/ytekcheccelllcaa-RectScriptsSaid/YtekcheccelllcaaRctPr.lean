/- probes: lists of cells. -/
import Derived.Test.YtekcheccelllcaaRctAm
import Derived.Test.YtekcheccelllcaaRctX
import Derived.BigRegion
import Derived.StillTailTactics
import Derived.Deep.AppendLies
import Derived.Deep.RegionHeld3
namespace Go.Proofs.Ytekcheccelllcaa
open Go.RowKit
set_option linter.unusedVariables false
set_option linter.unusedSimpArgs false

def cellsP (C : List (Int × Int)) : List Value := C.flatMap fun c => [.int .i64 c.1, .int .i64 c.2]
theorem cellsP_len (C : List (Int × Int)) : (cellsP C).length = C.length * 2 := by
  induction C with
  | nil => rfl
  | cons a C ih => simp [cellsP] at ih ⊢; omega
theorem cellsP_append (C D : List (Int × Int)) : cellsP (C ++ D) = cellsP C ++ cellsP D := by simp [cellsP]
theorem cellsP_one (C : List (Int × Int)) : ∀ u ∈ cellsP C, u.oneCell' = true := by
  intro u hu
  simp [cellsP] at hu
  obtain ⟨a, b, _, rfl | rfl⟩ := hu <;> rfl
theorem infoP : (Try.prog.info? 42).map (fun i => (i.zero, i.size, i.bytes)) = some (some (.agg #[.int .i64 0, .int .i64 0]), 2, 16) := by kernel_rfl
/-- a list of n cells of the call's own -/
def OwnP (w : World) (base : Nat) (v : Value) (n : Nat) : Prop := ∃ C : List (Int × Int), C.length = n ∧ w.ownsRow base 42 2 v n (cellsP C)
/-- the state within a round: the list, and the two lists of four numbers -/
structure Pr (w wr : World) (bx b2 : Nat) (xs ys : Nat → Int) (v : Value) (n : Nat) : Prop where
  own : OwnP wr w.heap.size v n
  nx : v.ownBlock ≠ some bx
  ny : v.ownBlock ≠ some b2
  zx : bx < wr.heap.size
  zy : b2 < wr.heap.size
  cx : ∀ q, q < 4 → wr.cell? ⟨bx, q, none⟩ = some (.int .i64 (xs q))
  cy : ∀ q, q < 4 → wr.cell? ⟨b2, q, none⟩ = some (.int .i64 (ys q))
  be : Below w.heap.size w wr
theorem OwnP.later {w wr : World} {base n : Nat} {v : Value} (h : OwnP w base v n) (hb : Below w.heap.size w wr) : OwnP wr base v n := by
  obtain ⟨C, h1, h2⟩ := h
  exact ⟨C, h1, own_later h2 hb⟩
theorem OwnP.blk {w : World} {base n : Nat} {v : Value} (h : OwnP w base v n) : ∀ g, v.ownBlock = some g → g < w.heap.size ∧ base ≤ g := by
  obtain ⟨C, h1, h2⟩ := h
  exact own_lt h2
theorem Pr.val {w wr : World} {bx b2 : Nat} {xs ys : Nat → Int} {v : Value} {n : Nat} (h : Pr w wr bx b2 xs ys v n) : ∃ G, G = v := ⟨_, rfl⟩
theorem cell_same {w w' : World} {row : Option Nat} (h : w.grownBy w' row) {b : Nat} (hb : b < w.heap.size) (hr : row ≠ some b) (o : Nat) : w'.cell? ⟨b, o, none⟩ = w.cell? ⟨b, o, none⟩ := World.cell?_of_block (h.block b hb (fun e => hr e.symm))
/-- one cell more -/
theorem Pr.app {w wr w2 : World} {bx b2 : Nat} {xs ys : Nat → Int} {v v2 : Value} {n : Nat} {p : Int × Int} {C : List (Int × Int)} (h : Pr w wr bx b2 xs ys v n) (hC : C.length = n) (own : w2.ownsRow w.heap.size 42 2 v2 (n + 1) (cellsP C ++ cellsP [p])) (gr : wr.grownBy w2 v.ownBlock) (loc : v2.ownBlock = v.ownBlock ∨ (v2.ownBlock = some wr.heap.size)) : Pr w w2 bx b2 xs ys v2 (n + 1) := by
  have hz := gr.size
  have hx := h.zx
  have hy := h.zy
  refine ⟨⟨C ++ [p], by simp [hC], by rw [cellsP_append]; exact own⟩, ?_, ?_, by omega, by omega, fun q hq => ?_, fun q hq => ?_, ?_⟩
  · rcases loc with e | e
    · rw [e]; exact h.nx
    · rw [e]; intro h'; injection h' with h'; omega
  · rcases loc with e | e
    · rw [e]; exact h.ny
    · rw [e]; intro h'; injection h' with h'; omega
  · rw [cell_same gr h.zx h.nx]; exact h.cx q hq
  · rw [cell_same gr h.zy h.ny]; exact h.cy q hq
  · exact Below.grown h.be gr (by have := h.be.size; omega) (fun k hk => (h.own.blk k hk).2)
theorem Pr.alloc {w wr : World} {bx b2 : Nat} {xs ys : Nat → Int} {v : Value} {n : Nat} (h : Pr w wr bx b2 xs ys v n) (o : Obj) : Pr w (wr.alloc o) bx b2 xs ys v n := by
  have hb : Below wr.heap.size wr (wr.alloc o) := below_al (Below.refl _ _) o
  refine ⟨h.own.later hb, h.nx, h.ny, by have := h.zx; simp; omega, by have := h.zy; simp; omega, fun q hq => ?_, fun q hq => ?_, below_al h.be o⟩
  · rw [(bcell hb).1 _ _ h.zx]; exact h.cx q hq
  · rw [(bcell hb).1 _ _ h.zy]; exact h.cy q hq
theorem Pr.drewN {w wr : World} {bx b2 : Nat} {xs ys : Nat → Int} {v : Value} {n : Nat} (h : Pr w wr bx b2 xs ys v n) (k : Nat) : Pr w (wr.drewN k) bx b2 xs ys v n := ⟨h.own, h.nx, h.ny, h.zx, h.zy, h.cx, h.cy, ⟨h.be.os, h.be.tape, h.be.output, h.be.size, h.be.block⟩⟩
theorem Pr.drew {w wr : World} {bx b2 : Nat} {xs ys : Nat → Int} {v : Value} {n : Nat} (h : Pr w wr bx b2 xs ys v n) : Pr w wr.drew bx b2 xs ys v n := ⟨h.own, h.nx, h.ny, h.zx, h.zy, h.cx, h.cy, ⟨h.be.os, h.be.tape, h.be.output, h.be.size, h.be.block⟩⟩
theorem own_bound (r : R4) (h : OwnF r) : -1048576 ≤ r.x ∧ r.x ≤ 1048576 ∧ -1048576 ≤ r.y ∧ r.y ≤ 1048576 ∧ 0 ≤ r.w ∧ r.w ≤ 2097152 ∧ 0 ≤ r.h ∧ r.h ≤ 2097152 := by
  rcases h with rfl | h
  · simp [zR]
  · omega

set_option maxRecDepth 100000 in
set_option maxHeartbeats 32000000 in
theorem probes_any (p : Option Addr) (len cap : Nat) (L : List R4) (w : World) (hL : L.length = len) (hlen : len ≤ 1048576) (hp : SlAt w p L) (hr : ∀ r ∈ L, OwnF r) : Calls Try.prog 32 #[.slice p len cap] w fun e w' => ∃ v, e = .returned v ∧ OwnP w' w.heap.size v (16 * len) ∧ Below w.heap.size w w' := by
  have HC := Lib.hid hp
  have HR := Lib.hid hr
  have HL := Lib.hid hL
  clear hp hr hL
  obtain ⟨i0, hi, hz0, hz1, hz2⟩ := info_parts infoP
  go_enter Try.func32, Try.ntmps32
  go_wp2
  go_loopw [3, 4] (fun v i wr => ∃ t : Nat, t ≤ len ∧ i = .int .i64 t ∧ RowKit.Hid (OwnP wr w.heap.size v (16 * t)) ∧ Below w.heap.size w wr) (fun _ i _ => len - (intOf i).toNat)
  case atStart => exact ⟨0, Nat.zero_le _, rfl, Lib.hid ⟨[], rfl, rfl, .inl ⟨rfl, rfl⟩⟩, Below.refl _ _⟩
  case round =>
    obtain ⟨t, ht, rfl, HO, BW⟩ := hrel
    by_cases hlt : t < len
    · obtain ⟨b, off, rfl, hb, hc⟩ := HC.out (by rw [HL.out]; omega)
      obtain ⟨q0, q1, q2, q3⟩ := (hc.later BW hb) t (by rw [HL.out]; exact hlt)
      have ob := own_bound _ (HR.out (L.getD t zR) (by rw [List.getD_eq_getElem?_getD, List.getElem?_eq_getElem (by rw [HL.out]; exact hlt)]; simp))
      generalize L.getD t zR = r at *
      obtain ⟨X, Y, W, H⟩ := r
      simp only [] at q0 q1 q2 q3 ob
      obtain ⟨x0, x1, y0, y1, u0, u1, v0, v1⟩ := ob
      clear hc
      have S0 := BW.size
      have hb' : b < wr.heap.size := by omega
      go_upto_region 5 with (fail)
      go_still_tail 34, (by kernel_rfl)
      change wpList _ _ _ _ _ wr.drew
      generalize hq : wr.drew = w1
      have B1 : Below w.heap.size w w1 := by rw [← hq]; exact Below.drew BW
      have S1 := B1.size
      have E1 : w1.heap.size = wr.heap.size := by rw [← hq]; rfl
      have hb1 : b < w1.heap.size := by omega
      have c0 : w1.cell? ⟨b, off + t * 4, none⟩ = some (.int .i64 X) := by rw [← hq]; exact q0
      have c1 : w1.cell? ⟨b, off + t * 4 + 1, none⟩ = some (.int .i64 Y) := by rw [← hq]; exact q1
      have c2 : w1.cell? ⟨b, off + t * 4 + 2, none⟩ = some (.int .i64 W) := by rw [← hq]; exact q2
      have c3 : w1.cell? ⟨b, off + t * 4 + 3, none⟩ = some (.int .i64 H) := by rw [← hq]; exact q3
      have O1 : RowKit.Hid (OwnP w1 w.heap.size u3 (16 * t)) := by rw [← hq]; exact Lib.hid HO.out
      clear hq q0 q1 q2 q3 HO BW E1
      go_upto_region 6 with (fail)
      obtain ⟨bx, hbx⟩ : ∃ z, z = w1.heap.size := ⟨_, rfl⟩
      obtain ⟨w2, hw2⟩ : ∃ x, x = w1.alloc (.cells #[.int .i64 (X - 1), .int .i64 X, .int .i64 (X + W - 1), .int .i64 (X + W)] 3) := ⟨_, rfl⟩
      have D2 : Below w1.heap.size w1 w2 := by rw [hw2]; exact below_al (Below.refl _ _) _
      have B2 : Below w.heap.size w w2 := by rw [hw2]; exact below_al B1 _
      have zx : bx < w2.heap.size := by rw [hw2, hbx]; simp
      have cx : ∀ q, q < 4 → w2.cell? ⟨bx, q, none⟩ = some (.int .i64 (match q with | 0 => X - 1 | 1 => X | 2 => X + W - 1 | _ => X + W)) := by
        intro q hq
        rw [hw2, hbx]
        match q, hq with
        | 0, _ => simp [go_sem]
        | 1, _ => simp [go_sem]
        | 2, _ => simp [go_sem]
        | 3, _ => simp [go_sem]
      rw [← hw2, ← hbx]
      have nx : u3.ownBlock ≠ some bx := fun e => by have := (O1.out.blk bx e).1; omega
      have O2 : RowKit.Hid (OwnP w2 w.heap.size u3 (16 * t)) := Lib.hid (O1.out.later D2)
      rw [← (bcell D2).1 _ _ hb1] at c0 c1 c2 c3
      have hb2 : b < w2.heap.size := by have := D2.size; omega
      clear hw2 hbx D2 B1 S1 O1 hb1 hb'
      have CX := Lib.hid cx
      have NX := Lib.hid nx
      clear cx nx
      go_still_tail 34, (by kernel_rfl)
      change wpList _ _ _ _ _ w2.drew
      generalize hq : w2.drew = w3
      have B3 : Below w.heap.size w w3 := by rw [← hq]; exact Below.drew B2
      have CX3 : RowKit.Hid (∀ q, q < 4 → w3.cell? ⟨bx, q, none⟩ = some (.int .i64 (match q with | 0 => X - 1 | 1 => X | 2 => X + W - 1 | _ => X + W))) := by rw [← hq]; exact Lib.hid CX.out
      have O3 : RowKit.Hid (OwnP w3 w.heap.size u3 (16 * t)) := by rw [← hq]; exact Lib.hid O2.out
      have zx3 : bx < w3.heap.size := by rw [← hq]; exact zx
      clear hq c0 c1 c2 c3 O2 CX B2 zx hb2
      go_wp2
      obtain ⟨b2, hb2⟩ : ∃ z, z = w3.heap.size := ⟨_, rfl⟩
      obtain ⟨w4, hw4⟩ : ∃ x, x = w3.alloc (.cells #[.int .i64 (Y - 1), .int .i64 Y, .int .i64 (Y + H - 1), .int .i64 (Y + H)] 3) := ⟨_, rfl⟩
      have D4 : Below w3.heap.size w3 w4 := by rw [hw4]; exact below_al (Below.refl _ _) _
      have B4 : Below w.heap.size w w4 := by rw [hw4]; exact below_al B3 _
      have cy : ∀ q, q < 4 → w4.cell? ⟨b2, q, none⟩ = some (.int .i64 (match q with | 0 => Y - 1 | 1 => Y | 2 => Y + H - 1 | _ => Y + H)) := by
        intro q hq
        rw [hw4, hb2]
        match q, hq with
        | 0, _ => simp [go_sem]
        | 1, _ => simp [go_sem]
        | 2, _ => simp [go_sem]
        | 3, _ => simp [go_sem]
      have PR := Lib.hid (show Pr w w4 bx b2 (fun q => match q with | 0 => X - 1 | 1 => X | 2 => X + W - 1 | _ => X + W) (fun q => match q with | 0 => Y - 1 | 1 => Y | 2 => Y + H - 1 | _ => Y + H) u3 (16 * t) from
        ⟨O3.out.later D4, NX.out, fun e => by have := (O3.out.blk b2 e).1; omega, by have := D4.size; omega, by rw [hw4, hb2]; simp, fun q hq => by rw [(bcell D4).1 _ _ zx3]; exact CX3.out q hq, cy, B4⟩)
      rw [← hw4, ← hb2]
      clear hw4 hb2 D4 cy CX3 NX O3 B3 B4 zx3
      generalize (fun q => match q with | 0 => X - 1 | 1 => X | 2 => X + W - 1 | _ => X + W : Nat → Int) = xs at PR
      generalize (fun q => match q with | 0 => Y - 1 | 1 => Y | 2 => Y + H - 1 | _ => Y + H : Nat → Int) = ys at PR
      clear x0 x1 y0 y1 u0 u1 v0 v1
      go_loopw [3, 7] (fun v i wr => ∃ j : Nat, j ≤ 4 ∧ i = .int .i64 j ∧ RowKit.Hid (Pr w wr bx b2 xs ys v (16 * t + 4 * j))) (fun _ i _ => 4 - (intOf i).toNat)
      case atStart => exact ⟨0, by omega, rfl, PR⟩
      case round =>
        clear PR
        obtain ⟨j, hj, rfl, PR⟩ := hrel
        by_cases hj4 : j < 4
        · have hdj : decide ((j : Int) < 4) = true := by rw [decide_eq_true_eq]; omega
          go_wp2
          clear hdj
          go_loopw [3, 8] (fun v i wr => ∃ l : Nat, l ≤ 4 ∧ i = .int .i64 l ∧ RowKit.Hid (Pr w wr bx b2 xs ys v (16 * t + 4 * j + l))) (fun _ i _ => 4 - (intOf i).toNat)
          case atStart => exact ⟨0, by omega, rfl, PR⟩
          case round =>
            clear PR
            obtain ⟨l, hl, rfl, PR⟩ := hrel
            by_cases hl4 : l < 4
            · obtain ⟨G, hG⟩ := PR.out.val
              subst hG
              have cX := PR.out.cx j hj4
              have cY := PR.out.cy l hl4
              have ij : (j : Int) < 4 := by omega
              have il : (l : Int) < 4 := by omega
              go_upto_region 13 with (fail)
              obtain ⟨C, hC, own5⟩ := PR.out.own
              have hCl : C.length ≤ 16 * t + 16 := by omega
              have S5 := PR.out.be.size
              have zx := PR.out.zx
              have zy := PR.out.zy
              have HCl := Lib.hid hC
              have hn5 : 16 * t + 4 * j + l + 1 ≤ maxLen := by unfold maxLen; omega
              have hb5 : (16 * t + 4 * j + l + 1) * 16 ≤ 140737488355328 := by omega
              have nx := PR.out.nx
              have ny := PR.out.ny
              have PRa := fun o : Obj => (PR.out.alloc o).drew
              clear hC
              have kX : ∀ (o : Obj) (w6 : World), ((wr.alloc o).drew).grownBy w6 G.ownBlock → w6.cell? ⟨bx, j, none⟩ = some (.int .i64 (xs j)) ∧ w6.cell? ⟨b2, l, none⟩ = some (.int .i64 (ys l)) := by
                intro o w6 gr6
                refine ⟨?_, ?_⟩
                · rw [gr6.cell_far ⟨bx, j, none⟩ (by simp; omega) (Ne.symm nx)]
                  exact (PRa o).cx j hj4
                · rw [gr6.cell_far ⟨b2, l, none⟩ (by simp; omega) (Ne.symm ny)]
                  exact (PRa o).cy l hl4
              go_region_held3 (fun w' => w'.cell? ⟨bx, j, none⟩ = some (.int .i64 (xs j)) ∧ w'.cell? ⟨b2, l, none⟩ = some (.int .i64 (ys l)))
                (first | exact ⟨cX, cY⟩ | (constructor <;> (simp [go_sem, cX, cY, zx, zy]; done)) | exact kX _ _ gr6)
                ((refine step_append_lies _ (by rfl) _ _ _ (by rfl) w.heap.size 42 i0 _ 2 16 Try.underlying43 hi hz0 hz1 hz2 rfl (by omega) G (16 * t + 4 * j + l) (cellsP C) (by rfl) ((own5.alloc _).drew) ⟨wr.heap.size, 0, none⟩ 1 1 [.int .i64 (xs j), .int .i64 (ys l)] (by rfl) (by rfl) (World.news_of_block (cs := #[.int .i64 (xs j), .int .i64 (ys l)]) (t := 42) (fr := (0, 0)) (heap_alloc_new wr _)) (by simp [Value.oneCell']) (by omega) hn5 hb5 (by simp; omega) (wr.heap.size + 1) (by simp) ?_; intro gg cap w6 own6 gr6 loc6 hg6))
              all_goals have PR6 := Lib.hid ((PRa _).app HCl.out (p := (xs j, ys l)) own6 gr6 (loc6.elim (fun e => .inl e.symm) (fun e => .inr (by subst e; simp [Value.ownBlock]))))
              all_goals clear own5 PRa
              go_wp2
              go_roundw
              case rel => exact ⟨l + 1, by omega, by go_num, PR6⟩
              case measure => simp [intOf]; omega
            · have hl5 : l = 4 := by omega
              subst hl5
              go_wp2
              go_roundw
              case rel => exact ⟨j + 1, by omega, by go_num, by rw [show 16 * t + 4 * (j + 1) = 16 * t + 4 * j + 4 by omega]; exact PR⟩
              case measure => simp [intOf]; omega
        · have hj5 : j = 4 := by omega
          subst hj5
          go_wp2
          go_roundw
          case rel => exact ⟨t + 1, by omega, by go_num, Lib.hid (by rw [show 16 * (t + 1) = 16 * t + 4 * 4 by omega]; exact PR.out.own), PR.out.be⟩
          case measure => simp [intOf]; omega
    · have htt : t = len := by omega
      subst htt
      go_wp2
      go_ret
      exact ⟨_, rfl, HO.out, BW⟩
end Go.Proofs.Ytekcheccelllcaa
