/- Layer 13: the walk of Line. -/
import Derived.Test.YtebalohoblaedaaGlyN
import Derived.Deep.RegionWith
namespace Go.Proofs.Ytebalohoblaedaa
open Go.RowKit
set_option linter.unusedVariables false
set_option linter.unusedSimpArgs false

theorem idxB0 (w : World) (a b c d : Bool) : (Instr.index 96 (.agg #[.bool a, .bool b, .bool c, .bool d]) (.int .i64 0)).run Try.prog w = .ok (.bool a) w := by kernel_rfl
theorem idxB1 (w : World) (a b c d : Bool) : (Instr.index 96 (.agg #[.bool a, .bool b, .bool c, .bool d]) (.int .i64 1)).run Try.prog w = .ok (.bool b) w := by kernel_rfl
theorem idxB2 (w : World) (a b c d : Bool) : (Instr.index 96 (.agg #[.bool a, .bool b, .bool c, .bool d]) (.int .i64 2)).run Try.prog w = .ok (.bool c) w := by kernel_rfl
theorem idxB3 (w : World) (a b c d : Bool) : (Instr.index 96 (.agg #[.bool a, .bool b, .bool c, .bool d]) (.int .i64 3)).run Try.prog w = .ok (.bool d) w := by kernel_rfl
theorem grown_trans {w w1 w2 : World} {row : Option Nat} (h1 : w.grownBy w1 row) (h2 : w1.grownBy w2 row) : w.grownBy w2 row :=
  ⟨h2.os.trans h1.os, h2.tape.trans h1.tape, h2.output.trans h1.output, Nat.le_trans h1.size h2.size, fun k hk hr => (h2.block k (Nat.lt_of_lt_of_le hk h1.size) hr).trans (h1.block k hk hr)⟩
theorem only_refl (w : World) (row : Option Nat) : w.grownBy w row := ⟨rfl, rfl, rfl, Nat.le_refl _, fun _ _ _ => rfl⟩
theorem only_of_below {a w : World} (h : Below a.heap.size a w) (row : Option Nat) : a.grownBy w row := ⟨h.os, h.tape, h.output, h.size, fun i hi _ => h.block i hi⟩
theorem only_setCell {a w : World} {g : Nat} (h : a.grownBy w (some g)) {p : Addr} (hp : p.block = g ∨ a.heap.size ≤ p.block) (u : Value) : a.grownBy (w.setCell p u) (some g) :=
  ⟨h.os, h.tape, h.output, by simpa [World.setCell] using h.size, fun i hi hne => (Below.heap_setCell w p u i (by
    rintro rfl
    rcases hp with hp | hp
    · exact hne (by rw [hp])
    · omega)).trans (h.block i hi hne)⟩
theorem line_nil (x0 y0 x1 y1 k : Int) (w : World) : Calls Try.prog 29 #[.pointer none, .int .i64 x0, .int .i64 y0, .int .i64 x1, .int .i64 y1, .int .i8 k] w fun e w' => e = .returned (.int .i64 1) ∧ w = w' := by
  go_enter Try.func29, Try.ntmps29
  go_wp2
  go_ret
  exact ⟨rfl, rfl⟩
theorem PlanAt.alloc {w : World} {g gc W H : Nat} {L : List A4} (h : PlanAt w g gc W H L) (o : Obj) : PlanAt (w.alloc o) g gc W H L :=
  ⟨(heap_alloc_old _ _ (heap_lt h.pl)).trans h.pl, (heap_alloc_old _ _ (heap_lt h.ce)).trans h.ce, h.len, h.bw, h.bh, h.bn⟩
theorem PlanAt.far {w : World} {g gc W H : Nat} {L : List A4} (h : PlanAt w g gc W H L) {p : Addr} (h1 : g ≠ p.block) (h2 : gc ≠ p.block) (v : Value) : PlanAt (w.setCell p v) g gc W H L :=
  ⟨(Below.heap_setCell w p v g h1).trans h.pl, (Below.heap_setCell w p v gc h2).trans h.ce, h.len, h.bw, h.bh, h.bn⟩
theorem PlanAt.drewN {w : World} {g gc W H : Nat} {L : List A4} (h : PlanAt w g gc W H L) (n : Nat) : PlanAt (w.drewN n) g gc W H L := ⟨h.pl, h.ce, h.len, h.bw, h.bh, h.bn⟩
theorem PlanAt.drew {w : World} {g gc W H : Nat} {L : List A4} (h : PlanAt w g gc W H L) : PlanAt w.drew g gc W H L := ⟨h.pl, h.ce, h.len, h.bw, h.bh, h.bn⟩
theorem set_blk {w : World} {g : Nat} {t : TypeId} {cs : Array Value} (h : w.heap[g]? = some (.cells cs t (0, 0))) (i : Nat) (u : Value) : (w.setCell ⟨g, i, none⟩ u).heap[g]? = some (.cells (cs.setIfInBounds i u) t (0, 0)) := by
  simp [World.setCell, Array.getElem?_modify, h]
theorem PlanAt.put4 {w : World} {g gc W H : Nat} {L : List A4} (h : PlanAt w g gc W H L) (n : Nat) (hn : n < W * H) (r : A4) : PlanAt ((((w.setCell ⟨gc, n * 4, none⟩ (.int .i8 r.u)).setCell ⟨gc, n * 4 + 1, none⟩ (.int .i8 r.r)).setCell ⟨gc, n * 4 + 2, none⟩ (.int .i8 r.d)).setCell ⟨gc, n * 4 + 3, none⟩ (.int .i8 r.l)) g gc W H (L.set n r) := by
  have hne : g ≠ gc := h.ne
  refine ⟨?_, ?_, by simpa using h.len, h.bw, h.bh, h.bn⟩
  · rw [Below.heap_setCell _ _ _ _ (by simpa using hne), Below.heap_setCell _ _ _ _ (by simpa using hne), Below.heap_setCell _ _ _ _ (by simpa using hne), Below.heap_setCell _ _ _ _ (by simpa using hne)]
    exact h.pl
  · have e := set_blk (set_blk (set_blk (set_blk h.ce (n * 4) (.int .i8 r.u)) (n * 4 + 1) (.int .i8 r.r)) (n * 4 + 2) (.int .i8 r.d)) (n * 4 + 3) (.int .i8 r.l)
    rw [e]
    simp only [List.setIfInBounds_toArray]
    rw [cellsA_set L n r (by rw [h.len]; exact hn)]
theorem merge2 (a0 a1 a2 a3 r0 r1 r2 r3 : Int) (b : Nat) (w : World) (hb : b < w.heap.size) (hc : w.cell? ⟨b, 0, none⟩ = some (.int .i8 a0) ∧ w.cell? ⟨b, 1, none⟩ = some (.int .i8 a1) ∧ w.cell? ⟨b, 2, none⟩ = some (.int .i8 a2) ∧ w.cell? ⟨b, 3, none⟩ = some (.int .i8 a3) ∧ w.cell? ⟨b, 4, none⟩ = some (.int .i8 r0) ∧ w.cell? ⟨b, 5, none⟩ = some (.int .i8 r1) ∧ w.cell? ⟨b, 6, none⟩ = some (.int .i8 r2) ∧ w.cell? ⟨b, 7, none⟩ = some (.int .i8 r3)) : Calls Try.prog 20 #[.slice (some ⟨b, 0, none⟩) 2 2] w fun e w' => e = .returned (.agg #[.int .i8 ((mergeA [⟨a0, a1, a2, a3⟩, ⟨r0, r1, r2, r3⟩]).u), .int .i8 ((mergeA [⟨a0, a1, a2, a3⟩, ⟨r0, r1, r2, r3⟩]).r), .int .i8 ((mergeA [⟨a0, a1, a2, a3⟩, ⟨r0, r1, r2, r3⟩]).d), .int .i8 ((mergeA [⟨a0, a1, a2, a3⟩, ⟨r0, r1, r2, r3⟩]).l)]) ∧ Below w.heap.size w w' := by
  refine merge_any _ _ _ _ _ rfl (by decide) (fun _ => ⟨b, 0, rfl, hb, ?_⟩)
  obtain ⟨h0, h1, h2, h3, h4, h5, h6, h7⟩ := hc
  intro i hi
  rcases i with _ | _ | i
  · exact ⟨h0, h1, h2, h3⟩
  · exact ⟨h4, h5, h6, h7⟩
  · simp at hi; omega
theorem merge3 (a0 a1 a2 a3 r0 r1 r2 r3 : Int) (w : World) (m : Nat) : Calls Try.prog 20 #[.slice (some ⟨w.heap.size, 0, none⟩) 2 2] ((w.drewN m).alloc (.cells #[.int .i8 a0, .int .i8 a1, .int .i8 a2, .int .i8 a3, .int .i8 r0, .int .i8 r1, .int .i8 r2, .int .i8 r3] 25)) fun e w' => e = .returned (.agg #[.int .i8 ((mergeA [⟨a0, a1, a2, a3⟩, ⟨r0, r1, r2, r3⟩]).u), .int .i8 ((mergeA [⟨a0, a1, a2, a3⟩, ⟨r0, r1, r2, r3⟩]).r), .int .i8 ((mergeA [⟨a0, a1, a2, a3⟩, ⟨r0, r1, r2, r3⟩]).d), .int .i8 ((mergeA [⟨a0, a1, a2, a3⟩, ⟨r0, r1, r2, r3⟩]).l)]) ∧ Below w.heap.size w w' := by
  have h := heap_alloc_new (w.drewN m) (.cells #[.int .i8 a0, .int .i8 a1, .int .i8 a2, .int .i8 a3, .int .i8 r0, .int .i8 r1, .int .i8 r2, .int .i8 r3] 25)
  refine (merge2 a0 a1 a2 a3 r0 r1 r2 r3 w.heap.size _ (heap_lt h) ⟨(cell_of_row _ _ 0 _ _ _ h).trans rfl, (cell_of_row _ _ 1 _ _ _ h).trans rfl, (cell_of_row _ _ 2 _ _ _ h).trans rfl, (cell_of_row _ _ 3 _ _ _ h).trans rfl, (cell_of_row _ _ 4 _ _ _ h).trans rfl, (cell_of_row _ _ 5 _ _ _ h).trans rfl, (cell_of_row _ _ 6 _ _ _ h).trans rfl, (cell_of_row _ _ 7 _ _ _ h).trans rfl⟩).mono ?_
  rintro e w1 ⟨he, hb⟩
  exact ⟨he, below_via hb ((below_drewN (Below.refl _ _) _).alloc (Nat.le_refl _) _)⟩
def lineOk (x0 y0 x1 y1 k : Int) : Bool := decide (0 ≤ k ∧ k ≤ 4 ∧ (x0 = x1 ∨ y0 = y1))
set_option maxRecDepth 100000 in
theorem line_arg (g : Addr) (x0 y0 x1 y1 k : Int) (h : lineOk x0 y0 x1 y1 k = false) (w : World) : Calls Try.prog 29 #[.pointer (some g), .int .i64 x0, .int .i64 y0, .int .i64 x1, .int .i64 y1, .int .i8 k] w fun e w' => e = .returned (.int .i64 2) ∧ w = w' := by
  unfold lineOk at h
  simp only [decide_eq_false_iff_not] at h
  by_cases h1 : k < 0
  · clear h
    go_enter Try.func29, Try.ntmps29
    go_wp2
    go_ret
    exact ⟨rfl, rfl⟩
  by_cases h2 : 4 < k
  · clear h
    go_enter Try.func29, Try.ntmps29
    go_wp2
    go_ret
    exact ⟨rfl, rfl⟩
  have h3 : (x0 != x1) = true := by rw [bne_iff_ne]; intro e; exact h ⟨by omega, by omega, .inl e⟩
  have h4 : (y0 != y1) = true := by rw [bne_iff_ne]; intro e; exact h ⟨by omega, by omega, .inr e⟩
  clear h
  go_enter Try.func29, Try.ntmps29
  go_wp2
  go_ret
  exact ⟨rfl, rfl⟩

set_option maxRecDepth 100000 in
set_option maxHeartbeats 32000000 in
theorem line_ok (g gc W H : Nat) (L : List A4) (x0 y0 x1 y1 k : Int) (h : lineOk x0 y0 x1 y1 k = true) (w : World) (hp : PlanAt w g gc W H L) : Calls Try.prog 29 #[.pointer (some ⟨g, 0, none⟩), .int .i64 x0, .int .i64 y0, .int .i64 x1, .int .i64 y1, .int .i8 k] w fun e w' => e = .returned (.int .i64 0) ∧ w.grownBy w' (some gc) ∧ PlanAt w' g gc W H (linS W (min x0 x1) (min y0 y1) (max x0 x1) (max y0 y1) k (W * H) L) := by
  unfold lineOk at h
  simp only [decide_eq_true_eq] at h
  obtain ⟨hk0, hk4, hxy⟩ := h
  have HP := Lib.hid hp
  have hbw := hp.bw
  have hbh := hp.bh
  clear hp
  obtain ⟨lx, hlx⟩ : ∃ v, min x0 x1 = v := ⟨_, rfl⟩
  obtain ⟨ly, hly⟩ : ∃ v, min y0 y1 = v := ⟨_, rfl⟩
  obtain ⟨mx, hmx⟩ : ∃ v, max x0 x1 = v := ⟨_, rfl⟩
  obtain ⟨my, hmy⟩ : ∃ v, max y0 y1 = v := ⟨_, rfl⟩
  rw [hlx, hly, hmx, hmy]
  obtain ⟨sy, hsy⟩ : ∃ s : Nat, max ly 0 = (s : Int) := ⟨(max ly 0).toNat, by omega⟩
  obtain ⟨sx, hsx⟩ : ∃ s : Nat, max lx 0 = (s : Int) := ⟨(max lx 0).toNat, by omega⟩
  obtain ⟨e1, he1⟩ : ∃ b, (x0 != x1) = b := ⟨_, rfl⟩
  obtain ⟨e2, he2⟩ : ∃ b, (y0 != y1) = b := ⟨_, rfl⟩
  have he : e1 = false ∨ (e1 = true ∧ e2 = false) := by
    cases e1 with
    | false => exact .inl rfl
    | true =>
      refine .inr ⟨rfl, ?_⟩
      rcases hxy with h | h
      · rw [h] at he1; simp at he1
      · rw [← he2, h]; simp
  clear hxy
  go_enter Try.func29, Try.ntmps29
  go_upto_region 3 with (fail)
  go_cut [36] (fun s wr => s = .bool false ∧ w = wr)
  case first =>
    rcases he with rfl | ⟨rfl, rfl⟩
    all_goals
      go_wp2
      go_meet
      exact ⟨by simp; omega, rfl⟩
  case rest =>
    obtain ⟨rfl, rfl⟩ := hcut
    clear he1 he2 he
    go_wp2
    have HSY := Lib.hid hsy
    have HSX := Lib.hid hsx
    have HLX := Lib.hid hlx; have HLY := Lib.hid hly; have HMX := Lib.hid hmx; have HMY := Lib.hid hmy
    clear hlx hly hmx hmy hsy
    go_loopw [13] (fun i wr => ∃ y : Nat, ∃ M : List A4, i = .int .i64 y ∧ ly ≤ y ∧ RowKit.Hid (M = linS W lx ly mx my k (y * W) L) ∧ RowKit.Hid (PlanAt wr g gc W H M) ∧ w.grownBy wr (some gc)) (fun i _ => H - (intOf i).toNat)
    case atStart => exact ⟨sy, L, rfl, by have := HSY.out; omega, Lib.hid (linS_start W lx ly mx my k sy L (by have := HSY.out; omega) (by have := HSY.out; omega)).symm, HP, only_refl w _⟩
    case round =>
      obtain ⟨wo, rfl⟩ : ∃ wo : World, wo = wr := ⟨_, rfl⟩
      obtain ⟨y, M, rfl, hy0, HM, HQ, BW⟩ := hrel
      obtain ⟨hg, hgc, c0, c1, c2⟩ := HQ.out.cells
      have C2 := Lib.hid c2
      clear c2
      by_cases hlt : (y : Int) ≤ my ∧ (y : Int) ≤ (H : Int) - 1
      · obtain ⟨hy1, hy2⟩ := hlt
        have hcond : decide ((y : Int) ≤ min my ((H : Int) - 1)) = true := by simp; omega
        go_wp2
        go_loopw [14] (fun i wr => ∃ x : Nat, ∃ M : List A4, i = .int .i64 x ∧ lx ≤ x ∧ RowKit.Hid (M = linS W lx ly mx my k (y * W + min x W) L) ∧ RowKit.Hid (PlanAt wr g gc W H M) ∧ w.grownBy wr (some gc)) (fun i _ => W - (intOf i).toNat)
        case atStart => exact ⟨sx, M, rfl, by have := HSX.out; omega, Lib.hid (HM.out.trans (linS_row_start W lx ly mx my k sx y L (by have := HSX.out; omega) (by have := HSX.out; omega)).symm), HQ, BW⟩
        case round =>
          clear HM HQ BW hg hgc c0 c1 C2 hcond
          obtain ⟨wi, rfl⟩ : ∃ wi : World, wi = wr := ⟨_, rfl⟩
          obtain ⟨x, M, rfl, hx0, HM, HQ, BW⟩ := hrel
          obtain ⟨hg, hgc, c0, c1, c2⟩ := HQ.out.cells
          by_cases hlt : (x : Int) ≤ mx ∧ (x : Int) ≤ (W : Int) - 1
          · obtain ⟨hx1, hx2⟩ := hlt
            have hcond : decide ((x : Int) ≤ min mx ((W : Int) - 1)) = true := by simp; omega
            have hbn := HQ.out.bn
            have hn : y * W + x < W * H := by
              have : (y + 1) * W ≤ H * W := Nat.mul_le_mul_right W (by omega)
              rw [Nat.mul_comm W H]
              rw [Nat.add_mul] at this
              omega
            obtain ⟨l0, l1, l2, l3⟩ := HQ.out.cell (y * W + x) hn
            obtain ⟨f0, f1, f2, f3⟩ : wi.frozen? ⟨gc, (y * W + x) * 4, none⟩ = false ∧ wi.frozen? ⟨gc, (y * W + x) * 4 + 1, none⟩ = false ∧ wi.frozen? ⟨gc, (y * W + x) * 4 + 2, none⟩ = false ∧ wi.frozen? ⟨gc, (y * W + x) * 4 + 3, none⟩ = false := ⟨HQ.out.free _, HQ.out.free _, HQ.out.free _, HQ.out.free _⟩
            have HR := Lib.hid (show y * W + min x W = y * W + x by omega)
            have EM : RowKit.Hid (linS W lx ly mx my k (y * W + min (x + 1) W) L = M.set (y * W + x) (mergeA [M.getD (y * W + x) zA, armOf lx ly mx my k x y])) := by
              obtain ⟨r1, r2⟩ := rowcol W x y (by omega)
              have hs := linS_step W lx ly mx my k (y * W + x) L (by rw [HP.out.len]; exact hn) (by rw [r1, r2]; unfold inL; simp; omega)
              rw [r1, r2] at hs
              rw [show y * W + min (x + 1) W = y * W + x + 1 by omega, hs, HM.out, HR.out]
              exact Lib.hid rfl
            clear HM HR
            generalize hN : y * W = n at hn EM l0 l1 l2 l3 f0 f1 f2 f3
            have hm : (y : Int) * (W : Int) = (n : Int) := by rw [← hN, Int.natCast_mul]
            have HN := Lib.hid hN
            clear hN
            generalize M.getD (n + x) zA = a at l0 l1 l2 l3 EM
            obtain ⟨a0, a1, a2, a3⟩ := a
            simp only [] at l0 l1 l2 l3
            generalize hNM : W * H = NM at c2 hbn hn
            have HNM := Lib.hid hNM
            clear hNM
            obtain ⟨b0, hb0⟩ : ∃ b, decide (ly < (y : Int)) = b := ⟨_, rfl⟩
            obtain ⟨b1, hb1⟩ : ∃ b, decide ((x : Int) < mx) = b := ⟨_, rfl⟩
            obtain ⟨b2, hb2⟩ : ∃ b, decide ((y : Int) < my) = b := ⟨_, rfl⟩
            obtain ⟨b3, hb3⟩ : ∃ b, decide (lx < (x : Int)) = b := ⟨_, rfl⟩
            have EA : RowKit.Hid (armOf lx ly mx my k x y = ⟨if b0 = true then k else 0, if b1 = true then k else 0, if b2 = true then k else 0, if b3 = true then k else 0⟩) := by
              rw [← hb0, ← hb1, ← hb2, ← hb3]
              simp only [decide_eq_true_eq]
              exact Lib.hid rfl
            go_wp2
            clear hb0 hb1 hb2 hb3 hcond
            have hgi : g < wi.heap.size := hg
            have L4 : RowKit.Hid ((g < wi.heap.size ∧ gc < wi.heap.size ∧ wi.cell? ⟨g, 0, none⟩ = some (.int .i64 (W : Int)) ∧ wi.cell? ⟨g, 1, none⟩ = some (.int .i64 (H : Int)) ∧ wi.cell? ⟨g, 2, none⟩ = some (.slice (some ⟨gc, 0, none⟩) NM NM) ∧ wi.cell? ⟨gc, (n + x) * 4, none⟩ = some (.int .i8 a0) ∧ wi.cell? ⟨gc, (n + x) * 4 + 1, none⟩ = some (.int .i8 a1) ∧ wi.cell? ⟨gc, (n + x) * 4 + 2, none⟩ = some (.int .i8 a2) ∧ wi.cell? ⟨gc, (n + x) * 4 + 3, none⟩ = some (.int .i8 a3) ∧ wi.frozen? ⟨gc, (n + x) * 4, none⟩ = false ∧ wi.frozen? ⟨gc, (n + x) * 4 + 1, none⟩ = false ∧ wi.frozen? ⟨gc, (n + x) * 4 + 2, none⟩ = false ∧ wi.frozen? ⟨gc, (n + x) * 4 + 3, none⟩ = false)) := Lib.hid ⟨hg, hgc, c0, c1, c2, l0, l1, l2, l3, f0, f1, f2, f3⟩
            clear hg c0 c1 c2 l0 l1 l2 l3 f0 f1 f2 f3
            go_loopw [16, 17, 88] (fun _ _ i wr => ∃ k2 : Nat, k2 ≤ 4 ∧ i = .int .i64 k2 ∧ wi.heap.size < wr.heap.size ∧ RowKit.Hid (wr.cell? ⟨wi.heap.size, 0, none⟩ = some (.int .i8 (if 0 < k2 then (if b0 = true then k else 0) else 0)) ∧ wr.cell? ⟨wi.heap.size, 1, none⟩ = some (.int .i8 (if 1 < k2 then (if b1 = true then k else 0) else 0)) ∧ wr.cell? ⟨wi.heap.size, 2, none⟩ = some (.int .i8 (if 2 < k2 then (if b2 = true then k else 0) else 0)) ∧ wr.cell? ⟨wi.heap.size, 3, none⟩ = some (.int .i8 (if 3 < k2 then (if b3 = true then k else 0) else 0))) ∧ (wr.frozen? ⟨wi.heap.size, 0, none⟩ = false ∧ wr.frozen? ⟨wi.heap.size, 1, none⟩ = false ∧ wr.frozen? ⟨wi.heap.size, 2, none⟩ = false ∧ wr.frozen? ⟨wi.heap.size, 3, none⟩ = false) ∧ RowKit.Hid (PlanAt wr g gc W H M) ∧ Below wi.heap.size wi wr) (fun _ _ i _ => 4 - (intOf i).toNat)
            case atStart => exact ⟨0, by omega, rfl, by simp, Lib.hid (by simp [go_sem]), by simp [go_sem], Lib.hid (HQ.out.alloc _), (Below.refl _ _).alloc (Nat.le_refl _) _⟩
            case round =>
              obtain ⟨k2, hk2, rfl, hw, hcs, hfr, HQ2, B2⟩ := hrel
              by_cases hlt : k2 < 4
              · have hlt2 := hlt
                rcases (show k2 = 0 ∨ k2 = 1 ∨ k2 = 2 ∨ k2 = 3 by omega) with rfl | rfl | rfl | rfl
                · have hcs' := hcs.out
                  simp only [Nat.reduceLT, reduceIte, Nat.lt_irrefl, Nat.not_lt_zero] at hcs'
                  clear hcs
                  have hi := idxB0
                  have hne : gc < wr.heap.size ∧ g < wr.heap.size := ⟨heap_lt HQ2.out.ce, heap_lt HQ2.out.pl⟩
                  cases b0
                  · go_wp2
                    go_roundw
                    case rel => exact ⟨1, by omega, by first | rfl | go_num, hw, Lib.hid (by simp [hcs']), hfr, HQ2, B2⟩
                    case measure => simp [intOf]
                  · go_wp2
                    go_roundw
                    case rel => exact ⟨1, by omega, by first | rfl | go_num, by simp [hw], Lib.hid (by simp [go_sem, hcs', hfr]), by simp [go_sem, hfr], Lib.hid (HQ2.out.far (by simp; omega) (by simp; omega) _), B2.setCell (by simp) _⟩
                    case measure => simp [intOf]
                · have hcs' := hcs.out
                  simp only [Nat.reduceLT, reduceIte, Nat.lt_irrefl, Nat.not_lt_zero] at hcs'
                  clear hcs
                  have hi := idxB1
                  have hne : gc < wr.heap.size ∧ g < wr.heap.size := ⟨heap_lt HQ2.out.ce, heap_lt HQ2.out.pl⟩
                  cases b1
                  · go_wp2
                    go_roundw
                    case rel => exact ⟨2, by omega, by first | rfl | go_num, hw, Lib.hid (by simp [hcs']), hfr, HQ2, B2⟩
                    case measure => simp [intOf]
                  · go_wp2
                    go_roundw
                    case rel => exact ⟨2, by omega, by first | rfl | go_num, by simp [hw], Lib.hid (by simp [go_sem, hcs', hfr]), by simp [go_sem, hfr], Lib.hid (HQ2.out.far (by simp; omega) (by simp; omega) _), B2.setCell (by simp) _⟩
                    case measure => simp [intOf]
                · have hcs' := hcs.out
                  simp only [Nat.reduceLT, reduceIte, Nat.lt_irrefl, Nat.not_lt_zero] at hcs'
                  clear hcs
                  have hi := idxB2
                  have hne : gc < wr.heap.size ∧ g < wr.heap.size := ⟨heap_lt HQ2.out.ce, heap_lt HQ2.out.pl⟩
                  cases b2
                  · go_wp2
                    go_roundw
                    case rel => exact ⟨3, by omega, by first | rfl | go_num, hw, Lib.hid (by simp [hcs']), hfr, HQ2, B2⟩
                    case measure => simp [intOf]
                  · go_wp2
                    go_roundw
                    case rel => exact ⟨3, by omega, by first | rfl | go_num, by simp [hw], Lib.hid (by simp [go_sem, hcs', hfr]), by simp [go_sem, hfr], Lib.hid (HQ2.out.far (by simp; omega) (by simp; omega) _), B2.setCell (by simp) _⟩
                    case measure => simp [intOf]
                · have hcs' := hcs.out
                  simp only [Nat.reduceLT, reduceIte, Nat.lt_irrefl, Nat.not_lt_zero] at hcs'
                  clear hcs
                  have hi := idxB3
                  have hne : gc < wr.heap.size ∧ g < wr.heap.size := ⟨heap_lt HQ2.out.ce, heap_lt HQ2.out.pl⟩
                  cases b3
                  · go_wp2
                    go_roundw
                    case rel => exact ⟨4, by omega, by first | rfl | go_num, hw, Lib.hid (by simp [hcs']), hfr, HQ2, B2⟩
                    case measure => simp [intOf]
                  · go_wp2
                    go_roundw
                    case rel => exact ⟨4, by omega, by first | rfl | go_num, by simp [hw], Lib.hid (by simp [go_sem, hcs', hfr]), by simp [go_sem, hfr], Lib.hid (HQ2.out.far (by simp; omega) (by simp; omega) _), B2.setCell (by simp) _⟩
                    case measure => simp [intOf]
              · obtain rfl : k2 = 4 := by omega
                have hcs' := hcs.out
                simp only [Nat.reduceLT, reduceIte] at hcs'
                clear hcs HQ
                obtain ⟨r0, hr0⟩ : ∃ v, (if b0 = true then k else 0) = v := ⟨_, rfl⟩
                obtain ⟨r1, hr1⟩ : ∃ v, (if b1 = true then k else 0) = v := ⟨_, rfl⟩
                obtain ⟨r2, hr2⟩ : ∃ v, (if b2 = true then k else 0) = v := ⟨_, rfl⟩
                obtain ⟨r3, hr3⟩ : ∃ v, (if b3 = true then k else 0) = v := ⟨_, rfl⟩
                rw [hr0, hr1, hr2, hr3] at hcs' EA
                clear hr0 hr1 hr2 hr3
                rw [EA.out] at EM
                clear EA
                have hwo : w.heap.size ≤ wi.heap.size := BW.size
                have F0 : (g < wr.heap.size ∧ gc < wr.heap.size ∧ wr.cell? ⟨g, 0, none⟩ = some (.int .i64 (W : Int)) ∧ wr.cell? ⟨g, 1, none⟩ = some (.int .i64 (H : Int)) ∧ wr.cell? ⟨g, 2, none⟩ = some (.slice (some ⟨gc, 0, none⟩) NM NM) ∧ wr.cell? ⟨gc, (n + x) * 4, none⟩ = some (.int .i8 a0) ∧ wr.cell? ⟨gc, (n + x) * 4 + 1, none⟩ = some (.int .i8 a1) ∧ wr.cell? ⟨gc, (n + x) * 4 + 2, none⟩ = some (.int .i8 a2) ∧ wr.cell? ⟨gc, (n + x) * 4 + 3, none⟩ = some (.int .i8 a3) ∧ wr.frozen? ⟨gc, (n + x) * 4, none⟩ = false ∧ wr.frozen? ⟨gc, (n + x) * 4 + 1, none⟩ = false ∧ wr.frozen? ⟨gc, (n + x) * 4 + 2, none⟩ = false ∧ wr.frozen? ⟨gc, (n + x) * 4 + 3, none⟩ = false) := by
                  obtain ⟨hc, hf⟩ := bcell B2
                  obtain ⟨z0, z1, z2, z3, z4, z5, z6, z7, z8, z9, za, zb, zc⟩ := L4.out
                  exact ⟨by omega, by omega, (hc _ _ z0).trans z2, (hc _ _ z0).trans z3, (hc _ _ z0).trans z4, (hc _ _ z1).trans z5, (hc _ _ z1).trans z6, (hc _ _ z1).trans z7, (hc _ _ z1).trans z8, (hf _ _ z1).trans z9, (hf _ _ z1).trans za, (hf _ _ z1).trans zb, (hf _ _ z1).trans zc⟩
                clear L4
                go_wp2
                have hnx : n + x ≤ 1048576 := by omega
                have q1 : IntKind.i64.wrap (n : Int) = n := IntWalk.i64_in _ (by omega)
                have q2 : IntKind.i64.wrap ((n : Int) + x) = n + x := IntWalk.i64_in _ (by omega)
                have q3 : ((n : Int) + x).toNat = n + x := by omega
                have q4 : 0 ≤ (n : Int) + x := by omega
                have q5 : (n : Int) + x < NM := by omega
                obtain ⟨z0, z1, z2, z3, z4, z5, z6, z7, z8, z9, za, zb, zc⟩ := F0
                obtain ⟨u0_, u1_, u2_, u3_⟩ := hcs'
                obtain ⟨t0, t1, t2, t3⟩ := hfr
                go_quiet (fail)
                clear q1 q2 q3 q4 q5
                go_wp2
                have hgw : gc < wr.heap.size := z1
                go_region_with (first | (go_at_call 20; go_must (refine (merge3 a0 a1 a2 a3 r0 r1 r2 r3 wr _).mono ?_); rintro e w9 ⟨rfl, hb9⟩; have hc9 := (bcell hb9).1; have hf9 := (bcell hb9).2; have g5 := (hc9 _ _ hgw).trans z5; have g6 := (hc9 _ _ hgw).trans z6; have g7 := (hc9 _ _ hgw).trans z7; have g8 := (hc9 _ _ hgw).trans z8; have g9 := (hf9 _ _ hgw).trans z9; have ga := (hf9 _ _ hgw).trans za; have gb := (hf9 _ _ hgw).trans zb; have gd := (hf9 _ _ hgw).trans zc))
                all_goals go_wp2
                all_goals
                  go_roundw
                  case rel =>
                    refine ⟨x + 1, M.set (n + x) (mergeA [⟨a0, a1, a2, a3⟩, ⟨r0, r1, r2, r3⟩]), by go_num, by omega, Lib.hid EM.out.symm, Lib.hid ?_, ?_⟩
                    · exact (HQ2.out.later hb9 (heap_lt HQ2.out.pl) (heap_lt HQ2.out.ce)).put4 (n + x) (by rw [HNM.out]; exact hn) _
                    · exact only_setCell (only_setCell (only_setCell (only_setCell (grown_trans BW (only_of_below (below_via hb9 B2) _)) (.inl rfl) _) (.inl rfl) _) (.inl rfl) _) (.inl rfl) _
                  case measure => simp [intOf]; omega
          · have HE := Lib.hid (linS_row_end W lx ly mx my k x y L hlt)
            have hcond : decide ((x : Int) ≤ min mx ((W : Int) - 1)) = false := by simp; omega
            clear hlt
            go_wp2
            go_roundw
            case rel => exact ⟨y + 1, M, by go_num, by omega, Lib.hid (HM.out.trans HE.out), HQ, BW⟩
            case measure => simp [intOf]; omega
      · have HE := Lib.hid (linS_end W H lx ly mx my k y L (by have := HP.out.len; omega) hlt)
        have hcond : decide ((y : Int) ≤ min my ((H : Int) - 1)) = false := by simp; omega
        clear hlt
        go_wp2
        go_ret
        exact ⟨rfl, BW, by rw [← HE.out, ← HM.out]; exact HQ.out⟩
end Go.Proofs.Ytebalohoblaedaa
