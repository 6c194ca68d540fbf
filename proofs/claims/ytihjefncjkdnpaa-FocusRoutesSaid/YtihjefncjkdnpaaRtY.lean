/- RtY: RtG RtH RtI RtJ in one text. -/
import Derived.Test.YtihjefncjkdnpaaRtX
namespace Go.Proofs.Ytihjefncjkdnpaa
open Go.RowKit Go.Deep
set_option linter.unusedVariables false
set_option linter.unusedSimpArgs false

structure KeepB (W W' : World) (B : TypeId → Prop) : Prop where
  ty : ∀ {b : Nat} {cs : Array Value} {t : TypeId} {f : Nat × Nat}, W.heap[b]? = some (.cells cs t f) → ¬ B t → W'.heap[b]? = W.heap[b]?
  mp : ∀ {b : Nat} {es : Array MapEntry} {c : Nat}, W.heap[b]? = some (.map es c) → W'.heap[b]? = W.heap[b]?
theorem KeepB.of {W W' : World} {B : TypeId → Prop} (S : Nat → Prop) (hO : ∀ b, S b → b < W.heap.size → ∃ cs t fr, W.heap[b]? = some (.cells cs t fr) ∧ B t) (hfr : ∀ b, b < W.heap.size → ¬ S b → W'.heap[b]? = W.heap[b]?) : KeepB W W' B :=
  ⟨fun {b cs t f} hb ht => hfr b (lt_of_block hb) (fun hs => by
    obtain ⟨cs', t', fr', h, hB⟩ := hO b hs (lt_of_block hb)
    rw [h] at hb
    injection hb with hb
    injection hb with _ e
    exact ht (e ▸ hB)), fun {b es c} hb => by
    have hz : b < W.heap.size := by
      rcases Nat.lt_or_ge b W.heap.size with h | h
      · exact h
      · rw [Array.getElem?_eq_none h] at hb; cases hb
    refine hfr b hz (fun hs => ?_)
    obtain ⟨cs', t', fr', h, hB⟩ := hO b hs hz
    rw [h] at hb; cases hb⟩
theorem KeepB.row {W W' : World} {B : TypeId → Prop} (hk : KeepB W W' B) {base : Nat} {t : TypeId} {k n : Nat} {v : Value} {xs : List Value} (h : W.ownsRow base t k v n xs) (ht : ¬ B t) : W'.ownsRow base t k v n xs :=
  row_keepB h (fun g hg => by obtain ⟨cs, fr, hb⟩ := row_blk h hg; exact hk.ty hb ht)
theorem KeepB.blk {W W' : World} {B : TypeId → Prop} (hk : KeepB W W' B) {b : Nat} {cs : Array Value} {t : TypeId} {f : Nat × Nat} (h : W.heap[b]? = some (.cells cs t f)) (ht : ¬ B t) : W'.heap[b]? = some (.cells cs t f) := (hk.ty h ht).trans h
theorem KeepB.router {w0 W W' : World} {B : TypeId → Prop} (hk : KeepB W W' B) {rb mb : Nat} {pv : Value} {P : List Int} {m : Nat} {f : Int → Sl} {ts : Int → List Value} {many : Nat} (h : RouterAt w0 W rb mb pv P m f ts many) (hbe : Below w0.heap.size w0 W') (h1 : ¬ B 101) (h2 : ¬ B 3) (h3 : ¬ B 91) : RouterAt w0 W' rb mb pv P m f ts many := by
  obtain ⟨es, c, hm⟩ := h.mp.block
  exact ⟨hbe, hk.blk h.ro h1, hk.row h.pa h2, h.mp.of_block (hk.mp hm), h.mm, fun k => hk.row (h.rw k) h3, h.ap, h.zr, h.zm, h.tl⟩
theorem KeepB.tks {W W' : World} {B : TypeId → Prop} (hk : KeepB W W' B) {wb : Nat} (h1 : ¬ B 3) (h2 : ¬ B 54) : KeepT W W' := fun b cs t hb ht => hk.ty hb (by rcases ht with rfl | rfl <;> assumption)
theorem KeepB.rf {W W' : World} {B : TypeId → Prop} (hk : KeepB W W' B) {base g : Nat} {qv tv : Value} {P : List Int} {M : List (Int × Nat)} (h : RfAt base W g qv tv P M) (h1 : ¬ B 104) (h2 : ¬ B 3) (h3 : ¬ B 135) : RfAt base W' g qv tv P M := ⟨hk.blk h.pl h1, hk.row h.pa h2, hk.row h.own h3, h.bg⟩
/-- two steps have been appended to the list of what takers do -/
theorem RtAt.does {w0 W W1 W2 : World} {x : RtV} {P : List Int} {dl : List Stp} {R M : List (Int × Nat)} {cl wl : List (Nat × Int)} (h : RtAt w0 W x P dl R M cl wl) {v' : Value} {a b : Stp} (BA : Below W.heap.size W W1) (own : W2.ownsRow w0.heap.size 60 6 v' (dl.length + 2) (stpsC dl ++ (stpC a ++ stpC b))) (gr : W1.grownBy W2 x.dv.ownBlock) (pl : v'.ownBlock = x.dv.ownBlock ∨ ∃ b, v'.ownBlock = some b ∧ W1.heap.size ≤ b) :
    RtStep w0 W x P (dl ++ [a, b]) R M cl wl (W2.setCell ⟨x.wb, 2, none⟩ v') := by
  have z1 := BA.size
  have z2 := gr.size
  have hs : W2.grownBy (W2.setCell ⟨x.wb, 2, none⟩ v') (some x.wb) := only_setCell (only_refl W2 (some x.wb)) (p := ⟨x.wb, 2, none⟩) (.inl rfl) v'
  have hfr : ∀ b, b < W.heap.size → ¬ (b = x.wb ∨ x.dv.ownBlock = some b) → (W2.setCell ⟨x.wb, 2, none⟩ v').heap[b]? = W.heap[b]? := fun b hb hn => by
    rw [hs.block b (by omega) (fun e => hn (.inl (by injection e))), gr.block b (by omega) (fun e => hn (.inr e.symm)), BA.block b hb]
  have hk : KeepB W (W2.setCell ⟨x.wb, 2, none⟩ v') (fun t => t = 57 ∨ t = 60) := KeepB.of _ (fun b hb _ => by
    rcases hb with rfl | hc
    · exact ⟨_, _, _, h.wo, .inl rfl⟩
    · obtain ⟨cs, fr, hb⟩ := row_blk h.dr hc
      exact ⟨_, _, _, hb, .inr rfl⟩) hfr
  have zw := lt_of_block h.wo
  have hwo : W2.heap[x.wb]? = some (.cells #[.pointer (some ⟨x.rb, 0, none⟩), .pointer (some ⟨x.g, 0, none⟩), x.dv, x.cv, x.uv] 57 (0, 0)) := by
    rw [gr.block x.wb (by omega) (fun e => row_ne_blk h.dr h.wo (by decide) e.symm), BA.block _ zw]; exact h.wo
  have hBe : Below w0.heap.size w0 (W2.setCell ⟨x.wb, 2, none⟩ v') :=
    (Below.grown (below_via BA h.ro.be) gr (by have := h.ro.be.size; omega) (fun g hg => (row_lt h.dr g hg).2)).setCell (p := ⟨x.wb, 2, none⟩) h.zw _
  refine ⟨⟨{ x with dv := v' }, rfl, ⟨set_blk hwo 2 v', hk.router h.ro hBe (by decide) (by decide) (by decide), fun k => forall2_imp (fun a b h => h.keep (hk.tks (wb := x.wb) (by decide) (by decide))) (h.tk k), hk.rf h.re (by decide) (by decide) (by decide), ?_, hk.row h.cr (by decide), hk.row h.ur (by decide), h.cu, h.zw⟩, fun b hb => ?_⟩, by have := hs.size; omega, fun b hb hO => hfr b hb (fun e => hO (e.elim (fun e => .inl (.inl e)) (fun e => .inr (.inl e))))⟩
  · rw [stpsC_app, List.length_append]
    exact own.kept hs (.inr (row_ne_blk own hwo (by decide)))
  · rcases hb with hb | hb | hb
    · exact .inl (.inl hb)
    · rcases pl with e | ⟨g, e, hg⟩
      · exact .inl (.inr (.inl (e ▸ hb)))
      · rw [show ({ x with dv := v' } : RtV).dv = v' from rfl, e] at hb
        injection hb with hb
        exact .inr (by omega)
    · exact .inl (.inr (.inr hb))
/-- a call that is wanted has been appended -/
theorem RtAt.wants {w0 W W1 W2 : World} {x : RtV} {P : List Int} {dl : List Stp} {R M : List (Int × Nat)} {cl wl : List (Nat × Int)} (h : RtAt w0 W x P dl R M cl wl) {v' : Value} {y : Nat × Int} (BA : Below W.heap.size W W1) (own : W2.ownsRow w0.heap.size 64 7 v' (wl.length + 1) (tknsC wl ++ tknC y)) (gr : W1.grownBy W2 x.uv.ownBlock) (pl : v'.ownBlock = x.uv.ownBlock ∨ ∃ b, v'.ownBlock = some b ∧ W1.heap.size ≤ b) :
    (∃ x', x'.wb = x.wb ∧ x'.tv = x.tv ∧ RtAt w0 (W2.setCell ⟨x.wb, 4, none⟩ v') x' P dl R M cl (wl ++ [y]) ∧ x'.g = x.g ∧ ∀ b, AllO x' b → AllO x b ∨ W.heap.size ≤ b) ∧ (W.heap.size ≤ (W2.setCell ⟨x.wb, 4, none⟩ v').heap.size ∧ ∀ b, b < W.heap.size → ¬ AllO x b → (W2.setCell ⟨x.wb, 4, none⟩ v').heap[b]? = W.heap[b]?) ∧ KeepB W (W2.setCell ⟨x.wb, 4, none⟩ v') (fun t => t = 57 ∨ t = 64) := by
  have z1 := BA.size
  have z2 := gr.size
  have hs : W2.grownBy (W2.setCell ⟨x.wb, 4, none⟩ v') (some x.wb) := only_setCell (only_refl W2 (some x.wb)) (p := ⟨x.wb, 4, none⟩) (.inl rfl) v'
  have hfr : ∀ b, b < W.heap.size → ¬ (b = x.wb ∨ x.uv.ownBlock = some b) → (W2.setCell ⟨x.wb, 4, none⟩ v').heap[b]? = W.heap[b]? := fun b hb hn => by
    rw [hs.block b (by omega) (fun e => hn (.inl (by injection e))), gr.block b (by omega) (fun e => hn (.inr e.symm)), BA.block b hb]
  have hk : KeepB W (W2.setCell ⟨x.wb, 4, none⟩ v') (fun t => t = 57 ∨ t = 64) := KeepB.of _ (fun b hb _ => by
    rcases hb with rfl | hc
    · exact ⟨_, _, _, h.wo, .inl rfl⟩
    · obtain ⟨cs, fr, hb⟩ := row_blk h.ur hc
      exact ⟨_, _, _, hb, .inr rfl⟩) hfr
  have zw := lt_of_block h.wo
  have hwo : W2.heap[x.wb]? = some (.cells #[.pointer (some ⟨x.rb, 0, none⟩), .pointer (some ⟨x.g, 0, none⟩), x.dv, x.cv, x.uv] 57 (0, 0)) := by
    rw [gr.block x.wb (by omega) (fun e => row_ne_blk h.ur h.wo (by decide) e.symm), BA.block _ zw]; exact h.wo
  have hBe : Below w0.heap.size w0 (W2.setCell ⟨x.wb, 4, none⟩ v') :=
    (Below.grown (below_via BA h.ro.be) gr (by have := h.ro.be.size; omega) (fun g hg => (row_lt h.ur g hg).2)).setCell (p := ⟨x.wb, 4, none⟩) h.zw _
  refine ⟨⟨{ x with uv := v' }, rfl, rfl, ⟨set_blk hwo 4 v', hk.router h.ro hBe (by decide) (by decide) (by decide), fun k => forall2_imp (fun a b h => h.keep (hk.tks (wb := x.wb) (by decide) (by decide))) (h.tk k), hk.rf h.re (by decide) (by decide) (by decide), hk.row h.dr (by decide), ?_, ?_, ?_, h.zw⟩, rfl, fun b hb => ?_⟩, ⟨by have := hs.size; omega, fun b hb hO => hfr b hb (fun e => hO (e.elim (fun e => .inl (.inl e)) (fun e => .inr (.inr (.inl e)))))⟩, hk⟩
  · refine row_keepB h.cr (fun g hg => hfr g (row_lt h.cr g hg).1 (fun hs => ?_))
    rcases hs with rfl | hs
    · exact row_ne_blk h.cr h.wo (by decide) hg
    · rcases h.cu with e | e
      · rw [e] at hg; cases hg
      · exact e (hg.trans hs.symm)
  · rw [tknsC_app, List.length_append]
    exact own.kept hs (.inr (row_ne_blk own hwo (by decide)))
  · show x.cv.ownBlock = none ∨ x.cv.ownBlock ≠ v'.ownBlock
    rcases pl with e | ⟨b, e, hb⟩
    · rw [e]; exact h.cu
    · right
      rw [e]
      intro e'
      have := (row_lt h.cr b e').1
      omega
  · rcases hb with hb | hb | hb | hb
    · exact .inl (.inl hb)
    · exact .inl (.inr (.inl hb))
    · rcases pl with e | ⟨g, e, hg⟩
      · exact .inl (.inr (.inr (.inl (e ▸ hb))))
      · rw [show ({ x with uv := v' } : RtV).uv = v' from rfl, e] at hb
        injection hb with hb
        exact .inr (by omega)
    · exact .inl (.inr (.inr (.inr hb)))
/-- the reference's router has taken On -/
theorem RtAt.refOn {w0 W W' : World} {x : RtV} {P : List Int} {dl : List Stp} {R M M' : List (Int × Nat)} {cl wl : List (Nat × Int)} (h : RtAt w0 W x P dl R M cl wl) (hp : RfPost w0.heap.size W W' x.g x.qv x.tv P M') :
    RtStep w0 W x P dl R M' cl wl W' ∧ ∃ tv', RtAt w0 W' { x with tv := tv' } P dl R M' cl wl ∧ Chg W W' (SRf x.g x.tv) ∧ (tv'.ownBlock = x.tv.ownBlock ∨ ∃ b, tv'.ownBlock = some b ∧ W.heap.size ≤ b) := by
  obtain ⟨tv', h1, h2, h3⟩ := hp
  have hk : KeepB W W' (fun t => t = 104 ∨ t = 135) := KeepB.of (SRf x.g x.tv) (fun b hb _ => by
    rcases hb with rfl | hc
    · exact ⟨_, _, _, h.re.pl, .inl rfl⟩
    · obtain ⟨cs, fr, hb⟩ := row_blk h.re.own hc
      exact ⟨_, _, _, hb, .inr rfl⟩) h2.block
  have hBe : Below w0.heap.size w0 W' := h.ro.be.trans (h2.under (base := w0.heap.size) (fun k hk => by
    rcases hk with rfl | hk
    · exact h.re.bg
    · exact (row_lt h.re.own k hk).2) h.ro.be.size)
  have A : RtAt w0 W' { x with tv := tv' } P dl R M' cl wl := ⟨hk.blk h.wo (by decide), hk.router h.ro hBe (by decide) (by decide) (by decide), fun k => forall2_imp (fun a b h => h.keep (hk.tks (wb := x.wb) (by decide) (by decide))) (h.tk k), h1, hk.row h.dr (by decide), hk.row h.cr (by decide), hk.row h.ur (by decide), h.cu, h.zw⟩
  refine ⟨⟨⟨{ x with tv := tv' }, rfl, A, fun b hb => ?_⟩, h2.size, fun b hb hO => h2.block b hb (fun e => hO (e.elim (fun e => .inr (.inr (.inr (.inl e)))) (fun e => .inr (.inr (.inr (.inr e))))))⟩, tv', A, h2, h3⟩
  rcases hb with hb | hb | hb | hb | hb
  · exact .inl (.inl hb)
  · exact .inl (.inr (.inl hb))
  · exact .inl (.inr (.inr (.inl hb)))
  · exact .inl (.inr (.inr (.inr (.inl hb))))
  · rcases h3 with e | ⟨g, e, hg⟩
    · exact .inl (.inr (.inr (.inr (.inr (e ▸ hb)))))
    · rw [show ({ x with tv := tv' } : RtV).tv = tv' from rfl, e] at hb
      injection hb with hb
      exact .inr (by omega)
end Go.Proofs.Ytihjefncjkdnpaa
namespace Go.Proofs.Ytihjefncjkdnpaa
open Go.RowKit Go.Deep
set_option linter.unusedVariables false
set_option linter.unusedSimpArgs false

theorem infoStepR_ : (Try.prog.info? 60).map (fun i => (i.zero, i.size, i.bytes)) = some (some (.agg #[.int .i64 0, .int .i64 0, .int .i64 0, .bool false, .bool false, .int .i32 0]), 6, 32) := by kernel_rfl
def stpV (s : Stp) : Value := .agg #[.int .i64 s.do_, .int .i64 s.n, .int .i64 s.more, .bool s.yes, .bool s.puts, .int .i32 s.e]
def yesS (s : Stp) : Stp := ⟨0, 0, 0, s.yes, false, 0⟩
theorem RtStep.via {w0 W W1 W2 : World} {x x1 : RtV} {P : List Int} {dl2 : List Stp} {R2 M2 : List (Int × Nat)} {cl2 wl2 : List (Nat × Int)} (e1 : x1.wb = x.wb) (o1 : ∀ b, AllO x1 b → AllO x b ∨ W.heap.size ≤ b) (z1 : W.heap.size ≤ W1.heap.size) (f1 : ∀ b, b < W.heap.size → ¬ AllO x b → W1.heap[b]? = W.heap[b]?) (h2 : RtStep w0 W1 x1 P dl2 R2 M2 cl2 wl2 W2) : RtStep w0 W x P dl2 R2 M2 cl2 wl2 W2 := by
  obtain ⟨⟨x2, e2, a2, o2⟩, z2, f2⟩ := h2
  refine ⟨⟨x2, e2.trans e1, a2, fun b hb => ?_⟩, Nat.le_trans z1 z2, fun b hb hO => ?_⟩
  · rcases o2 b hb with h | h
    · exact o1 b h
    · exact .inr (Nat.le_trans z1 h)
  · refine (f2 b (Nat.lt_of_lt_of_le hb z1) (fun h => ?_)).trans (f1 b hb hO)
    rcases o1 b h with h | h
    · exact hO h
    · omega
def RetPut (w0 W : World) (x : RtV) (P : List Int) (dl : List Stp) (R M : List (Int × Nat)) (cl wl : List (Nat × Int)) (s : Stp) (e : Ending) (W' : World) : Prop := e = .returned (.tuple #[.int .i64 dl.length, .int .i64 (onE P.length M s.n)]) ∧ RtStep w0 W x P (dl ++ [s, yesS s]) R (onR P.length M s.n dl.length) cl wl W'
set_option maxRecDepth 100000 in
set_option maxHeartbeats 16000000 in
theorem put_any (w0 W : World) (x : RtV) (P : List Int) (dl : List Stp) (R M : List (Int × Nat)) (cl wl : List (Nat × Int)) (s : Stp) (h : RtAt w0 W x P dl R M cl wl) (hdl : dl.length ≤ 67108864) (hM : M.length ≤ 4096) : Calls Try.prog 53 #[.pointer (some ⟨x.wb, 0, none⟩), .agg #[.int .i64 s.do_, .int .i64 s.n, .int .i64 s.more, .bool s.yes, .bool s.puts, .int .i32 s.e]] W (RetPut w0 W x P dl R M cl wl s) := by
  obtain ⟨i0, hi, hz0, hz1, hz2⟩ := info_parts infoStepR_
  have HI := Lib.hid (And.intro hi (And.intro hz0 (And.intro hz1 hz2)))
  clear hi hz0 hz1 hz2
  have H := Lib.hid h
  obtain ⟨pd, kd, hdv⟩ := row_slice h.dr
  obtain ⟨W1, hW1⟩ : ∃ W1, W1 = W.alloc (.cells #[.int .i64 s.do_, .int .i64 s.n, .int .i64 s.more, .bool s.yes, .bool s.puts, .int .i32 s.e] 60) := ⟨_, rfl⟩
  have BW1 := Lib.hid (show Below W.heap.size W W1 from by rw [hW1]; exact below_al (Below.refl _ _) _)
  have SB1 := Lib.hid (show W1.heap[W.heap.size]? = some (.cells #[.int .i64 s.do_, .int .i64 s.n, .int .i64 s.more, .bool s.yes, .bool s.puts, .int .i32 s.e] 60 (0, 0)) from by rw [hW1]; exact heap_alloc_new _ _)
  have zw := lt_of_block h.wo
  have zW1 : W1.heap.size = W.heap.size + 1 := by rw [hW1]; simp
  have HS := Lib.hid (fun (w' : World) (hh : w'.heap[x.wb]? = W1.heap[x.wb]? ∧ w'.heap[W.heap.size]? = W1.heap[W.heap.size]?) => show (x.wb < w'.heap.size ∧ W.heap.size < w'.heap.size ∧ w'.cell? ⟨x.wb, 1, none⟩ = some (.pointer (some ⟨x.g, 0, none⟩)) ∧ w'.cell? ⟨x.wb, 2, none⟩ = some (.slice pd dl.length kd) ∧ w'.frozen? ⟨x.wb, 2, none⟩ = false ∧ w'.cell? ⟨W.heap.size, 0, none⟩ = some (.int .i64 s.do_) ∧ w'.cell? ⟨W.heap.size, 1, none⟩ = some (.int .i64 s.n) ∧ w'.cell? ⟨W.heap.size, 2, none⟩ = some (.int .i64 s.more) ∧ w'.cell? ⟨W.heap.size, 3, none⟩ = some (.bool s.yes) ∧ w'.cell? ⟨W.heap.size, 4, none⟩ = some (.bool s.puts) ∧ w'.cell? ⟨W.heap.size, 5, none⟩ = some (.int .i32 s.e)) from by
    obtain ⟨h1, h4⟩ := hh
    replace h1 := (h1.trans (BW1.out.block _ zw)).trans H.out.wo
    replace h4 := h4.trans SB1.out
    rw [hdv] at h1
    refine ⟨lt_of_block h1, lt_of_block h4, ?_, ?_, frozen_of_row _ _ _ _ _ h1, ?_, ?_, ?_, ?_, ?_, ?_⟩ <;> first | (rw [cell_of_row _ _ _ _ _ _ h1]; rfl) | (rw [cell_of_row _ _ _ _ _ _ h4]; rfl))
  have HPO := Lib.hid (fun (W' : World) (hh : RtStep w0 W x P (dl ++ [s, yesS s]) R (onR P.length M s.n dl.length) cl wl W') => show RetPut w0 W x P dl R M cl wl s (.returned (.tuple #[.int .i64 dl.length, .int .i64 (onE P.length M s.n)])) W' from ⟨rfl, hh⟩)
  generalize RetPut w0 W x P dl R M cl wl s = post at *
  clear h
  have HSW := Lib.hid hW1
  clear hW1
  go_enter Try.func53, Try.ntmps53
  go_upto_region 1 with (fail)
  rw [← HSW.out]
  clear HSW
  obtain ⟨y0, y1, y2, y3, y4, y5, y6, y7, y8, y9, y10⟩ := HS.out W1 ⟨rfl, rfl⟩
  go_upto_region 2 with (fail)
  clear y0 y1 y2 y3 y4 y5 y6 y7 y8 y9 y10
  have HSD := Lib.hid (show W1.drew.heap[x.wb]? = W1.heap[x.wb]? ∧ W1.drew.heap[W.heap.size]? = W1.heap[W.heap.size]? from ⟨rfl, rfl⟩)
  refine wp_region_noPanic ?_
  refine wp_region_Z (fun w' => w'.heap[x.wb]? = W1.heap[x.wb]? ∧ w'.heap[W.heap.size]? = W1.heap[W.heap.size]?) 13 (by kernel_rfl) ?_
  change wpAnyZ _ _ _ _ _ _ 14 (Array.replicate 14 false) _ _
  refine wpAnyZ_take [12, 11] (i := 0) (v := ?va0) (by simp only [List.getElem?_toArray, List.getElem?_cons_succ, List.getElem?_cons_zero]; rfl) (by decide +kernel) (fun _ _ _ h => h) (by rfl) ?ta0 ?sa0 ?_
  case ta0 => (intro w' h; clear h; go_simp; try rfl)
  case sa0 => exact HSD.out
  (try simp only [Act.put, List.setIfInBounds_toArray, List.set_cons_zero, List.set_cons_succ])
  refine wpAnyZ_take [10, 4, 3, 2] (i := 1) (v := ?va1) (by simp only [List.getElem?_toArray, List.getElem?_cons_succ, List.getElem?_cons_zero]; rfl) (by decide +kernel) (fun _ _ _ h => h) (by rfl) ?ta1 ?sa1 ?_
  case ta1 => (intro w' h; clear h; go_simp; try rfl)
  case sa1 => exact HSD.out
  (try simp only [Act.put, List.setIfInBounds_toArray, List.set_cons_zero, List.set_cons_succ])
  refine wpAnyZ_take [10, 4, 3] (i := 2) (v := ?va2) (by simp only [List.getElem?_toArray, List.getElem?_cons_succ, List.getElem?_cons_zero]; rfl) (by decide +kernel) (fun _ _ _ h => h) (by rfl) ?ta2 ?sa2 ?_
  case ta2 => (intro w' h; have FK := HS.out w' h; clear h; go_split_ands; go_simp; try rfl)
  case sa2 => exact HSD.out
  (try simp only [Act.put, List.setIfInBounds_toArray, List.set_cons_zero, List.set_cons_succ])
  refine wpAnyZ_take [10, 4] (i := 3) (v := ?va3) (by simp only [List.getElem?_toArray, List.getElem?_cons_succ, List.getElem?_cons_zero]; rfl) (by decide +kernel) (fun _ _ _ h => h) (by rfl) ?ta3 ?sa3 ?_
  case ta3 => (intro w' h; clear h; go_simp; try rfl)
  case sa3 => exact HSD.out
  (try simp only [Act.put, List.setIfInBounds_toArray, List.set_cons_zero, List.set_cons_succ])
  refine wpAnyZ_take [10] (i := 4) (v := ?va4) (by simp only [List.getElem?_toArray, List.getElem?_cons_succ, List.getElem?_cons_zero]; rfl) (by decide +kernel) (fun _ _ _ h => h) (by rfl) ?ta4 ?sa4 ?_
  case ta4 => (intro w' h; have FK := HS.out w' h; clear h; go_split_ands; go_simp; try rfl)
  case sa4 => exact HSD.out
  (try simp only [Act.put, List.setIfInBounds_toArray, List.set_cons_zero, List.set_cons_succ])
  refine wpAnyZ_take [10, 9] (i := 5) (v := ?va5) (by simp only [List.getElem?_toArray, List.getElem?_cons_succ, List.getElem?_cons_zero]; rfl) (by decide +kernel) (fun _ _ _ h => h) (by rfl) ?ta5 ?sa5 ?_
  case ta5 => (intro w' h; have FK := HS.out w' h; clear h; go_split_ands; go_simp; try rfl)
  case sa5 => exact HSD.out
  (try simp only [Act.put, List.setIfInBounds_toArray, List.set_cons_zero, List.set_cons_succ])
  refine wpAnyZ_take [10, 9, 8, 7] (i := 6) (v := ?va6) (by simp only [List.getElem?_toArray, List.getElem?_cons_succ, List.getElem?_cons_zero]; rfl) (by decide +kernel) (fun _ _ _ h => h) (by rfl) ?ta6 ?sa6 ?_
  case ta6 => (intro w' h; clear h; go_simp; try rfl)
  case sa6 => exact HSD.out
  (try simp only [Act.put, List.setIfInBounds_toArray, List.set_cons_zero, List.set_cons_succ])
  refine wpAnyZ_take [10, 9, 8] (i := 7) (v := ?va7) (by simp only [List.getElem?_toArray, List.getElem?_cons_succ, List.getElem?_cons_zero]; rfl) (by decide +kernel) (fun _ _ _ h => h) (by rfl) ?ta7 ?sa7 ?_
  case ta7 => (intro w' h; have FK := HS.out w' h; clear h; go_split_ands; go_simp; try rfl)
  case sa7 => exact HSD.out
  (try simp only [Act.put, List.setIfInBounds_toArray, List.set_cons_zero, List.set_cons_succ])
  refine wpAnyZ_take [10, 9] (i := 8) (v := ?va8) (by simp only [List.getElem?_toArray, List.getElem?_cons_succ, List.getElem?_cons_zero]; rfl) (by decide +kernel) (fun _ _ _ h => h) (by rfl) ?ta8 ?sa8 ?_
  case ta8 => (intro w' h; clear h; go_simp; try rfl)
  case sa8 => exact HSD.out
  (try simp only [Act.put, List.setIfInBounds_toArray, List.set_cons_zero, List.set_cons_succ])
  obtain ⟨w8, hw8⟩ : ∃ t, t = W1.drew.alloc (.cells #[.int .i64 s.do_, .int .i64 s.n, .int .i64 s.more, .bool s.yes, .bool s.puts, .int .i32 s.e, .int .i64 0, .int .i64 0, .int .i64 0, .bool s.yes, .bool false, .int .i32 0] 60) := ⟨_, rfl⟩
  have HB8 := Lib.hid (show Below W1.heap.size W1 w8 from by rw [hw8]; exact below_al (Below.drew (Below.refl _ _)) _)
  have HS8 := Lib.hid (show w8.heap[x.wb]? = W1.heap[x.wb]? ∧ w8.heap[W.heap.size]? = W1.heap[W.heap.size]? from ⟨HB8.out.block _ (by omega), HB8.out.block _ (by omega)⟩)
  have HN8 := Lib.hid (show w8.heap[W1.heap.size]? = some (.cells #[.int .i64 s.do_, .int .i64 s.n, .int .i64 s.more, .bool s.yes, .bool s.puts, .int .i32 s.e, .int .i64 0, .int .i64 0, .int .i64 0, .bool s.yes, .bool false, .int .i32 0] 60 (0, 0)) from by rw [hw8]; exact heap_alloc_new _ _)
  have hz8 : w8.heap.size = W1.heap.size + 1 := by rw [hw8]; simp
  have HW8 := Lib.hid hw8
  clear hw8
  have HOX := Lib.hid (show w8.ownsRow w0.heap.size 60 6 (.slice pd dl.length kd) dl.length (stpsC dl) from by have := row_later H.out.dr (below_via HB8.out BW1.out); rwa [hdv] at this)
  have HON := Lib.hid (show ∀ u ∈ [Value.int .i64 s.do_, Value.int .i64 s.n, Value.int .i64 s.more, Value.bool s.yes, Value.bool s.puts, Value.int .i32 s.e, Value.int .i64 0, Value.int .i64 0, Value.int .i64 0, Value.bool s.yes, Value.bool false, Value.int .i32 0], u.oneCell' = true from fun u hu => by simp at hu; rcases hu with rfl | rfl | rfl | rfl | rfl | rfl | rfl | rfl | rfl | rfl | rfl | rfl <;> rfl)
  refine wpAnyZ_one (i := 9) (by decide +kernel) ?_
  refine wpOpK_value (v := .slice (some ⟨W1.heap.size, 0, none⟩) 2 2) (w' := w8) (by simp only [List.getElem?_toArray, List.getElem?_cons_succ, List.getElem?_cons_zero]; rfl) (by rfl) ?ma9 ⟨.inr HS8.out, ?_⟩
  case ma9 => (rw [HW8.out]; go_simp; try rfl)
  (try simp only [Act.put, List.setIfInBounds_toArray, List.set_cons_zero, List.set_cons_succ])
  refine wpAnyZ_one (i := 10) (by decide +kernel) ?_
  refine wpOpK_append (by simp only [List.getElem?_toArray, List.getElem?_cons_succ, List.getElem?_cons_zero]; rfl) rfl (.tmp 16) (.tmp 21) 35 rfl w0.heap.size 60 i0 _ 6 32 Try.underlying35 HI.out.1 HI.out.2.1 HI.out.2.2.1 HI.out.2.2.2 rfl (by decide) _ dl.length _ (by rfl) HOX.out ⟨W1.heap.size, 0, none⟩ 2 2 [.int .i64 s.do_, .int .i64 s.n, .int .i64 s.more, .bool s.yes, .bool s.puts, .int .i32 s.e, .int .i64 0, .int .i64 0, .int .i64 0, .bool s.yes, .bool false, .int .i32 0] (by rfl) rfl (World.news_of_block (cs := #[.int .i64 s.do_, .int .i64 s.n, .int .i64 s.more, .bool s.yes, .bool s.puts, .int .i32 s.e, .int .i64 0, .int .i64 0, .int .i64 0, .bool s.yes, .bool false, .int .i32 0]) (t := 60) (fr := (0, 0)) HN8.out) HON.out (by omega) ?h63 ?hby ?hbs ?_
  case h63 => (unfold maxLen; omega)
  case hby => omega
  case hbs => first | (have := H.out.ro.be.size; simp; omega)
  intro g cap W2 own gr hg hlt
  have HA9 := Lib.hid own
  have HG9 := Lib.hid gr
  have HL9 := Lib.hid hg
  have HS9 := Lib.hid (show W2.heap[x.wb]? = W1.heap[x.wb]? ∧ W2.heap[W.heap.size]? = W1.heap[W.heap.size]? from by
    have n1 := row_ne_blk H.out.dr H.out.wo (by decide)
    have n4 : x.dv.ownBlock ≠ some W.heap.size := fun e => by have := (row_lt H.out.dr _ e).1; omega
    rw [hdv] at n1 n4
    exact ⟨(gr.block _ (by omega) (fun e => n1 e.symm)).trans HS8.out.1, (gr.block _ (by omega) (fun e => n4 e.symm)).trans HS8.out.2⟩)
  clear own gr hg hlt
  refine ⟨.inr HS9.out, ?_⟩
  (try simp only [Act.put, List.setIfInBounds_toArray, List.set_cons_zero, List.set_cons_succ])
  refine wpAnyZ_take [12] (i := 11) (v := ?va11) (by simp only [List.getElem?_toArray, List.getElem?_cons_succ, List.getElem?_cons_zero]; rfl) (by decide +kernel) (fun _ _ _ h => h) (by rfl) ?ta11 ?sa11 ?_
  case ta11 => (intro w' h; have FK := HS.out w' h; clear h; go_split_ands; go_simp; try rfl)
  case sa11 => exact HS9.out
  (try simp only [Act.put, List.setIfInBounds_toArray, List.set_cons_zero, List.set_cons_succ])
  refine wpAnyZ_take [] (i := 12) (v := ?va12) (by simp only [List.getElem?_toArray, List.getElem?_cons_succ, List.getElem?_cons_zero]; rfl) (by decide +kernel) (fun _ _ _ h => h) (by rfl) ?ta12 ?sa12 ?_
  case ta12 => (intro w' h; clear h; go_simp; try rfl)
  case sa12 => exact HS9.out
  (try simp only [Act.put, List.setIfInBounds_toArray, List.set_cons_zero, List.set_cons_succ])
  obtain ⟨y0, y1, y2, y3, d0, _⟩ := HS.out W2 HS9.out
  refine wpAnyZ_one (i := 13) (by decide +kernel) ?_
  refine wpOpK_skip (w' := W2.setCell ⟨x.wb, 2, none⟩ (.slice (some ⟨g, 0, none⟩) (dl.length + 2) cap)) (by simp only [List.getElem?_toArray, List.getElem?_cons_succ, List.getElem?_cons_zero]; rfl) (by rfl) ?ma13 ⟨.inl rfl, ?_⟩
  case ma13 => (go_simp; try rfl)
  (try simp only [Act.put, List.setIfInBounds_toArray, List.set_cons_zero, List.set_cons_succ])
  refine wpAnyZ_done (by kernel_rfl) (NoPanic.normal ?_) _
  have CP := H.out.does (W1 := w8) (W2 := W2) (v' := .slice (some ⟨g, 0, none⟩) (dl.length + 2) cap) (a := s) (b := yesS s) (below_via HB8.out BW1.out) (by exact HA9.out) (by rw [hdv]; exact HG9.out) (by rw [hdv]; exact HL9.out.imp (fun h => h.symm) fun h => ⟨_, rfl, Nat.le_of_eq h.symm⟩)
  obtain ⟨w3, hw3⟩ : ∃ z, z = W2.setCell ⟨x.wb, 2, none⟩ (.slice (some ⟨g, 0, none⟩) (dl.length + 2) cap) := ⟨_, rfl⟩
  rw [← hw3] at CP ⊢
  have HSB := Lib.hid (show w3.heap[W.heap.size]? = some (.cells #[.int .i64 s.do_, .int .i64 s.n, .int .i64 s.more, .bool s.yes, .bool s.puts, .int .i32 s.e] 60 (0, 0)) from by rw [hw3, Below.heap_setCell _ _ _ _ (by simp; omega)]; exact HS9.out.2.trans SB1.out)
  obtain ⟨⟨x1, e1, A1, o1⟩, zz1, f1⟩ := CP
  have HC3 := Lib.hid (And.intro o1 (And.intro zz1 f1))
  have HA1 := Lib.hid A1
  clear A1 o1 f1 hw3 y0 y1 y2 y3 d0 HSD HS HI HB8 HS8 HN8 hz8 HW8 HOX HON HA9 HG9 HL9 HS9 BW1 SB1 hdv zW1
  have zw3 := lt_of_block HA1.out.wo
  rw [e1] at zw3
  have HS := Lib.hid (fun (w' : World) (hh : w'.heap[x.wb]? = w3.heap[x.wb]? ∧ w'.heap[W.heap.size]? = w3.heap[W.heap.size]?) => show (x.wb < w'.heap.size ∧ W.heap.size < w'.heap.size ∧ w'.cell? ⟨x.wb, 1, none⟩ = some (.pointer (some ⟨x1.g, 0, none⟩)) ∧ w'.cell? ⟨W.heap.size, 1, none⟩ = some (.int .i64 s.n)) from by
    obtain ⟨h1, h4⟩ := hh
    replace h1 := h1.trans (e1 ▸ HA1.out.wo)
    replace h4 := h4.trans HSB.out
    refine ⟨lt_of_block h1, lt_of_block h4, ?_, ?_⟩ <;> first | (rw [cell_of_row _ _ _ _ _ _ h1]; rfl) | (rw [cell_of_row _ _ _ _ _ _ h4]; rfl))
  go_upto_region 3 with (fail)
  have HSD := Lib.hid (show w3.drew.heap[x.wb]? = w3.heap[x.wb]? ∧ w3.drew.heap[W.heap.size]? = w3.heap[W.heap.size]? from ⟨rfl, rfl⟩)
  refine wp_region_noPanic ?_
  refine wp_region_Z (fun w' => w'.heap[x.wb]? = w3.heap[x.wb]? ∧ w'.heap[W.heap.size]? = w3.heap[W.heap.size]?) 10 (by kernel_rfl) ?_
  change wpAnyZ _ _ _ _ _ _ 11 (Array.replicate 11 false) _ _
  refine wpAnyZ_take [9] (i := 0) (v := ?vb0) (by simp only [List.getElem?_toArray, List.getElem?_cons_succ, List.getElem?_cons_zero]; rfl) (by decide +kernel) (fun _ _ _ h => h) (by rfl) ?tb0 ?sb0 ?_
  case tb0 => (intro w' h; clear h; go_simp; try rfl)
  case sb0 => exact HSD.out
  (try simp only [Act.put, List.setIfInBounds_toArray, List.set_cons_zero, List.set_cons_succ])
  refine wpAnyZ_take [8, 4, 3, 2] (i := 1) (v := ?vb1) (by simp only [List.getElem?_toArray, List.getElem?_cons_succ, List.getElem?_cons_zero]; rfl) (by decide +kernel) (fun _ _ _ h => h) (by rfl) ?tb1 ?sb1 ?_
  case tb1 => (intro w' h; clear h; go_simp; try rfl)
  case sb1 => exact HSD.out
  (try simp only [Act.put, List.setIfInBounds_toArray, List.set_cons_zero, List.set_cons_succ])
  refine wpAnyZ_take [8, 4, 3] (i := 2) (v := ?vb2) (by simp only [List.getElem?_toArray, List.getElem?_cons_succ, List.getElem?_cons_zero]; rfl) (by decide +kernel) (fun _ _ _ h => h) (by rfl) ?tb2 ?sb2 ?_
  case tb2 => (intro w' h; have FK := HS.out w' h; clear h; go_split_ands; go_simp; try rfl)
  case sb2 => exact HSD.out
  (try simp only [Act.put, List.setIfInBounds_toArray, List.set_cons_zero, List.set_cons_succ])
  refine wpAnyZ_take [8, 4] (i := 3) (v := ?vb3) (by simp only [List.getElem?_toArray, List.getElem?_cons_succ, List.getElem?_cons_zero]; rfl) (by decide +kernel) (fun _ _ _ h => h) (by rfl) ?tb3 ?sb3 ?_
  case tb3 => (intro w' h; clear h; go_simp; try rfl)
  case sb3 => exact HSD.out
  (try simp only [Act.put, List.setIfInBounds_toArray, List.set_cons_zero, List.set_cons_succ])
  refine wpAnyZ_take [8] (i := 4) (v := ?vb4) (by simp only [List.getElem?_toArray, List.getElem?_cons_succ, List.getElem?_cons_zero]; rfl) (by decide +kernel) (fun _ _ _ h => h) (by rfl) ?tb4 ?sb4 ?_
  case tb4 => (intro w' h; have FK := HS.out w' h; clear h; go_split_ands; go_simp; try rfl)
  case sb4 => exact HSD.out
  (try simp only [Act.put, List.setIfInBounds_toArray, List.set_cons_zero, List.set_cons_succ])
  refine wpAnyZ_take [8, 6] (i := 5) (v := ?vb5) (by simp only [List.getElem?_toArray, List.getElem?_cons_succ, List.getElem?_cons_zero]; rfl) (by decide +kernel) (fun _ _ _ h => h) (by rfl) ?tb5 ?sb5 ?_
  case tb5 => (intro w' h; clear h; go_simp; try rfl)
  case sb5 => exact HSD.out
  (try simp only [Act.put, List.setIfInBounds_toArray, List.set_cons_zero, List.set_cons_succ])
  refine wpAnyZ_take [8] (i := 6) (v := ?vb6) (by simp only [List.getElem?_toArray, List.getElem?_cons_succ, List.getElem?_cons_zero]; rfl) (by decide +kernel) (fun _ _ _ h => h) (by rfl) ?tb6 ?sb6 ?_
  case tb6 => (intro w' h; have FK := HS.out w' h; clear h; go_split_ands; go_simp; try rfl)
  case sb6 => exact HSD.out
  (try simp only [Act.put, List.setIfInBounds_toArray, List.set_cons_zero, List.set_cons_succ])
  refine wpAnyZ_take [8] (i := 7) (v := ?vb7) (by simp only [List.getElem?_toArray, List.getElem?_cons_succ, List.getElem?_cons_zero]; rfl) (by decide +kernel) (fun _ _ _ h => h) (by rfl) ?tb7 ?sb7 ?_
  case tb7 => (intro w' h; clear h; go_simp; try rfl)
  case sb7 => exact HSD.out
  (try simp only [Act.put, List.setIfInBounds_toArray, List.set_cons_zero, List.set_cons_succ])
  have HAD := Lib.hid (HA1.out.later (W' := w3.drew) (Below.drew (Below.refl _ _)))
  refine wpAnyZ_one (i := 8) (by decide +kernel) ?_
  refine wpOpK_call (by simp only [List.getElem?_toArray, List.getElem?_cons_succ, List.getElem?_cons_zero]; rfl) (by rfl) (by go_simp; first | exact ⟨rfl, rfl⟩ | rfl) ?_
  refine (refOn_any w0.heap.size x1.g x1.qv x1.tv P M s.n dl.length w3.drew HAD.out.re hM).mono ?_
  rintro e w4 ⟨rfl, hrf⟩
  obtain ⟨S2, tv2, A2, C2, _⟩ := HAD.out.refOn hrf
  have HA2 := Lib.hid S2
  have HS4 := Lib.hid (show w4.heap[x.wb]? = w3.heap[x.wb]? ∧ w4.heap[W.heap.size]? = w3.heap[W.heap.size]? from ⟨C2.block _ zw3 (fun e => e.elim (fun e => blk_ne HA1.out.wo HA1.out.re.pl (by decide) (e1.trans e)) (fun e => row_ne_blk HA1.out.re.own HA1.out.wo (by decide) (by rw [e1]; exact e))), C2.block _ (lt_of_block HSB.out) (fun e => e.elim (fun e => blk_ne HSB.out HA1.out.re.pl (by decide) e) (fun e => row_ne_blk HA1.out.re.own HSB.out (by decide) e))⟩)
  clear hrf A2 C2 S2
  refine ⟨_, rfl, .inr HS4.out, ?_⟩
  (try simp only [Act.put, List.setIfInBounds_toArray, List.set_cons_zero, List.set_cons_succ])
  refine wpAnyZ_take [] (i := 9) (v := ?vb9) (by simp only [List.getElem?_toArray, List.getElem?_cons_succ, List.getElem?_cons_zero]; rfl) (by decide +kernel) (fun _ _ _ h => h) (by rfl) ?tb9 ?sb9 ?_
  case tb9 => (intro w' h; clear h; go_simp; try rfl)
  case sb9 => exact HS4.out
  (try simp only [Act.put, List.setIfInBounds_toArray, List.set_cons_zero, List.set_cons_succ])
  refine wpAnyZ_one (i := 10) (by decide +kernel) ?_
  refine wpOpK_value (v := .int .i64 (onE P.length M s.n)) (w' := w4) (by simp only [List.getElem?_toArray, List.getElem?_cons_succ, List.getElem?_cons_zero]; rfl) (by rfl) ?mb10 ⟨.inl rfl, ?_⟩
  case mb10 => (go_simp; try rfl)
  (try simp only [Act.put, List.setIfInBounds_toArray, List.set_cons_zero, List.set_cons_succ])
  refine wpAnyZ_done (by kernel_rfl) (NoPanic.normal ?_) _
  go_wp2
  exact HPO.out _ (RtStep.via e1 HC3.out.1 HC3.out.2.1 HC3.out.2.2 (RtStep.via (W1 := w3.drew) rfl (fun b hb => .inl hb) (Nat.le_refl _) (fun b _ _ => rfl) HA2.out))
def evC (code : Int) : Array Value := #[.int .i8 2, .int .i32 code, .int .u8 0, .int .i64 0, .int .i64 0, .string ⟨#[101]⟩]
/-- the reference's way, half gone -/
structure SentI (w0 W : World) (x : RtV) (P : List Int) (dl : List Stp) (R : List (Int × Nat)) (cl wl : List (Nat × Int)) (code : Int) (L : List (Int × Nat)) (yv : Value) (M : List (Int × Nat)) (cs : List Nat) (wr : World) : Prop where
  st : ∃ x', x'.wb = x.wb ∧ RtAt w0 wr x' P dl R M cl (wl ++ cs.map (fun k => (k, code))) ∧ (∀ b, AllO x' b → AllO x b ∨ W.heap.size ≤ b) ∧ ∀ g, x'.tv.ownBlock = some g → yv.ownBlock ≠ some g
  sz : W.heap.size ≤ wr.heap.size
  fr : ∀ b, b < W.heap.size → ¬ AllO x b → wr.heap[b]? = W.heap[b]?
  yr : wr.ownsRow W.heap.size 135 2 yv L.length (tksC L)
  ev : wr.heap[W.heap.size]? = some (.cells (evC code) 62 (0, 0))
theorem SentI.later {w0 W : World} {x : RtV} {P : List Int} {dl : List Stp} {R : List (Int × Nat)} {cl wl : List (Nat × Int)} {code : Int} {L : List (Int × Nat)} {yv : Value} {M : List (Int × Nat)} {cs : List Nat} {wr w' : World} (h : SentI w0 W x P dl R cl wl code L yv M cs wr) (hb : Below wr.heap.size wr w') : SentI w0 W x P dl R cl wl code L yv M cs w' := by
  obtain ⟨⟨x', e, A, o, t⟩, sz, fr, yr, ev⟩ := h
  exact ⟨⟨x', e, A.later hb, o, t⟩, Nat.le_trans sz hb.size, fun b h1 h2 => (hb.block b (by omega)).trans (fr b h1 h2), row_later yr hb, (hb.block _ (lt_of_block ev)).trans ev⟩
theorem SentI.step {w0 W : World} {x : RtV} {P : List Int} {dl : List Stp} {R : List (Int × Nat)} {cl wl : List (Nat × Int)} {code : Int} {L : List (Int × Nat)} {yv : Value} {M : List (Int × Nat)} {cs : List Nat} {wr : World} (h : SentI w0 W x P dl R cl wl code L yv M cs wr) : RtStep w0 W x P dl R M cl (wl ++ cs.map (fun k => (k, code))) wr := by
  obtain ⟨⟨x', e, A, o, t⟩, sz, fr, yr, ev⟩ := h
  exact ⟨⟨x', e, A, o⟩, sz, fr⟩
theorem SentI.want {w0 W : World} {x x' : RtV} {P : List Int} {dl : List Stp} {R : List (Int × Nat)} {cl wl : List (Nat × Int)} {code : Int} {L : List (Int × Nat)} {yv : Value} {M : List (Int × Nat)} {cs : List Nat} {wr W1 W2 : World} {v' : Value} {num : Nat} (h : SentI w0 W x P dl R cl wl code L yv M cs wr) (e : x'.wb = x.wb) (A : RtAt w0 wr x' P dl R M cl (wl ++ cs.map (fun k => (k, code)))) (o : ∀ b, AllO x' b → AllO x b ∨ W.heap.size ≤ b) (t : ∀ g, x'.tv.ownBlock = some g → yv.ownBlock ≠ some g)
    (BA : Below wr.heap.size wr W1) (own : W2.ownsRow w0.heap.size 64 7 v' ((wl ++ cs.map (fun k => (k, code))).length + 1) (tknsC (wl ++ cs.map (fun k => (k, code))) ++ tknC (num, code))) (gr : W1.grownBy W2 x'.uv.ownBlock) (pl : v'.ownBlock = x'.uv.ownBlock ∨ ∃ b, v'.ownBlock = some b ∧ W1.heap.size ≤ b) :
    SentI w0 W x P dl R cl wl code L yv M (cs ++ [num]) (W2.setCell ⟨x.wb, 4, none⟩ v') := by
  obtain ⟨⟨x1, e1, e2, A1, e3, o1⟩, ⟨z1, f1⟩, hk⟩ := A.wants BA own gr pl
  rw [e] at A1 z1 f1 hk
  have := h.sz
  refine ⟨⟨x1, e1.trans e, ?_, fun b hb => ?_, fun g hg => t g (e2 ▸ hg)⟩, by omega, fun b hb hO => (f1 b (by omega) (fun h' => ?_)).trans (h.fr b hb hO), hk.row h.yr (by decide), hk.blk h.ev (by decide)⟩
  · rw [List.map_append, ← List.append_assoc]; exact A1
  · rcases o1 b hb with h' | h'
    · exact o b h'
    · exact .inr (by omega)
  · rcases o b h' with h' | h'
    · exact hO h'
    · omega
theorem SentI.on {w0 W : World} {x x' : RtV} {P : List Int} {dl : List Stp} {R : List (Int × Nat)} {cl wl : List (Nat × Int)} {code : Int} {L : List (Int × Nat)} {yv : Value} {M M' : List (Int × Nat)} {cs : List Nat} {wr w' : World} (h : SentI w0 W x P dl R cl wl code L yv M cs wr) (e : x'.wb = x.wb) (A : RtAt w0 wr x' P dl R M cl (wl ++ cs.map (fun k => (k, code)))) (o : ∀ b, AllO x' b → AllO x b ∨ W.heap.size ≤ b) (t : ∀ g, x'.tv.ownBlock = some g → yv.ownBlock ≠ some g)
    (hp : RfPost w0.heap.size wr w' x'.g x'.qv x'.tv P M') : SentI w0 W x P dl R cl wl code L yv M' cs w' ∧ KeepB wr w' (fun t => t = 104 ∨ t = 135) ∧ (∀ g, yv.ownBlock = some g → w'.heap[g]? = wr.heap[g]?) := by
  obtain ⟨S2, tv', A2, C2, pl⟩ := A.refOn hp
  have := h.sz
  have hk : KeepB wr w' (fun t => t = 104 ∨ t = 135) := KeepB.of (SRf x'.g x'.tv) (fun b hb _ => by
    rcases hb with rfl | hc
    · exact ⟨_, _, _, A.re.pl, .inl rfl⟩
    · obtain ⟨cs, fr, hb⟩ := row_blk A.re.own hc
      exact ⟨_, _, _, hb, .inr rfl⟩) C2.block
  have hyk : ∀ g, yv.ownBlock = some g → w'.heap[g]? = wr.heap[g]? := fun g hg => C2.block g (row_lt h.yr g hg).1 (fun hs => by
    rcases hs with rfl | hs
    · exact row_ne_blk h.yr A.re.pl (by decide) hg
    · exact t g hs hg)
  refine ⟨⟨⟨{ x' with tv := tv' }, e, A2, fun b hb => ?_, fun g hg => ?_⟩, by have := C2.size; omega, fun b hb hO => (S2.fr b (by omega) (fun h' => ?_)).trans (h.fr b hb hO), row_keepB h.yr hyk, hk.blk h.ev (by decide)⟩, hk, hyk⟩
  · rcases hb with hb | hb | hb | hb | hb
    · exact o b (.inl hb)
    · exact o b (.inr (.inl hb))
    · exact o b (.inr (.inr (.inl hb)))
    · exact o b (.inr (.inr (.inr (.inl hb))))
    · rcases pl with e | ⟨g, e, hg⟩
      · exact o b (.inr (.inr (.inr (.inr (e ▸ hb)))))
      · rw [show ({ x' with tv := tv' } : RtV).tv = tv' from rfl, e] at hb
        injection hb with hb
        exact .inr (by omega)
  · rcases pl with e | ⟨g', e, hg'⟩
    · exact t g (e ▸ hg)
    · rw [show ({ x' with tv := tv' } : RtV).tv = tv' from rfl, e] at hg
      injection hg with hg
      intro e'
      have := (row_lt h.yr g e').1
      omega
  · rcases o b h' with h' | h'
    · exact hO h'
    · omega
def RetSent (w0 W : World) (x : RtV) (P : List Int) (dl : List Stp) (R M : List (Int × Nat)) (cl wl : List (Nat × Int)) (n : Nat) (code : Int) (e : Ending) (W' : World) : Prop := e = .returned (.int .i64 (sentR P.length dl (M, []) (wayR P M P.length n)).2) ∧ RtStep w0 W x P dl R (sentR P.length dl (M, []) (wayR P M P.length n)).1.1 cl (wl ++ (sentR P.length dl (M, []) (wayR P M P.length n)).1.2.map (fun k => (k, code))) W'
theorem wayR_mem {P : List Int} {M : List (Int × Nat)} {fu : Nat} {n : Int} {y : Int × Nat} (h : y ∈ wayR P M fu n) : y ∈ M := by
  unfold wayR ofN at h
  obtain ⟨k, _, h⟩ := List.mem_flatMap.1 h
  exact (List.mem_filter.1 h).1
theorem wayR_len (P : List Int) (M : List (Int × Nat)) : ∀ (fu : Nat) (n : Int), (wayR P M fu n).length ≤ fu * M.length
  | 0, n => by unfold wayR wayP; simp
  | fu + 1, n => by
    unfold wayR
    rw [wayP]
    split
    · simp
    · rw [List.flatMap_cons, List.length_append]
      have h1 := wayR_len P M fu (P.getD n.toNat 0)
      have h2 := ofN_len M n
      unfold wayR at h1
      rw [Nat.succ_mul]
      omega
set_option maxRecDepth 100000 in
set_option maxHeartbeats 16000000 in
theorem sent_any (w0 W : World) (x : RtV) (P : List Int) (dl : List Stp) (R M : List (Int × Nat)) (cl wl : List (Nat × Int)) (n : Nat) (code : Int) (h : RtAt w0 W x P dl R M cl wl) (hn : n < P.length) (hP : P.length ≤ 4096) (hU : UpOk P) (hM : M.length ≤ 4096) (hG : ∀ y ∈ M, y.2 < dl.length) (hdl : dl.length ≤ 67108864) (hwl : wl.length ≤ 137438953472) : Calls Try.prog 56 #[.pointer (some ⟨x.wb, 0, none⟩), .int .i64 n, .agg (evC code)] W (RetSent w0 W x P dl R M cl wl n code) := by
  obtain ⟨i0, hi, hz0, hz1, hz2⟩ := info_parts infoTaken_
  have HI := Lib.hid (And.intro hi (And.intro hz0 (And.intro hz1 hz2)))
  clear hi hz0 hz1 hz2
  have H := Lib.hid h
  have HUP := Lib.hid hU
  clear hU
  obtain ⟨L, hL⟩ : ∃ L, L = wayR P M P.length n := ⟨_, rfl⟩
  have HLM := Lib.hid (show ∀ y ∈ L, y.2 < dl.length from fun y hy => hG y (wayR_mem (hL ▸ hy)))
  have hLn : L.length ≤ 16777216 := by rw [hL]; have := wayR_len P M P.length n; have := Nat.mul_le_mul hP hM; omega
  have HPO := Lib.hid (fun (W' : World) (r : (List (Int × Nat) × List Nat) × Int) (e : r = sentR P.length dl (M, []) L) (hh : RtStep w0 W x P dl R r.1.1 cl (wl ++ r.1.2.map (fun k => (k, code))) W') => show RetSent w0 W x P dl R M cl wl n code (.returned (.int .i64 r.2)) W' from by unfold RetSent; rw [← hL, ← e]; exact ⟨rfl, hh⟩)
  have HLE := Lib.hid hL
  clear hL hG
  generalize RetSent w0 W x P dl R M cl wl n code = post at *
  clear h
  unfold evC
  obtain ⟨W1, hW1⟩ : ∃ W1, W1 = W.alloc (.cells #[.int .i8 2, .int .i32 code, .int .u8 0, .int .i64 0, .int .i64 0, .string ⟨#[101]⟩] 62) := ⟨_, rfl⟩
  have BW1 := Lib.hid (show Below W.heap.size W W1 from by rw [hW1]; exact below_al (Below.refl _ _) _)
  have EV1 := Lib.hid (show W1.heap[W.heap.size]? = some (.cells (evC code) 62 (0, 0)) from by rw [hW1]; exact heap_alloc_new _ _)
  have HA1 := Lib.hid (H.out.later BW1.out)
  have HSW := Lib.hid hW1
  clear hW1
  have h1 := HA1.out.wo
  have c1 : W1.cell? ⟨x.wb, 1, none⟩ = some (.pointer (some ⟨x.g, 0, none⟩)) := by rw [cell_of_row _ _ _ _ _ _ h1]; rfl
  have zx := lt_of_block h1
  clear h1
  go_enter Try.func56, Try.ntmps56
  go_upto_region 1 with (fail)
  rw [← HSW.out]
  clear HSW
  go_wp2_with fail
  refine (refWay_any w0.heap.size x.g x.qv x.tv P M n W1 HA1.out.re hM hP HUP.out hn).mono ?_
  rintro e w2 ⟨yv, rfl, hyr, hb2⟩
  rw [← HLE.out] at hyr
  have HB2 := Lib.hid (below_via hb2 BW1.out)
  have hz1 := BW1.out.size
  have HSI := Lib.hid (show SentI w0 W x P dl R cl wl code L yv M [] w2 from ⟨⟨x, rfl, by rw [List.map_nil, List.append_nil]; exact H.out.later HB2.out, fun b hb => .inl hb, fun g hg e => by have := (row_lt HA1.out.re.own g hg).1; have := (row_lt hyr g e).2; omega⟩, HB2.out.size, fun b hb _ => HB2.out.block b hb, row_baseG hyr hz1, (hb2.block _ (lt_of_block EV1.out)).trans EV1.out⟩)
  obtain ⟨yp, yc, rfl⟩ := row_slice hyr
  clear hyr hb2 HB2 hz1 c1 zx HA1 BW1 EV1 H HUP
  go_wp2
  go_loopw [18] (fun iv wr => ∃ (i : Nat) (g : List (Int × Nat) × List Nat), iv = .int .i64 i ∧ i ≤ L.length ∧ g.1.length ≤ 4096 ∧ g.2.length ≤ i ∧ RowKit.Hid (sentR P.length dl g (L.drop i) = sentR P.length dl (M, []) L) ∧ RowKit.Hid (SentI w0 W x P dl R cl wl code L (.slice yp L.length yc) g.1 g.2 wr)) (fun iv _ => L.length - (intOf iv).toNat)
  case atStart => exact ⟨0, (M, []), rfl, by omega, hM, Nat.zero_le _, Lib.hid rfl, HSI⟩
  case round =>
    clear HSI
    obtain ⟨i, ⟨M1, cs⟩, rfl, hi, hM1, hcs, HSR, HSI⟩ := hrel
    simp only at hM1 hcs HSI
    by_cases hlt : i < L.length
    · have hii : (i : Int) < (L.length : Int) := by omega
      obtain ⟨x1, e1, A1, o1, t1⟩ := HSI.out.st
      have HA1 := Lib.hid A1
      have HOT := Lib.hid (And.intro o1 t1)
      clear A1 o1 t1
      obtain ⟨pu, ku, huv⟩ := row_slice HA1.out.ur
      obtain ⟨wl1, hwl1⟩ : ∃ l, l = wl ++ cs.map (fun k => (k, code)) := ⟨_, rfl⟩
      have hwn : wl1.length ≤ 137455730688 := by rw [hwl1, List.length_append, List.length_map]; omega
      have HWL := Lib.hid hwl1
      rw [← hwl1] at HA1 huv
      clear hwl1
      obtain ⟨yb, rfl, hyt, hyz⟩ : ∃ b, yp = some ⟨b, 0, none⟩ ∧ (∀ w' : World, w'.heap[b]? = wr.heap[b]? → ∀ j v, (tksC L)[j]? = some v → w'.cell? ⟨b, j, none⟩ = some v) ∧ b < wr.heap.size := by
        rcases row_form HSI.out.yr with ⟨_, h0, _⟩ | ⟨b, c, e, _, _, h3, _⟩
        · omega
        · cases e
          refine ⟨b, rfl, fun w' hw j v hv => ?_, h3⟩
          have h1 : w'.ownsRow W.heap.size 135 2 (.slice (some ⟨b, 0, none⟩) L.length yc) L.length (tksC L) := row_keepB HSI.out.yr (fun g hg => by injection hg with hg; subst hg; exact hw)
          have := row_cells h1 j v hv
          rwa [Nat.zero_add] at this
      have ct := tksC_get L i hlt
      have HLG := Lib.hid (HLM.out (L.getD i (0, 0)) (by rw [List.getD_eq_getElem?_getD, List.getElem?_eq_getElem hlt]; exact List.getElem_mem hlt))
      have HDR := Lib.hid (show L.drop i = L.getD i (0, 0) :: L.drop (i + 1) by rw [drop_at hlt, getD_at (0, 0) hlt])
      generalize L.getD i (0, 0) = y at *
      obtain ⟨kn, num⟩ := y
      simp only at ct
      have hnum : num < dl.length := HLG.out
      have HYC := Lib.hid (fun (w' : World) (hw : w'.heap[yb]? = wr.heap[yb]?) => And.intro (hyt w' hw _ _ ct.1) (hyt w' hw _ _ ct.2))
      clear ct hyt HLG
      have zwo := lt_of_block HA1.out.wo
      rw [e1] at zwo
      have zev := lt_of_block HSI.out.ev
      have HS := Lib.hid (fun (w' : World) (hh : w'.heap[x.wb]? = wr.heap[x.wb]? ∧ w'.heap[yb]? = wr.heap[yb]? ∧ w'.heap[W.heap.size]? = wr.heap[W.heap.size]?) => show (x.wb < w'.heap.size ∧ yb < w'.heap.size ∧ W.heap.size < w'.heap.size ∧ w'.cell? ⟨x.wb, 4, none⟩ = some (.slice pu wl1.length ku) ∧ w'.frozen? ⟨x.wb, 4, none⟩ = false ∧ w'.cell? ⟨yb, i * 2, none⟩ = some (.int .i64 kn) ∧ w'.cell? ⟨yb, i * 2 + 1, none⟩ = some (.int .i64 num) ∧ w'.cell? ⟨W.heap.size, 0, none⟩ = some (.int .i8 2) ∧ w'.cell? ⟨W.heap.size, 1, none⟩ = some (.int .i32 code) ∧ w'.cell? ⟨W.heap.size, 2, none⟩ = some (.int .u8 0) ∧ w'.cell? ⟨W.heap.size, 3, none⟩ = some (.int .i64 0) ∧ w'.cell? ⟨W.heap.size, 4, none⟩ = some (.int .i64 0) ∧ w'.cell? ⟨W.heap.size, 5, none⟩ = some (.string ⟨#[101]⟩)) from by
        obtain ⟨h1, h2, h4⟩ := hh
        have hy := HYC.out w' h2
        have zy : yb < w'.heap.size := by
          rw [Array.getElem?_eq_getElem hyz] at h2
          exact (Array.getElem?_eq_some_iff.1 h2).1
        replace h1 := h1.trans (e1 ▸ HA1.out.wo)
        replace h4 := h4.trans HSI.out.ev
        rw [huv] at h1
        unfold evC at h4
        refine ⟨lt_of_block h1, zy, lt_of_block h4, ?_, frozen_of_row _ _ _ _ _ h1, hy.1, hy.2, ?_, ?_, ?_, ?_, ?_, ?_⟩ <;> first | (rw [cell_of_row _ _ _ _ _ _ h1]; rfl) | (rw [cell_of_row _ _ _ _ _ _ h4]; rfl))
      go_upto_region 5 with (fail)
      have HSD := Lib.hid (show wr.drew.heap[x.wb]? = wr.heap[x.wb]? ∧ wr.drew.heap[yb]? = wr.heap[yb]? ∧ wr.drew.heap[W.heap.size]? = wr.heap[W.heap.size]? from ⟨rfl, rfl, rfl⟩)
      refine wp_region_noPanic ?_
      refine wp_region_Z (fun w' => w'.heap[x.wb]? = wr.heap[x.wb]? ∧ w'.heap[yb]? = wr.heap[yb]? ∧ w'.heap[W.heap.size]? = wr.heap[W.heap.size]?) 16 (by kernel_rfl) ?_
      change wpAnyZ _ _ _ _ _ _ 17 (Array.replicate 17 false) _ _
      refine wpAnyZ_take [15, 14] (i := 0) (v := ?va0) (by simp only [List.getElem?_toArray, List.getElem?_cons_succ, List.getElem?_cons_zero]; rfl) (by decide +kernel) (fun _ _ _ h => h) (by rfl) ?ta0 ?sa0 ?_
      case ta0 => (intro w' h; clear h; go_simp; try rfl)
      case sa0 => exact HSD.out
      (try simp only [Act.put, List.setIfInBounds_toArray, List.set_cons_zero, List.set_cons_succ])
      refine wpAnyZ_take [13, 4, 3, 2] (i := 1) (v := ?va1) (by simp only [List.getElem?_toArray, List.getElem?_cons_succ, List.getElem?_cons_zero]; rfl) (by decide +kernel) (fun _ _ _ h => h) (by rfl) ?ta1 ?sa1 ?_
      case ta1 => (intro w' h; clear h; go_simp; try rfl)
      case sa1 => exact HSD.out
      (try simp only [Act.put, List.setIfInBounds_toArray, List.set_cons_zero, List.set_cons_succ])
      refine wpAnyZ_take [13, 4, 3] (i := 2) (v := ?va2) (by simp only [List.getElem?_toArray, List.getElem?_cons_succ, List.getElem?_cons_zero]; rfl) (by decide +kernel) (fun _ _ _ h => h) (by rfl) ?ta2 ?sa2 ?_
      case ta2 => (intro w' h; have FK := HS.out w' h; clear h; go_split_ands; go_simp; try rfl)
      case sa2 => exact HSD.out
      (try simp only [Act.put, List.setIfInBounds_toArray, List.set_cons_zero, List.set_cons_succ])
      refine wpAnyZ_take [13, 4] (i := 3) (v := ?va3) (by simp only [List.getElem?_toArray, List.getElem?_cons_succ, List.getElem?_cons_zero]; rfl) (by decide +kernel) (fun _ _ _ h => h) (by rfl) ?ta3 ?sa3 ?_
      case ta3 => (intro w' h; clear h; go_simp; try rfl)
      case sa3 => exact HSD.out
      (try simp only [Act.put, List.setIfInBounds_toArray, List.set_cons_zero, List.set_cons_succ])
      refine wpAnyZ_take [13] (i := 4) (v := ?va4) (by simp only [List.getElem?_toArray, List.getElem?_cons_succ, List.getElem?_cons_zero]; rfl) (by decide +kernel) (fun _ _ _ h => h) (by rfl) ?ta4 ?sa4 ?_
      case ta4 => (intro w' h; have FK := HS.out w' h; clear h; go_split_ands; go_simp; try rfl)
      case sa4 => exact HSD.out
      (try simp only [Act.put, List.setIfInBounds_toArray, List.set_cons_zero, List.set_cons_succ])
      refine wpAnyZ_take [13, 12, 11, 9, 8, 7] (i := 5) (v := ?va5) (by simp only [List.getElem?_toArray, List.getElem?_cons_succ, List.getElem?_cons_zero]; rfl) (by decide +kernel) (fun _ _ _ h => h) (by rfl) ?ta5 ?sa5 ?_
      case ta5 => (intro w' h; clear h; go_simp; try rfl)
      case sa5 => exact HSD.out
      (try simp only [Act.put, List.setIfInBounds_toArray, List.set_cons_zero, List.set_cons_succ])
      refine wpAnyZ_take [13, 12, 11, 9, 8, 7] (i := 6) (v := ?va6) (by simp only [List.getElem?_toArray, List.getElem?_cons_succ, List.getElem?_cons_zero]; rfl) (by decide +kernel) (fun _ _ _ h => h) (by rfl) ?ta6 ?sa6 ?_
      case ta6 => (intro w' h; clear h; go_simp; try rfl)
      case sa6 => exact HSD.out
      (try simp only [Act.put, List.setIfInBounds_toArray, List.set_cons_zero, List.set_cons_succ])
      refine wpAnyZ_take [13, 12, 11, 9, 8] (i := 7) (v := ?va7) (by simp only [List.getElem?_toArray, List.getElem?_cons_succ, List.getElem?_cons_zero]; rfl) (by decide +kernel) (fun _ _ _ h => h) (by rfl) ?ta7 ?sa7 ?_
      case ta7 => (intro w' h; have FK := HS.out w' h; clear h; go_split_ands; go_simp; try rfl)
      case sa7 => exact HSD.out
      (try simp only [Act.put, List.setIfInBounds_toArray, List.set_cons_zero, List.set_cons_succ])
      refine wpAnyZ_take [13, 12, 11, 9] (i := 8) (v := ?va8) (by simp only [List.getElem?_toArray, List.getElem?_cons_succ, List.getElem?_cons_zero]; rfl) (by decide +kernel) (fun _ _ _ h => h) (by rfl) ?ta8 ?sa8 ?_
      case ta8 => (intro w' h; clear h; go_simp; try rfl)
      case sa8 => exact HSD.out
      (try simp only [Act.put, List.setIfInBounds_toArray, List.set_cons_zero, List.set_cons_succ])
      refine wpAnyZ_take [13, 12, 11] (i := 9) (v := ?va9) (by simp only [List.getElem?_toArray, List.getElem?_cons_succ, List.getElem?_cons_zero]; rfl) (by decide +kernel) (fun _ _ _ h => h) (by rfl) ?ta9 ?sa9 ?_
      case ta9 => (intro w' h; have FK := HS.out w' h; clear h; go_split_ands; go_simp; try rfl)
      case sa9 => exact HSD.out
      (try simp only [Act.put, List.setIfInBounds_toArray, List.set_cons_zero, List.set_cons_succ])
      refine wpAnyZ_take [13, 12, 11] (i := 10) (v := ?va10) (by simp only [List.getElem?_toArray, List.getElem?_cons_succ, List.getElem?_cons_zero]; rfl) (by decide +kernel) (fun _ _ _ h => h) (by rfl) ?ta10 ?sa10 ?_
      case ta10 => (intro w' h; have FK := HS.out w' h; clear h; go_split_ands; go_simp; try rfl)
      case sa10 => exact HSD.out
      (try simp only [Act.put, List.setIfInBounds_toArray, List.set_cons_zero, List.set_cons_succ])
      refine wpAnyZ_take [13, 12] (i := 11) (v := ?va11) (by simp only [List.getElem?_toArray, List.getElem?_cons_succ, List.getElem?_cons_zero]; rfl) (by decide +kernel) (fun _ _ _ h => h) (by rfl) ?ta11 ?sa11 ?_
      case ta11 => (intro w' h; clear h; go_simp; try rfl)
      case sa11 => exact HSD.out
      (try simp only [Act.put, List.setIfInBounds_toArray, List.set_cons_zero, List.set_cons_succ])
      obtain ⟨w8, hw8⟩ : ∃ t, t = wr.drew.alloc (.cells #[.int .i64 num, .int .i8 2, .int .i32 code, .int .u8 0, .int .i64 0, .int .i64 0, .string ⟨#[101]⟩] 64) := ⟨_, rfl⟩
      have HB8 := Lib.hid (show Below wr.heap.size wr w8 from by rw [hw8]; exact below_al (Below.drew (Below.refl _ _)) _)
      have HS8 := Lib.hid (show w8.heap[x.wb]? = wr.heap[x.wb]? ∧ w8.heap[yb]? = wr.heap[yb]? ∧ w8.heap[W.heap.size]? = wr.heap[W.heap.size]? from ⟨HB8.out.block _ zwo, HB8.out.block _ hyz, HB8.out.block _ zev⟩)
      have HN8 := Lib.hid (show w8.heap[wr.heap.size]? = some (.cells #[.int .i64 num, .int .i8 2, .int .i32 code, .int .u8 0, .int .i64 0, .int .i64 0, .string ⟨#[101]⟩] 64 (0, 0)) from by rw [hw8]; exact heap_alloc_new _ _)
      have hz8 : w8.heap.size = wr.heap.size + 1 := by rw [hw8]; simp
      have HW8 := Lib.hid hw8
      clear hw8
      have HOX := Lib.hid (show w8.ownsRow w0.heap.size 64 7 (.slice pu wl1.length ku) wl1.length (tknsC wl1) from by have := row_later HA1.out.ur HB8.out; rwa [huv] at this)
      have HON := Lib.hid (show ∀ u ∈ [Value.int .i64 num, Value.int .i8 2, Value.int .i32 code, Value.int .u8 0, Value.int .i64 0, Value.int .i64 0, Value.string ⟨#[101]⟩], u.oneCell' = true from fun u hu => by simp at hu; rcases hu with rfl | rfl | rfl | rfl | rfl | rfl | rfl <;> rfl)
      refine wpAnyZ_one (i := 12) (by decide +kernel) ?_
      refine wpOpK_value (v := .slice (some ⟨wr.heap.size, 0, none⟩) 1 1) (w' := w8) (by simp only [List.getElem?_toArray, List.getElem?_cons_succ, List.getElem?_cons_zero]; rfl) (by rfl) ?ma12 ⟨.inr HS8.out, ?_⟩
      case ma12 => (rw [HW8.out]; go_simp; try rfl)
      (try simp only [Act.put, List.setIfInBounds_toArray, List.set_cons_zero, List.set_cons_succ])
      refine wpAnyZ_one (i := 13) (by decide +kernel) ?_
      refine wpOpK_append (by simp only [List.getElem?_toArray, List.getElem?_cons_succ, List.getElem?_cons_zero]; rfl) rfl (.tmp 25) (.tmp 33) 55 rfl w0.heap.size 64 i0 _ 7 56 Try.underlying55 HI.out.1 HI.out.2.1 HI.out.2.2.1 HI.out.2.2.2 rfl (by decide) _ wl1.length _ (by rfl) HOX.out ⟨wr.heap.size, 0, none⟩ 1 1 [.int .i64 num, .int .i8 2, .int .i32 code, .int .u8 0, .int .i64 0, .int .i64 0, .string ⟨#[101]⟩] (by rfl) rfl (World.news_of_block (cs := #[.int .i64 num, .int .i8 2, .int .i32 code, .int .u8 0, .int .i64 0, .int .i64 0, .string ⟨#[101]⟩]) (t := 64) (fr := (0, 0)) HN8.out) HON.out (by omega) ?h63 ?hby ?hbs ?_
      case h63 => (unfold maxLen; omega)
      case hby => omega
      case hbs => first | (have := HA1.out.ro.be.size; simp; omega)
      intro g cap W2 own gr hg hlt
      have HA9 := Lib.hid own
      have HG9 := Lib.hid gr
      have HL9 := Lib.hid hg
      have HS9 := Lib.hid (show W2.heap[x.wb]? = wr.heap[x.wb]? ∧ W2.heap[yb]? = wr.heap[yb]? ∧ W2.heap[W.heap.size]? = wr.heap[W.heap.size]? from by
        have n1 := row_ne_blk HA1.out.ur HA1.out.wo (by decide)
        have n2 : x1.uv.ownBlock ≠ some yb := fun e => by obtain ⟨cs, fr, hb⟩ := row_blk HSI.out.yr rfl; exact row_ne_blk HA1.out.ur hb (by decide) e
        have n4 := row_ne_blk HA1.out.ur HSI.out.ev (by decide)
        rw [huv] at n1 n2 n4
        rw [e1] at n1
        exact ⟨(gr.block _ (by omega) (fun e => n1 e.symm)).trans HS8.out.1, (gr.block _ (by omega) (fun e => n2 e.symm)).trans HS8.out.2.1, (gr.block _ (by omega) (fun e => n4 e.symm)).trans HS8.out.2.2⟩)
      clear own gr hg hlt
      refine ⟨.inr HS9.out, ?_⟩
      (try simp only [Act.put, List.setIfInBounds_toArray, List.set_cons_zero, List.set_cons_succ])
      refine wpAnyZ_take [15] (i := 14) (v := ?va14) (by simp only [List.getElem?_toArray, List.getElem?_cons_succ, List.getElem?_cons_zero]; rfl) (by decide +kernel) (fun _ _ _ h => h) (by rfl) ?ta14 ?sa14 ?_
      case ta14 => (intro w' h; have FK := HS.out w' h; clear h; go_split_ands; go_simp; try rfl)
      case sa14 => exact HS9.out
      (try simp only [Act.put, List.setIfInBounds_toArray, List.set_cons_zero, List.set_cons_succ])
      refine wpAnyZ_take [] (i := 15) (v := ?va15) (by simp only [List.getElem?_toArray, List.getElem?_cons_succ, List.getElem?_cons_zero]; rfl) (by decide +kernel) (fun _ _ _ h => h) (by rfl) ?ta15 ?sa15 ?_
      case ta15 => (intro w' h; clear h; go_simp; try rfl)
      case sa15 => exact HS9.out
      (try simp only [Act.put, List.setIfInBounds_toArray, List.set_cons_zero, List.set_cons_succ])
      obtain ⟨y0, y1, y2, y3, d0, _⟩ := HS.out W2 HS9.out
      refine wpAnyZ_one (i := 16) (by decide +kernel) ?_
      refine wpOpK_skip (w' := W2.setCell ⟨x.wb, 4, none⟩ (.slice (some ⟨g, 0, none⟩) (wl1.length + 1) cap)) (by simp only [List.getElem?_toArray, List.getElem?_cons_succ, List.getElem?_cons_zero]; rfl) (by rfl) ?ma16 ⟨.inl rfl, ?_⟩
      case ma16 => (go_simp; try rfl)
      (try simp only [Act.put, List.setIfInBounds_toArray, List.set_cons_zero, List.set_cons_succ])
      refine wpAnyZ_done (by kernel_rfl) (NoPanic.normal ?_) _
      have HS3 := Lib.hid (show SentI w0 W x P dl R cl wl code L (.slice (some ⟨yb, 0, none⟩) L.length yc) M1 (cs ++ [num]) (W2.setCell ⟨x.wb, 4, none⟩ (.slice (some ⟨g, 0, none⟩) (wl1.length + 1) cap)) from
        HSI.out.want e1 (by rw [← HWL.out]; exact HA1.out) HOT.out.1 HOT.out.2 HB8.out (by rw [← HWL.out]; exact HA9.out) (by rw [huv]; exact HG9.out) (by rw [huv]; exact HL9.out.imp (fun h => h.symm) fun h => ⟨_, rfl, Nat.le_of_eq h.symm⟩))
      obtain ⟨w3, hw3⟩ : ∃ z, z = W2.setCell ⟨x.wb, 4, none⟩ (.slice (some ⟨g, 0, none⟩) (wl1.length + 1) cap) := ⟨_, rfl⟩
      rw [← hw3] at HS3 ⊢
      have HY3 := Lib.hid (show w3.heap[yb]? = wr.heap[yb]? from by
        obtain ⟨q1, q2, hb⟩ := row_blk HSI.out.yr rfl
        rw [hw3, Below.heap_setCell _ _ _ _ (show yb ≠ x.wb from blk_ne hb (e1 ▸ HA1.out.wo) (by decide))]
        exact HS9.out.2.1)
      clear hw3 y0 y1 y2 y3 d0 HSD HS HB8 HS8 HN8 hz8 HW8 HOX HON HA9 HG9 HL9 HS9 huv hwn HWL HA1 HOT zwo zev e1 HSI
      obtain ⟨x1, e1, A1, o1, t1⟩ := HS3.out.st
      have HA1 := Lib.hid A1
      have HOT := Lib.hid (And.intro o1 t1)
      clear A1 o1 t1
      obtain ⟨db, dc, hdv, zdb, hdc⟩ := HA1.out.step hnum
      obtain ⟨s, hs⟩ : ∃ s, s = dl.getD num zStp := ⟨_, rfl⟩
      rw [← hs] at hdc
      have HTK := Lib.hid (show takeS P.length dl (M1, cs) num = ((if s.puts then onR P.length M1 s.more (num + 1) else M1, cs ++ [num]), s.yes) from by unfold takeS; rw [← hs])
      clear hs
      have hyz3 : yb < w3.heap.size := by have := HY3.out; rw [Array.getElem?_eq_getElem hyz] at this; exact (Array.getElem?_eq_some_iff.1 this).1
      have HS := Lib.hid (fun (w' : World) (hh : w'.heap[x.wb]? = w3.heap[x.wb]? ∧ w'.heap[yb]? = w3.heap[yb]? ∧ w'.heap[db]? = w3.heap[db]?) => show (x.wb < w'.heap.size ∧ yb < w'.heap.size ∧ db < w'.heap.size ∧ w'.cell? ⟨x.wb, 2, none⟩ = some (.slice (some ⟨db, 0, none⟩) dl.length dc) ∧ w'.cell? ⟨yb, i * 2, none⟩ = some (.int .i64 kn) ∧ w'.cell? ⟨yb, i * 2 + 1, none⟩ = some (.int .i64 num) ∧ w'.cell? ⟨db, num * 6, none⟩ = some (.int .i64 s.do_) ∧ w'.cell? ⟨db, num * 6 + 1, none⟩ = some (.int .i64 s.n) ∧ w'.cell? ⟨db, num * 6 + 2, none⟩ = some (.int .i64 s.more) ∧ w'.cell? ⟨db, num * 6 + 3, none⟩ = some (.bool s.yes) ∧ w'.cell? ⟨db, num * 6 + 4, none⟩ = some (.bool s.puts) ∧ w'.cell? ⟨db, num * 6 + 5, none⟩ = some (.int .i32 s.e)) from by
        obtain ⟨h1, h2, h4⟩ := hh
        have hy := HYC.out w' (h2.trans HY3.out)
        have a := hdc w' h4
        have zy : yb < w'.heap.size := by
          rw [Array.getElem?_eq_getElem hyz3] at h2
          exact (Array.getElem?_eq_some_iff.1 h2).1
        have zd : db < w'.heap.size := by
          rw [Array.getElem?_eq_getElem zdb] at h4
          exact (Array.getElem?_eq_some_iff.1 h4).1
        replace h1 := h1.trans (e1 ▸ HA1.out.wo)
        rw [hdv] at h1
        exact ⟨lt_of_block h1, zy, zd, by rw [cell_of_row _ _ _ _ _ _ h1]; rfl, hy.1, hy.2, a 0 _ rfl, a 1 _ rfl, a 2 _ rfl, a 3 _ rfl, a 4 _ rfl, a 5 _ rfl⟩)
      clear hdc
      have hnn : (num : Int) < (dl.length : Int) := by omega
      have zwo := lt_of_block HA1.out.wo
      rw [e1] at zwo
      go_upto_region 6 with (fail)
      have HSD := Lib.hid (show w3.drew.heap[x.wb]? = w3.heap[x.wb]? ∧ w3.drew.heap[yb]? = w3.heap[yb]? ∧ w3.drew.heap[db]? = w3.heap[db]? from ⟨rfl, rfl, rfl⟩)
      refine wp_region_noPanic ?_
      refine wp_region_Z (fun w' => w'.heap[x.wb]? = w3.heap[x.wb]? ∧ w'.heap[yb]? = w3.heap[yb]? ∧ w'.heap[db]? = w3.heap[db]?) 12 (by kernel_rfl) ?_
      change wpAnyZ _ _ _ _ _ _ 13 (Array.replicate 13 false) _ _
      refine wpAnyZ_take [10, 9, 3, 2, 1] (i := 0) (v := ?vb0) (by simp only [List.getElem?_toArray, List.getElem?_cons_succ, List.getElem?_cons_zero]; rfl) (by decide +kernel) (fun _ _ _ h => h) (by rfl) ?tb0 ?sb0 ?_
      case tb0 => (intro w' h; clear h; go_simp; try rfl)
      case sb0 => exact HSD.out
      (try simp only [Act.put, List.setIfInBounds_toArray, List.set_cons_zero, List.set_cons_succ])
      refine wpAnyZ_take [10, 9, 3, 2] (i := 1) (v := ?vb1) (by simp only [List.getElem?_toArray, List.getElem?_cons_succ, List.getElem?_cons_zero]; rfl) (by decide +kernel) (fun _ _ _ h => h) (by rfl) ?tb1 ?sb1 ?_
      case tb1 => (intro w' h; have FK := HS.out w' h; clear h; go_split_ands; go_simp; try rfl)
      case sb1 => exact HSD.out
      (try simp only [Act.put, List.setIfInBounds_toArray, List.set_cons_zero, List.set_cons_succ])
      refine wpAnyZ_take [10, 9, 3] (i := 2) (v := ?vb2) (by simp only [List.getElem?_toArray, List.getElem?_cons_succ, List.getElem?_cons_zero]; rfl) (by decide +kernel) (fun _ _ _ h => h) (by rfl) ?tb2 ?sb2 ?_
      case tb2 => (intro w' h; clear h; go_simp; try rfl)
      case sb2 => exact HSD.out
      (try simp only [Act.put, List.setIfInBounds_toArray, List.set_cons_zero, List.set_cons_succ])
      refine wpAnyZ_take [10, 9] (i := 3) (v := ?vb3) (by simp only [List.getElem?_toArray, List.getElem?_cons_succ, List.getElem?_cons_zero]; rfl) (by decide +kernel) (fun _ _ _ h => h) (by rfl) ?tb3 ?sb3 ?_
      case tb3 => (intro w' h; have FK := HS.out w' h; clear h; go_split_ands; go_simp; try rfl)
      case sb3 => exact HSD.out
      (try simp only [Act.put, List.setIfInBounds_toArray, List.set_cons_zero, List.set_cons_succ])
      refine wpAnyZ_take [10, 9, 8, 7, 6] (i := 4) (v := ?vb4) (by simp only [List.getElem?_toArray, List.getElem?_cons_succ, List.getElem?_cons_zero]; rfl) (by decide +kernel) (fun _ _ _ h => h) (by rfl) ?tb4 ?sb4 ?_
      case tb4 => (intro w' h; clear h; go_simp; try rfl)
      case sb4 => exact HSD.out
      (try simp only [Act.put, List.setIfInBounds_toArray, List.set_cons_zero, List.set_cons_succ])
      refine wpAnyZ_take [10, 9, 8, 7, 6] (i := 5) (v := ?vb5) (by simp only [List.getElem?_toArray, List.getElem?_cons_succ, List.getElem?_cons_zero]; rfl) (by decide +kernel) (fun _ _ _ h => h) (by rfl) ?tb5 ?sb5 ?_
      case tb5 => (intro w' h; clear h; go_simp; try rfl)
      case sb5 => exact HSD.out
      (try simp only [Act.put, List.setIfInBounds_toArray, List.set_cons_zero, List.set_cons_succ])
      refine wpAnyZ_take [10, 9, 8, 7] (i := 6) (v := ?vb6) (by simp only [List.getElem?_toArray, List.getElem?_cons_succ, List.getElem?_cons_zero]; rfl) (by decide +kernel) (fun _ _ _ h => h) (by rfl) ?tb6 ?sb6 ?_
      case tb6 => (intro w' h; have FK := HS.out w' h; clear h; go_split_ands; go_simp; try rfl)
      case sb6 => exact HSD.out
      (try simp only [Act.put, List.setIfInBounds_toArray, List.set_cons_zero, List.set_cons_succ])
      refine wpAnyZ_take [10, 9, 8] (i := 7) (v := ?vb7) (by simp only [List.getElem?_toArray, List.getElem?_cons_succ, List.getElem?_cons_zero]; rfl) (by decide +kernel) (fun _ _ _ h => h) (by rfl) ?tb7 ?sb7 ?_
      case tb7 => (intro w' h; clear h; go_simp; try rfl)
      case sb7 => exact HSD.out
      (try simp only [Act.put, List.setIfInBounds_toArray, List.set_cons_zero, List.set_cons_succ])
      refine wpAnyZ_take [10, 9] (i := 8) (v := ?vb8) (by simp only [List.getElem?_toArray, List.getElem?_cons_succ, List.getElem?_cons_zero]; rfl) (by decide +kernel) (fun _ _ _ h => h) (by rfl) ?tb8 ?sb8 ?_
      case tb8 => (intro w' h; have FK := HS.out w' h; clear h; go_split_ands; go_simp; try rfl)
      case sb8 => exact HSD.out
      (try simp only [Act.put, List.setIfInBounds_toArray, List.set_cons_zero, List.set_cons_succ])
      refine wpAnyZ_take [10] (i := 9) (v := ?vb9) (by simp only [List.getElem?_toArray, List.getElem?_cons_succ, List.getElem?_cons_zero]; rfl) (by decide +kernel) (fun _ _ _ h => h) (by rfl) ?tb9 ?sb9 ?_
      case tb9 => (intro w' h; have FK := HS.out w' h; clear h; go_split_ands; go_simp; try rfl)
      case sb9 => exact HSD.out
      (try simp only [Act.put, List.setIfInBounds_toArray, List.set_cons_zero, List.set_cons_succ])
      refine wpAnyZ_take [] (i := 10) (v := ?vb10) (by simp only [List.getElem?_toArray, List.getElem?_cons_succ, List.getElem?_cons_zero]; rfl) (by decide +kernel) (fun _ _ _ h => h) (by rfl) ?tb10 ?sb10 ?_
      case tb10 => (intro w' h; have FK := HS.out w' h; clear h; go_split_ands; go_simp; try rfl)
      case sb10 => exact HSD.out
      (try simp only [Act.put, List.setIfInBounds_toArray, List.set_cons_zero, List.set_cons_succ])
      have zt : w3.heap.size < (w3.drew.alloc (.cells #[.int .i64 0, .int .i64 0, .int .i64 0, .bool false, .bool false, .int .i32 0] 60)).heap.size := by simp
      have HS7 := Lib.hid (show (w3.drew.alloc (.cells #[.int .i64 0, .int .i64 0, .int .i64 0, .bool false, .bool false, .int .i32 0] 60)).heap[x.wb]? = w3.heap[x.wb]? ∧ (w3.drew.alloc (.cells #[.int .i64 0, .int .i64 0, .int .i64 0, .bool false, .bool false, .int .i32 0] 60)).heap[yb]? = w3.heap[yb]? ∧ (w3.drew.alloc (.cells #[.int .i64 0, .int .i64 0, .int .i64 0, .bool false, .bool false, .int .i32 0] 60)).heap[db]? = w3.heap[db]? from ⟨heap_alloc_old _ _ zwo, heap_alloc_old _ _ hyz3, heap_alloc_old _ _ zdb⟩)
      refine wpAnyZ_one (i := 11) (by decide +kernel) ?_
      refine wpOpK_value (v := .pointer (some ⟨w3.heap.size, 0, none⟩)) (w' := w3.drew.alloc (.cells #[.int .i64 0, .int .i64 0, .int .i64 0, .bool false, .bool false, .int .i32 0] 60)) (by simp only [List.getElem?_toArray, List.getElem?_cons_succ, List.getElem?_cons_zero]; rfl) (by rfl) ?mb11 ⟨.inr HS7.out, ?_⟩
      case mb11 => (go_simp; try rfl)
      (try simp only [Act.put, List.setIfInBounds_toArray, List.set_cons_zero, List.set_cons_succ])
      refine wpAnyZ_one (i := 12) (by decide +kernel) ?_
      refine wpOpK_skip (w' := (w3.alloc (.cells #[.int .i64 s.do_, .int .i64 s.n, .int .i64 s.more, .bool s.yes, .bool s.puts, .int .i32 s.e] 60)).drew) (by simp only [List.getElem?_toArray, List.getElem?_cons_succ, List.getElem?_cons_zero]; rfl) (by rfl) ?mb12 ⟨.inl rfl, ?_⟩
      case mb12 => (go_simp; try rfl)
      (try simp only [Act.put, List.setIfInBounds_toArray, List.set_cons_zero, List.set_cons_succ])
      refine wpAnyZ_done (by kernel_rfl) (NoPanic.normal ?_) _
      obtain ⟨w4, hw4⟩ : ∃ z, z = (w3.alloc (.cells #[.int .i64 s.do_, .int .i64 s.n, .int .i64 s.more, .bool s.yes, .bool s.puts, .int .i32 s.e] 60)).drew := ⟨_, rfl⟩
      have B4 := Lib.hid (show Below w3.heap.size w3 w4 from by rw [hw4]; exact Below.drew (below_al (Below.refl _ _) _))
      have T4 := Lib.hid (show w4.heap[w3.heap.size]? = some (.cells #[.int .i64 s.do_, .int .i64 s.n, .int .i64 s.more, .bool s.yes, .bool s.puts, .int .i32 s.e] 60 (0, 0)) from by rw [hw4]; exact heap_alloc_new _ _)
      rw [← hw4]
      have zw4 := lt_of_block T4.out
      have HA4 := Lib.hid (HA1.out.later B4.out)
      have HI4 := Lib.hid (HS3.out.later B4.out)
      have HY4 := Lib.hid ((B4.out.block _ hyz3).trans HY3.out)
      have HU := Lib.hid (fun (w' : World) (hh : w'.heap[w3.heap.size]? = w4.heap[w3.heap.size]?) (h2 : w'.heap[yb]? = w4.heap[yb]?) => show (w3.heap.size < w'.heap.size ∧ yb < w'.heap.size ∧ w'.cell? ⟨w3.heap.size, 2, none⟩ = some (.int .i64 s.more) ∧ w'.cell? ⟨w3.heap.size, 3, none⟩ = some (.bool s.yes) ∧ w'.cell? ⟨w3.heap.size, 4, none⟩ = some (.bool s.puts) ∧ w'.cell? ⟨yb, i * 2, none⟩ = some (.int .i64 kn) ∧ w'.cell? ⟨yb, i * 2 + 1, none⟩ = some (.int .i64 num)) from by
        replace hh := hh.trans T4.out
        have hy := HYC.out w' (h2.trans HY4.out)
        have zy : yb < w'.heap.size := by
          have h3 := h2.trans HY4.out
          rw [Array.getElem?_eq_getElem hyz] at h3
          exact (Array.getElem?_eq_some_iff.1 h3).1
        refine ⟨lt_of_block hh, zy, ?_, ?_, ?_, hy.1, hy.2⟩ <;> (rw [cell_of_row _ _ _ _ _ _ hh]; rfl))
      clear hw4 HSD HS7 HS zt
      obtain ⟨u0, u1, u2, u3, u4, u5, u6⟩ := HU.out w4 rfl rfl
      have HEND := Lib.hid (fun (r : (List (Int × Nat) × List Nat) × Int) (hr : sentR P.length dl (M1, cs) (L.drop i) = r) => show r = sentR P.length dl (M, []) L from by rw [← HSR.out, hr])
      obtain ⟨pu, hpu⟩ : ∃ b, b = s.puts := ⟨_, rfl⟩
      rw [← hpu] at HU HTK u4
      clear hpu
      obtain ⟨py, hpy⟩ : ∃ b, b = s.yes := ⟨_, rfl⟩
      rw [← hpy] at HU HTK u3
      clear hpy
      cases pu
      case false =>
        cases py
        case true =>
          go_wp2
          exact HPO.out _ ((M1, cs ++ [num]), kn) (HEND.out _ (by rw [HDR.out, sentR, HTK.out]; simp)) HI4.out.step
        case false =>
          go_wp2
          go_roundw
          case rel => exact ⟨i + 1, (M1, cs ++ [num]), by go_num, by omega, hM1, by simp; omega, Lib.hid (by rw [← HSR.out, HDR.out]; rw [sentR, HTK.out]; simp), HI4⟩
          case measure => simp [intOf] <;> omega
      case true =>
        have zw41 := lt_of_block HA4.out.wo
        rw [e1] at zw41
        have HY41 := Lib.hid (show yb < w4.heap.size from u1)
        have HS := Lib.hid (fun (w' : World) (hh : w'.heap[x.wb]? = w4.heap[x.wb]? ∧ w'.heap[yb]? = w4.heap[yb]? ∧ w'.heap[w3.heap.size]? = w4.heap[w3.heap.size]?) => show (x.wb < w'.heap.size ∧ yb < w'.heap.size ∧ w3.heap.size < w'.heap.size ∧ w'.cell? ⟨x.wb, 1, none⟩ = some (.pointer (some ⟨x1.g, 0, none⟩)) ∧ w'.cell? ⟨yb, i * 2, none⟩ = some (.int .i64 kn) ∧ w'.cell? ⟨yb, i * 2 + 1, none⟩ = some (.int .i64 num) ∧ w'.cell? ⟨w3.heap.size, 2, none⟩ = some (.int .i64 s.more)) from by
          obtain ⟨h1, h2, h3⟩ := hh
          obtain ⟨v0, v1, v2, _, _, v5, v6⟩ := HU.out w' h3 h2
          replace h1 := h1.trans (e1 ▸ HA4.out.wo)
          exact ⟨lt_of_block h1, v1, v0, by rw [cell_of_row _ _ _ _ _ _ h1]; rfl, v5, v6, v2⟩)
        have hwr : IntKind.i64.wrap ((num : Int) + 1) = (num : Int) + 1 := IntWalk.i64_in _ (by omega)
        go_upto_region 8 with (fail)
        clear u0 u1 u2 u3 u4 u5 u6
        have HSD := Lib.hid (show w4.drew.heap[x.wb]? = w4.heap[x.wb]? ∧ w4.drew.heap[yb]? = w4.heap[yb]? ∧ w4.drew.heap[w3.heap.size]? = w4.heap[w3.heap.size]? from ⟨rfl, rfl, rfl⟩)
        refine wp_region_noPanic ?_
        refine wp_region_Z (fun w' => w'.heap[x.wb]? = w4.heap[x.wb]? ∧ w'.heap[yb]? = w4.heap[yb]? ∧ w'.heap[w3.heap.size]? = w4.heap[w3.heap.size]?) 12 (by kernel_rfl) ?_
        change wpAnyZ _ _ _ _ _ _ 13 (Array.replicate 13 false) _ _
        refine wpAnyZ_take [3, 2, 1] (i := 0) (v := ?vc0) (by simp only [List.getElem?_toArray, List.getElem?_cons_succ, List.getElem?_cons_zero]; rfl) (by decide +kernel) (fun _ _ _ h => h) (by rfl) ?tc0 ?sc0 ?_
        case tc0 => (intro w' h; clear h; go_simp; try rfl)
        case sc0 => exact HSD.out
        (try simp only [Act.put, List.setIfInBounds_toArray, List.set_cons_zero, List.set_cons_succ])
        refine wpAnyZ_take [3, 2] (i := 1) (v := ?vc1) (by simp only [List.getElem?_toArray, List.getElem?_cons_succ, List.getElem?_cons_zero]; rfl) (by decide +kernel) (fun _ _ _ h => h) (by rfl) ?tc1 ?sc1 ?_
        case tc1 => (intro w' h; have FK := HS.out w' h; clear h; go_split_ands; go_simp; try rfl)
        case sc1 => exact HSD.out
        (try simp only [Act.put, List.setIfInBounds_toArray, List.set_cons_zero, List.set_cons_succ])
        refine wpAnyZ_take [3] (i := 2) (v := ?vc2) (by simp only [List.getElem?_toArray, List.getElem?_cons_succ, List.getElem?_cons_zero]; rfl) (by decide +kernel) (fun _ _ _ h => h) (by rfl) ?tc2 ?sc2 ?_
        case tc2 => (intro w' h; clear h; go_simp; try rfl)
        case sc2 => exact HSD.out
        (try simp only [Act.put, List.setIfInBounds_toArray, List.set_cons_zero, List.set_cons_succ])
        refine wpAnyZ_take [] (i := 3) (v := ?vc3) (by simp only [List.getElem?_toArray, List.getElem?_cons_succ, List.getElem?_cons_zero]; rfl) (by decide +kernel) (fun _ _ _ h => h) (by rfl) ?tc3 ?sc3 ?_
        case tc3 => (intro w' h; have FK := HS.out w' h; clear h; go_split_ands; go_simp; try rfl)
        case sc3 => exact HSD.out
        (try simp only [Act.put, List.setIfInBounds_toArray, List.set_cons_zero, List.set_cons_succ])
        refine wpAnyZ_take [5] (i := 4) (v := ?vc4) (by simp only [List.getElem?_toArray, List.getElem?_cons_succ, List.getElem?_cons_zero]; rfl) (by decide +kernel) (fun _ _ _ h => h) (by rfl) ?tc4 ?sc4 ?_
        case tc4 => (intro w' h; clear h; go_simp; try rfl)
        case sc4 => exact HSD.out
        (try simp only [Act.put, List.setIfInBounds_toArray, List.set_cons_zero, List.set_cons_succ])
        refine wpAnyZ_take [] (i := 5) (v := ?vc5) (by simp only [List.getElem?_toArray, List.getElem?_cons_succ, List.getElem?_cons_zero]; rfl) (by decide +kernel) (fun _ _ _ h => h) (by rfl) ?tc5 ?sc5 ?_
        case tc5 => (intro w' h; have FK := HS.out w' h; clear h; go_split_ands; go_simp; try rfl)
        case sc5 => exact HSD.out
        (try simp only [Act.put, List.setIfInBounds_toArray, List.set_cons_zero, List.set_cons_succ])
        refine wpAnyZ_take [11, 10, 9, 8] (i := 6) (v := ?vc6) (by simp only [List.getElem?_toArray, List.getElem?_cons_succ, List.getElem?_cons_zero]; rfl) (by decide +kernel) (fun _ _ _ h => h) (by rfl) ?tc6 ?sc6 ?_
        case tc6 => (intro w' h; clear h; go_simp; try rfl)
        case sc6 => exact HSD.out
        (try simp only [Act.put, List.setIfInBounds_toArray, List.set_cons_zero, List.set_cons_succ])
        refine wpAnyZ_take [11, 10, 9, 8] (i := 7) (v := ?vc7) (by simp only [List.getElem?_toArray, List.getElem?_cons_succ, List.getElem?_cons_zero]; rfl) (by decide +kernel) (fun _ _ _ h => h) (by rfl) ?tc7 ?sc7 ?_
        case tc7 => (intro w' h; clear h; go_simp; try rfl)
        case sc7 => exact HSD.out
        (try simp only [Act.put, List.setIfInBounds_toArray, List.set_cons_zero, List.set_cons_succ])
        refine wpAnyZ_take [11, 10, 9] (i := 8) (v := ?vc8) (by simp only [List.getElem?_toArray, List.getElem?_cons_succ, List.getElem?_cons_zero]; rfl) (by decide +kernel) (fun _ _ _ h => h) (by rfl) ?tc8 ?sc8 ?_
        case tc8 => (intro w' h; have FK := HS.out w' h; clear h; go_split_ands; go_simp; try rfl)
        case sc8 => exact HSD.out
        (try simp only [Act.put, List.setIfInBounds_toArray, List.set_cons_zero, List.set_cons_succ])
        refine wpAnyZ_take [11, 10] (i := 9) (v := ?vc9) (by simp only [List.getElem?_toArray, List.getElem?_cons_succ, List.getElem?_cons_zero]; rfl) (by decide +kernel) (fun _ _ _ h => h) (by rfl) ?tc9 ?sc9 ?_
        case tc9 => (intro w' h; clear h; go_simp; try rfl)
        case sc9 => exact HSD.out
        (try simp only [Act.put, List.setIfInBounds_toArray, List.set_cons_zero, List.set_cons_succ])
        refine wpAnyZ_take [11] (i := 10) (v := ?vc10) (by simp only [List.getElem?_toArray, List.getElem?_cons_succ, List.getElem?_cons_zero]; rfl) (by decide +kernel) (fun _ _ _ h => h) (by rfl) ?tc10 ?sc10 ?_
        case tc10 => (intro w' h; have FK := HS.out w' h; clear h; go_split_ands; go_simp; try rfl)
        case sc10 => exact HSD.out
        (try simp only [Act.put, List.setIfInBounds_toArray, List.set_cons_zero, List.set_cons_succ])
        refine wpAnyZ_take [] (i := 11) (v := ?vc11) (by simp only [List.getElem?_toArray, List.getElem?_cons_succ, List.getElem?_cons_zero]; rfl) (by decide +kernel) (fun _ _ _ h => h) (by rfl) ?tc11 ?sc11 ?_
        case tc11 => (intro w' h; clear h; go_simp; try rfl)
        case sc11 => exact HSD.out
        (try simp only [Act.put, List.setIfInBounds_toArray, List.set_cons_zero, List.set_cons_succ])
        have HAD := Lib.hid (HA4.out.later (W' := w4.drew) (Below.drew (Below.refl _ _)))
        have HID := Lib.hid (HI4.out.later (w' := w4.drew) (Below.drew (Below.refl _ _)))
        have HRO := Lib.hid (show Calls Try.prog 55 #[.pointer (some ⟨x1.g, 0, none⟩), .int .i64 s.more, .bool false, .int .i64 ((num : Int) + 1)] w4.drew (fun e w' => e = .returned (.int .i64 (onE P.length M1 s.more)) ∧ RfPost w0.heap.size w4.drew w' x1.g x1.qv x1.tv P (onR P.length M1 s.more (num + 1))) from by have := refOn_any w0.heap.size x1.g x1.qv x1.tv P M1 s.more (num + 1) w4.drew HAD.out.re hM1; rw [show (((num + 1 : Nat) : Int)) = (num : Int) + 1 from by omega] at this; exact this)
        refine wpAnyZ_one (i := 12) (by decide +kernel) ?_
        refine wpOpK_call (by simp only [List.getElem?_toArray, List.getElem?_cons_succ, List.getElem?_cons_zero]; rfl) (by rfl) (by go_simp; first | exact ⟨rfl, rfl⟩ | rfl) ?_
        refine (HRO.out).mono ?_
        rintro e w5 ⟨rfl, hrf⟩
        obtain ⟨hs5, hk5, hyk⟩ := HID.out.on e1 HAD.out HOT.out.1 HOT.out.2 hrf
        have HS5 := Lib.hid hs5
        have HK5 := Lib.hid hk5
        have hy5 := hyk yb rfl
        have HYK := Lib.hid (show w5.heap[yb]? = w4.heap[yb]? from hy5)
        clear hs5 hk5 hrf hyk hy5
        refine ⟨_, rfl, .inl rfl, ?_⟩
        (try simp only [Act.put, List.setIfInBounds_toArray, List.set_cons_zero, List.set_cons_succ])
        refine wpAnyZ_done (by kernel_rfl) (NoPanic.normal ?_) _
        obtain ⟨u0, u1, u2, u3, u4, u5, u6⟩ := HU.out w5 (HK5.out.ty (t := 60) (by exact T4.out) (by decide)) HYK.out
        cases py
        case true =>
          go_wp2
          exact HPO.out _ ((onR P.length M1 s.more (num + 1), cs ++ [num]), kn) (HEND.out _ (by rw [HDR.out, sentR, HTK.out]; simp)) HS5.out.step
        case false =>
          go_wp2
          go_roundw
          case rel => exact ⟨i + 1, (onR P.length M1 s.more (num + 1), cs ++ [num]), by go_num, by omega, onR_len _ _ _ hM1, by simp; omega, Lib.hid (by rw [← HSR.out, HDR.out]; rw [sentR, HTK.out]; simp), HS5⟩
          case measure => simp [intOf] <;> omega
    · obtain rfl : i = L.length := by omega
      have hni : ¬ ((L.length : Nat) : Int) < ((L.length : Nat) : Int) := by omega
      go_wp2
      exact HPO.out _ ((M1, cs), -1) (by rw [← HSR.out, List.drop_length, sentR]) HSI.out.step
end Go.Proofs.Ytihjefncjkdnpaa
namespace Go.Proofs.Ytihjefncjkdnpaa
open Go.RowKit Go.Deep
set_option linter.unusedVariables false
set_option linter.unusedSimpArgs false

/-- the number that a taker's box tells -/
def intN : Option Value → Nat
  | some (.int _ k) => k.toNat
  | _ => 0
def ptrN (WB : World) : Option Value → Nat
  | some (.pointer (some a)) => intN (WB.cell? a)
  | _ => 0
def nmW (WB : World) : Value → Nat
  | .func _ _ cap => ptrN WB cap[1]?
  | _ => 0
theorem IsTk.nm {WB : World} {wb num : Nat} {v : Value} (h : IsTk WB wb v num) : nmW WB v = num := by
  obtain ⟨bw, bn, rfl, _, h2⟩ := h
  have hc : WB.cell? ⟨bn, 0, none⟩ = some (.int .i64 num) := cell_of_one h2
  show intN (WB.cell? ⟨bn, 0, none⟩) = num
  rw [hc]
  rfl
theorem All2.map_eq {α β : Type} {R : α → β → Prop} {f : α → β} (h : ∀ a b, R a b → f a = b) : ∀ {l : List α} {l' : List β}, All2 R l l' → l.map f = l'
  | _, _, .nil => rfl
  | _, _, .cons a b => by rw [List.map_cons, h _ _ a, b.map_eq h]
theorem All2.mem {α β : Type} {R : α → β → Prop} : ∀ {l : List α} {l' : List β}, All2 R l l' → ∀ a ∈ l, ∃ b ∈ l', R a b
  | _, _, .nil, a, ha => by cases ha
  | _, _, .cons h t, a, ha => by
    rcases List.mem_cons.1 ha with rfl | ha
    · exact ⟨_, List.mem_cons_self .., h⟩
    · obtain ⟨b, hb, hr⟩ := t.mem a ha
      exact ⟨b, List.mem_cons_of_mem _ hb, hr⟩
theorem All2.len {α β : Type} {R : α → β → Prop} : ∀ {l : List α} {l' : List β}, All2 R l l' → l.length = l'.length
  | _, _, .nil => rfl
  | _, _, .cons _ t => by rw [List.length_cons, List.length_cons, t.len]
theorem allO_lt {w0 W : World} {x : RtV} {P : List Int} {dl : List Stp} {R M : List (Int × Nat)} {cl wl : List (Nat × Int)} (h : RtAt w0 W x P dl R M cl wl) {b : Nat} (hb : AllO x b) : b < W.heap.size := by
  rcases hb with hb | hb | hb | rfl | hb
  · rcases h.ty b hb with ⟨es, c, e⟩ | ⟨cs, t, fr, e, _⟩
    · rcases Nat.lt_or_ge b W.heap.size with h | h
      · exact h
      · rw [Array.getElem?_eq_none h] at e; cases e
    · exact lt_of_block e
  · exact (row_lt h.dr b hb).1
  · exact (row_lt h.ur b hb).1
  · exact lt_of_block h.re.pl
  · exact (row_lt h.re.own b hb).1
structure InvT (w0 WB : World) (x0 : RtV) (P : List Int) (dl : List Stp) (M : List (Int × Nat)) (cl wl : List (Nat × Int)) (code : Int) (g : List (Int × Nat) × List Nat) (O : Nat → Prop) (W : World) : Prop where
  be : Below w0.heap.size w0 W
  st : ∃ x, SameV x0 x ∧ RtAt w0 W x P dl g.1 M (cl ++ g.2.map (fun k => (k, code))) wl ∧ O = RtO x
  kt : KeepT WB W
def stepT (WB : World) (N : Nat) (dl : List Stp) (g : List (Int × Nat) × List Nat) (v : Value) : (List (Int × Nat) × List Nat) × Bool := takeS N dl g (nmW WB v)
def OkT (WB : World) (wb : Nat) (dl : List Stp) (g : List (Int × Nat) × List Nat) (v : Value) : Prop := (∃ num, IsTk WB wb v num ∧ num < dl.length) ∧ g.2.length < 68719476736
theorem rtO_lt {w0 W : World} {x : RtV} {P : List Int} {dl : List Stp} {R M : List (Int × Nat)} {cl wl : List (Nat × Int)} (h : RtAt w0 W x P dl R M cl wl) {b : Nat} (hb : RtO x b) : b < W.heap.size := by
  rcases h.ty b hb with ⟨es, c, e⟩ | ⟨cs, t, fr, e, _⟩
  · rcases Nat.lt_or_ge b W.heap.size with h | h
    · exact h
    · rw [Array.getElem?_eq_none h] at e; cases e
  · exact lt_of_block e
theorem crowdT (w0 WB : World) (x0 : RtV) (P : List Int) (dl : List Stp) (M : List (Int × Nat)) (cl wl : List (Nat × Int)) (code : Int) (hdl : dl.length ≤ 67108864) (hP : P.length ≤ 4096) (hcl : cl.length ≤ 68719476736) :
    Crowd (InvT w0 WB x0 P dl M cl wl code) (stepT WB P.length dl) (OkT WB x0.wb dl) w0 (evV 2 code 0 0 0 ⟨#[101]⟩) := by
  refine ⟨fun {g O W} h => h.be, fun {g O W W'} h hb => ?_, fun {g O W} h b hO => ?_, fun {g O W} tk hk h => ?_⟩
  · obtain ⟨be, ⟨x, e, A, o⟩, kt⟩ := h
    exact ⟨below_via hb be, ⟨x, e, A.later hb, o⟩, kt.trans (KeepT.of_below hb)⟩
  · obtain ⟨be, ⟨x, e, A, rfl⟩, kt⟩ := h
    exact rtO_lt A hO
  · obtain ⟨be, ⟨x, e, A, rfl⟩, kt⟩ := h
    obtain ⟨⟨num, ht, hn⟩, hg⟩ := hk
    have hnm := ht.nm
    have ht2 : IsTk W x.wb tk num := by rw [e.1]; exact ht.keep kt
    obtain ⟨bw, bn, rfl, _, _⟩ := ht
    refine ⟨_, _, rfl, fun _ _ => rfl, ?_⟩
    show Calls _ _ #[evV 2 code 0 0 0 ⟨#[101]⟩, .pointer (some ⟨bw, 0, none⟩), .pointer (some ⟨bn, 0, none⟩)] _ _
    refine (taker_any w0 W x P dl g.1 M _ wl num bw bn code A ht2 hn hdl hP (by rw [List.length_append, List.length_map]; omega)).mono ?_
    intro e' W' hr
    obtain ⟨rfl, hp⟩ := hr
    unfold stepT takeS
    rw [hnm]
    refine ⟨rfl, ?_⟩
    have hk := hp.keepT A
    obtain ⟨⟨x', e2, A2, o2⟩, z2, f2⟩ := hp
    refine ⟨RtO x', ⟨A2.ro.be, ⟨x', e.trans e2, ?_, rfl⟩, kt.trans hk⟩, z2, f2, o2⟩
    simp only [List.map_append, List.map_cons, List.map_nil, ← List.append_assoc]
    exact A2
section
variable (WB : World) (N wb : Nat) (dl : List Stp)
theorem stepT_len (g : List (Int × Nat) × List Nat) (v : Value) : (stepT WB N dl g v).1.2.length = g.2.length + 1 := by unfold stepT takeS; simp
theorem callL_len : ∀ (l : List Value) (g : List (Int × Nat) × List Nat), (callL (stepT WB N dl) g l).1.2.length ≤ g.2.length + l.length
  | [], g => by simp [callL]
  | v :: l, g => by
    rw [callL]
    have h1 := stepT_len WB N dl g v
    split
    · rw [List.length_cons]; simp only; omega
    · have := callL_len l (stepT WB N dl g v).1
      rw [List.length_cons]; omega
theorem okL_all : ∀ (l : List Value) (g : List (Int × Nat) × List Nat), (∀ v ∈ l, ∃ num, IsTk WB wb v num ∧ num < dl.length) → g.2.length + l.length ≤ 68719476736 → okL (stepT WB N dl) (OkT WB wb dl) g l
  | [], _, _, _ => trivial
  | v :: l, g, h, hg => by
    rw [List.length_cons] at hg
    refine ⟨⟨h v (List.mem_cons_self ..), by omega⟩, fun _ => okL_all l _ (fun u hu => h u (List.mem_cons_of_mem _ hu)) ?_⟩
    rw [stepT_len]; omega
theorem okS_all (ts : Int → List Value) (h : ∀ k, ∀ v ∈ ts k, ∃ num, IsTk WB wb v num ∧ num < dl.length) (hl : ∀ k, (ts k).length ≤ 4096) : ∀ (ks : List Int) (g : List (Int × Nat) × List Nat), g.2.length + ks.length * 4096 ≤ 68719476736 → okS (stepT WB N dl) (OkT WB wb dl) ts g ks
  | [], _, _ => trivial
  | k :: ks, g, hg => by
    rw [List.length_cons] at hg
    have h1 := hl k
    have h2 := callL_len WB N dl (ts k) g
    exact ⟨okL_all WB N wb dl _ _ (h k) (by omega), fun _ => okS_all ts h hl ks _ (by omega)⟩
end
def RetSnd (w0 W : World) (x : RtV) (P : List Int) (dl : List Stp) (R M : List (Int × Nat)) (cl wl : List (Nat × Int)) (n : Nat) (code : Int) (e : Ending) (W' : World) : Prop := e = .returned (.tuple #[.int .i64 (sentR P.length dl (R, []) (wayR P R P.length n)).2, .int .i64 0]) ∧ RtStep w0 W x P dl (sentR P.length dl (R, []) (wayR P R P.length n)).1.1 M (cl ++ (sentR P.length dl (R, []) (wayR P R P.length n)).1.2.map (fun k => (k, code))) wl W' ∧ x.wb < W'.heap.size ∧ W'.cell? ⟨x.wb, 0, none⟩ = some (.pointer (some ⟨x.rb, 0, none⟩))
theorem sendR_any (w0 W : World) (x : RtV) (P : List Int) (dl : List Stp) (R M : List (Int × Nat)) (cl wl : List (Nat × Int)) (n : Nat) (code : Int) (h : RtAt w0 W x P dl R M cl wl) (hn : n < P.length) (hP : P.length ≤ 4096) (hU : UpOk P) (hR : R.length ≤ 4096) (hG : ∀ y ∈ R, y.2 < dl.length) (hdl : dl.length ≤ 67108864) (hcl : cl.length ≤ 68719476736) :
    Calls Try.prog 45 #[.pointer (some ⟨x.rb, 0, none⟩), .int .i64 n, evV 2 code 0 0 0 ⟨#[101]⟩] W (RetSnd w0 W x P dl R M cl wl n code) := by
  have hV := crowdT w0 W x P dl M cl wl code hdl hP hcl
  have hts : ∀ k, ∀ v ∈ x.ts k, ∃ num, IsTk W x.wb v num ∧ num < dl.length := fun k v hv => by
    obtain ⟨num, hm, ht⟩ := (h.tk k).mem v hv
    obtain ⟨y, hy, rfl⟩ := mem_numsOf hm
    exact ⟨_, ht, hG y hy⟩
  have hl : ∀ k, (x.ts k).length ≤ 4096 := fun k => by have := h.ro.tl k; omega
  have hI : InvT w0 W x P dl M cl wl code (R, []) (RtO x) W := ⟨h.ro.be, ⟨x, SameV.refl x, by simpa using h, rfl⟩, KeepT.refl W⟩
  have hw := wayP_len P P.length n
  have hS := Send_any 2 code 0 0 0 ⟨#[101]⟩ hV x.rb x.mb x.pv P x.m x.f x.ts R.length n W h.ro hn hP hU hR (fun k t ht => by
    obtain ⟨num, ⟨bw, bn, rfl, _, _⟩, _⟩ := hts k t ht
    rfl) (R, []) (RtO x) hI (okS_all W P.length x.wb dl x.ts hts hl _ _ (by
      show 0 + (wayP P P.length n).length * 4096 ≤ 68719476736
      omega))
  have hse : sendS (stepT W P.length dl) x.ts (R, []) (wayP P P.length n) = sentR P.length dl (R, []) (wayR P R P.length n) :=
    send_sent P.length dl (nmW W) R x.ts (fun k => (h.tk k).map_eq (fun a b hab => hab.nm)) (wayP P P.length n) (R, [])
  rw [hse] at hS
  refine hS.mono ?_
  intro e W' hr
  obtain ⟨rfl, O', ⟨be, ⟨x', ⟨e1, e2, e3, e4, e5, e6⟩, A, rfl⟩, kt⟩, z, f, o⟩ := hr
  have hwo := A.wo
  rw [e1, e6] at hwo
  refine ⟨rfl, ⟨⟨x', e1, A, fun b hb => ?_⟩, z, fun b hb hO => f b hb (fun h => hO (.inl h))⟩, lt_of_block hwo, by rw [cell_of_row _ _ _ _ _ _ hwo]; rfl⟩
  rcases hb with hb | hb | hb | hb | hb
  · exact (o b hb).imp .inl id
  · exact .inl (.inr (.inl (e4 ▸ hb)))
  · exact .inl (.inr (.inr (.inl (e5 ▸ hb))))
  · exact .inl (.inr (.inr (.inr (.inl (e2 ▸ hb)))))
  · exact .inl (.inr (.inr (.inr (.inr (e3 ▸ hb)))))
/-- what is known of the takers -/
def Good (dl : List Stp) (R : List (Int × Nat)) : Prop := ∀ y ∈ R, y.2 < dl.length ∧ ((dl.getD y.2 zStp).puts = true → y.2 + 1 < dl.length ∧ (dl.getD (y.2 + 1) zStp).puts = false)
theorem getD_pre {α : Type} (l l' : List α) (z : α) {i : Nat} (h : i < l.length) : (l ++ l').getD i z = l.getD i z := by
  rw [List.getD_eq_getElem?_getD, List.getD_eq_getElem?_getD, List.getElem?_append_left h]
theorem Good.more {dl : List Stp} {R : List (Int × Nat)} (h : Good dl R) (l : List Stp) : Good (dl ++ l) R := fun y hy => by
  obtain ⟨h1, h2⟩ := h y hy
  rw [List.length_append, getD_pre _ _ _ h1]
  refine ⟨by omega, fun hp => ?_⟩
  obtain ⟨h3, h4⟩ := h2 hp
  rw [getD_pre _ _ _ h3]
  exact ⟨by omega, h4⟩
theorem Good.put {dl : List Stp} {R : List (Int × Nat)} (h : Good dl R) (N : Nat) (n : Int) (s : Stp) : Good (dl ++ [s, yesS s]) (onR N R n dl.length) := by
  have hm := h.more [s, yesS s]
  unfold onR
  split
  · exact hm
  · intro y hy
    rcases List.mem_append.1 hy with hy | hy
    · exact hm y hy
    · rw [List.mem_singleton] at hy
      subst hy
      refine ⟨by simp, fun _ => ⟨by simp, ?_⟩⟩
      rw [List.getD_eq_getElem?_getD, List.getElem?_append_right (by omega)]
      simp [yesS]
theorem Good.take {dl : List Stp} (N : Nat) {g : List (Int × Nat) × List Nat} (h : Good dl g.1) {k : Int} {num : Nat} (hy : num < dl.length ∧ ((dl.getD num zStp).puts = true → num + 1 < dl.length ∧ (dl.getD (num + 1) zStp).puts = false)) : Good dl (takeS N dl g num).1.1 := by
  unfold takeS
  simp only
  split
  · rename_i hp
    obtain ⟨h1, h2⟩ := hy.2 hp
    unfold onR
    split
    · exact h
    · intro y hy
      rcases List.mem_append.1 hy with hy | hy
      · exact h y hy
      · rw [List.mem_singleton] at hy
        subst hy
        exact ⟨h1, fun hp' => by rw [h2] at hp'; cases hp'⟩
  · exact h
theorem Good.sent {dl : List Stp} (N : Nat) : ∀ (l : List (Int × Nat)) (g : List (Int × Nat) × List Nat), Good dl g.1 → Good dl l → Good dl (sentR N dl g l).1.1
  | [], g, h, _ => h
  | (k, num) :: l, g, h, hl => by
    have h1 := Good.take N h (k := k) (hl (k, num) (List.mem_cons_self ..))
    rw [sentR]
    split
    · exact h1
    · exact Good.sent N l _ h1 (fun y hy => hl y (List.mem_cons_of_mem _ hy))
end Go.Proofs.Ytihjefncjkdnpaa
namespace Go.Proofs.Ytihjefncjkdnpaa
open Go.RowKit Go.Deep
set_option linter.unusedVariables false
set_option linter.unusedSimpArgs false

theorem quiet_left {P : Program} {f : FuncId} {args : Array Value} {w : World} {n : Nat} {v : Value}
    (h : Calls P f args (w.drewN n) fun e w' => e = .returned v ∧ w.drewN n = w') : Calls P f args (w.drewN n) fun e w'' => e = .returned v ∧ ∃ m, w'' = w.drewN m :=
  h.mono fun _ _ ⟨he, hm⟩ => ⟨he, n, hm.symm⟩
theorem On_nilany (rb N : Nat) (n : Int) (pv mv : Value) (many : Int) (w : World) (h : w.heap[rb]? = some (.cells #[.int .i64 N, pv, mv, .int .i64 many] 101 (0, 0))) : Calls Try.prog 22 #[.pointer (some ⟨rb, 0, none⟩), .int .i64 n, .nilFunc] w fun e w' => e = .returned (.int .i64 (onN N n)) ∧ w = w' := by
  by_cases h0 : n < 0 ∨ (N : Int) ≤ n
  · rw [show onN N n = 2 by unfold onN; rw [if_pos h0]]
    exact On_arg rb N n _ pv mv many w h h0
  · rw [show onN N n = 1 by unfold onN; rw [if_neg h0]]
    exact On_none rb N n pv mv many w h (by omega) (by omega)
set_option maxRecDepth 100000 in
set_option maxHeartbeats 4000000 in
theorem Send_arg (rb N : Nat) (n : Int) (pv mv : Value) (many : Int) (k c md x y : Int) (s : ByteArray) (W : World) (h : W.heap[rb]? = some (.cells #[.int .i64 N, pv, mv, .int .i64 many] 101 (0, 0))) (hn : n < 0 ∨ (N : Int) ≤ n) : Calls Try.prog 45 #[.pointer (some ⟨rb, 0, none⟩), .int .i64 n, evV k c md x y s] W fun e w' => e = .returned (.tuple #[.int .i64 0, .int .i64 2]) ∧ Below W.heap.size W w' := by
  have zb := lt_of_block h
  obtain ⟨W1, hW1⟩ : ∃ W1, W1 = W.alloc (.cells #[.int .i8 k, .int .i32 c, .int .u8 md, .int .i64 x, .int .i64 y, .string s] 62) := ⟨_, rfl⟩
  have HB := Lib.hid (show Below W.heap.size W W1 by rw [hW1]; exact below_al (Below.refl _ _) _)
  have c0 : W1.cell? ⟨rb, 0, none⟩ = some (.int .i64 N) := by rw [(bcell HB.out).1 _ _ zb, cell_of_row _ _ _ _ _ _ h]; rfl
  have z1 : rb < W1.heap.size := by have := HB.out.size; omega
  have HW := Lib.hid hW1
  clear h hW1 zb
  unfold evV
  rcases hn with hn | hn
  · go_enter Try.func45, Try.ntmps45
    go_upto_region 1 with (fail)
    rw [← HW.out]
    clear HW
    go_wp2
    go_ret2
    exact ⟨rfl, HB.out⟩
  · have h0 : ¬ n < 0 := by omega
    go_enter Try.func45, Try.ntmps45
    go_upto_region 1 with (fail)
    rw [← HW.out]
    clear HW
    go_wp2
    go_ret2
    exact ⟨rfl, HB.out⟩
structure LoopI (w0 W : World) (x : RtV) (P : List Int) (dl : List Stp) (R M : List (Int × Nat)) (cl : List (Nat × Int)) (cs : Array Value) (sb : Nat) (wr : World) : Prop where
  st : ∃ x', x'.wb = x.wb ∧ RtAt w0 wr x' P dl R M cl cl ∧ (∀ b, AllO x' b → AllO x b ∨ W.heap.size ≤ b) ∧ ¬ AllO x' sb
  sz : W.heap.size ≤ wr.heap.size
  fr : ∀ b, b < W.heap.size → ¬ AllO x b → wr.heap[b]? = W.heap[b]?
  bx : wr.heap[sb]? = some (.cells cs 60 (0, 0))
theorem LoopI.via {w0 W : World} {x x' : RtV} {P : List Int} {dl dl2 : List Stp} {R M R2 M2 : List (Int × Nat)} {cl : List (Nat × Int)} {cs : Array Value} {sb : Nat} {wr w2 : World} (I : LoopI w0 W x P dl R M cl cs sb wr) (e : x'.wb = x.wb) (o : ∀ b, AllO x' b → AllO x b ∨ W.heap.size ≤ b) (n : ¬ AllO x' sb) (h : RtStep w0 wr x' P dl2 R2 M2 cl cl w2) : LoopI w0 W x P dl2 R2 M2 cl cs sb w2 := by
  obtain ⟨⟨x2, e2, A2, o2⟩, z2, f2⟩ := h
  have hz := I.sz
  have hb := lt_of_block I.bx
  refine ⟨⟨x2, e2.trans e, A2, fun b hb => ?_, fun h => (o2 sb h).elim n (fun h => by omega)⟩, Nat.le_trans hz z2, fun b hb hO => ?_, (f2 sb hb n).trans I.bx⟩
  · rcases o2 b hb with h | h
    · exact o b h
    · exact .inr (Nat.le_trans hz h)
  · refine (f2 b (Nat.lt_of_lt_of_le hb hz) (fun h => ?_)).trans (I.fr b hb hO)
    rcases o b h with h | h
    · exact hO h
    · omega
theorem LoopI.step {w0 W : World} {x : RtV} {P : List Int} {dl : List Stp} {R M : List (Int × Nat)} {cl : List (Nat × Int)} {cs : Array Value} {sb : Nat} {wr : World} (I : LoopI w0 W x P dl R M cl cs sb wr) : RtStep w0 W x P dl R M cl cl wr := by
  obtain ⟨x', e, A, o, n⟩ := I.st
  exact ⟨⟨x', e, A, o⟩, I.sz, I.fr⟩
theorem LoopI.set {w0 W : World} {x : RtV} {P : List Int} {dl : List Stp} {R M : List (Int × Nat)} {cl : List (Nat × Int)} {cs : Array Value} {sb : Nat} {wr : World} (I : LoopI w0 W x P dl R M cl cs sb wr) (hsb : W.heap.size ≤ sb) (hz : w0.heap.size ≤ W.heap.size) (j : Nat) (v : Value) : LoopI w0 W x P dl R M cl (cs.setIfInBounds j v) sb (wr.setCell ⟨sb, j, none⟩ v) := by
  obtain ⟨x', e, A, o, n⟩ := I.st
  have hfr : ∀ b, b ≠ sb → (wr.setCell ⟨sb, j, none⟩ v).heap[b]? = wr.heap[b]? := fun b hb => Below.heap_setCell _ _ _ _ hb
  have hk : KeepB wr (wr.setCell ⟨sb, j, none⟩ v) (fun t => t = 60) := KeepB.of (fun b => b = sb) (fun b hb _ => ⟨_, _, _, hb ▸ I.bx, rfl⟩) (fun b _ hb => hfr b hb)
  have hBe : Below w0.heap.size w0 (wr.setCell ⟨sb, j, none⟩ v) := A.ro.be.setCell (p := ⟨sb, j, none⟩) (show w0.heap.size ≤ sb by omega) v
  refine ⟨⟨x', e, ⟨hk.blk A.wo (by decide), hk.router A.ro hBe (by decide) (by decide) (by decide), fun k => forall2_imp (fun a b h => h.keep (hk.tks (wb := x'.wb) (by decide) (by decide))) (A.tk k), hk.rf A.re (by decide) (by decide) (by decide), row_keepB A.dr (fun g hg => hfr g (fun e => n (.inr (.inl (e ▸ hg))))), hk.row A.cr (by decide), hk.row A.ur (by decide), A.cu, A.zw⟩, o, n⟩, ?_, fun b hb hO => ?_, set_blk I.bx j v⟩
  · have := I.sz; simpa [World.setCell] using this
  · exact (hfr b (by omega)).trans (I.fr b hb hO)
/-- what a step leaves -/
structure StepOk (w0 W : World) (x : RtV) (P : List Int) (dl : List Stp) (R : List (Int × Nat)) (cl : List (Nat × Int)) (W' : World) : Prop where
  at_ : ∃ dl' R' cl', RtStep w0 W x P dl' R' R' cl' cl' W' ∧ Good dl' R' ∧ R'.length ≤ 4096 ∧ dl'.length ≤ dl.length + 8194 ∧ cl'.length ≤ cl.length + 16777216
def RetStp (w0 W : World) (x : RtV) (P : List Int) (dl : List Stp) (R : List (Int × Nat)) (cl : List (Nat × Int)) (e : Ending) (W' : World) : Prop := e = .returned (.bool true) ∧ StepOk w0 W x P dl R cl W'
set_option maxRecDepth 100000 in
set_option maxHeartbeats 16000000 in
theorem step9_any (w0 W : World) (x : RtV) (P : List Int) (dl : List Stp) (R : List (Int × Nat)) (cl : List (Nat × Int)) (n mo : Int) (ye pu : Bool) (ee : Int) (d : Int) (h : RtAt w0 W x P dl R R cl cl) (hG : Good dl R) (hP : P.length ≤ 4096) (hU : UpOk P) (hR : R.length ≤ 4096) (hdl : dl.length ≤ 67100000) (hcl : cl.length ≤ 68719476736) (hdo : ¬ d = 0 ∧ ¬ d = 1 ∧ ¬ d = 2 ∧ ¬ d = 3) : Calls Try.prog 23 #[.pointer (some ⟨x.wb, 0, none⟩), .agg #[.int .i64 d, .int .i64 n, .int .i64 mo, .bool ye, .bool pu, .int .i32 ee], .int .i64 P.length] W (RetStp w0 W x P dl R cl) := by
  have H := Lib.hid h
  have HG := Lib.hid hG
  have HUP := Lib.hid hU
  clear hU hG
  obtain ⟨W1, hW1⟩ : ∃ W1, W1 = W.alloc (.cells #[.int .i64 d, .int .i64 n, .int .i64 mo, .bool ye, .bool pu, .int .i32 ee] 60) := ⟨_, rfl⟩
  have BW1 := Lib.hid (show Below W.heap.size W W1 from by rw [hW1]; exact below_al (Below.refl _ _) _)
  have SB1 := Lib.hid (show W1.heap[W.heap.size]? = some (.cells #[.int .i64 d, .int .i64 n, .int .i64 mo, .bool ye, .bool pu, .int .i32 ee] 60 (0, 0)) from by rw [hW1]; exact heap_alloc_new _ _)
  have HA1 := Lib.hid (H.out.later BW1.out)
  have zw := lt_of_block HA1.out.wo
  have HPO := Lib.hid (fun (W' : World) (hh : StepOk w0 W x P dl R cl W') => show RetStp w0 W x P dl R cl (.returned (.bool true)) W' from ⟨rfl, hh⟩)
  generalize RetStp w0 W x P dl R cl = post at *
  clear h
  have HSC := Lib.hid (fun (w' : World) (hh : w'.heap[W.heap.size]? = W1.heap[W.heap.size]?) => show (W.heap.size < w'.heap.size ∧ w'.cell? ⟨W.heap.size, 0, none⟩ = some (.int .i64 d) ∧ w'.cell? ⟨W.heap.size, 1, none⟩ = some (.int .i64 n) ∧ w'.cell? ⟨W.heap.size, 2, none⟩ = some (.int .i64 mo) ∧ w'.cell? ⟨W.heap.size, 3, none⟩ = some (.bool ye) ∧ w'.cell? ⟨W.heap.size, 4, none⟩ = some (.bool pu) ∧ w'.cell? ⟨W.heap.size, 5, none⟩ = some (.int .i32 ee)) from by
    replace hh := hh.trans SB1.out
    refine ⟨lt_of_block hh, ?_, ?_, ?_, ?_, ?_, ?_⟩ <;> (rw [cell_of_row _ _ _ _ _ _ hh]; rfl))
  have HSW := Lib.hid hW1
  clear hW1
  go_enter Try.func23, Try.ntmps23
  go_upto_region 1 with (fail)
  rw [← HSW.out]
  clear HSW
  obtain ⟨y0, y1, y2, y3, y4, y5, y6⟩ := HSC.out W1 rfl
  have k0 : (d == 0) = false := by simpa using hdo.1
  have k1 : (d == 1) = false := by simpa using hdo.2.1
  have k2 : (d == 2) = false := by simpa using hdo.2.2.1
  have k3 : (d == 3) = false := by simpa using hdo.2.2.2
  have j0 : ¬ d = 0 := hdo.1
  have j1 : ¬ d = 1 := hdo.2.1
  have j2 : ¬ d = 2 := hdo.2.2.1
  have j3 : ¬ d = 3 := hdo.2.2.2
  clear hdo
  go_wp2
  exact HPO.out _ ⟨dl, R, cl, RtStep.of_below H.out BW1.out, HG.out, hR, by omega, by omega⟩
set_option maxRecDepth 100000 in
set_option maxHeartbeats 16000000 in
theorem step0_any (w0 W : World) (x : RtV) (P : List Int) (dl : List Stp) (R : List (Int × Nat)) (cl : List (Nat × Int)) (n mo : Int) (ye pu : Bool) (ee : Int) (h : RtAt w0 W x P dl R R cl cl) (hG : Good dl R) (hP : P.length ≤ 4096) (hU : UpOk P) (hR : R.length ≤ 4096) (hdl : dl.length ≤ 67100000) (hcl : cl.length ≤ 68719476736)  : Calls Try.prog 23 #[.pointer (some ⟨x.wb, 0, none⟩), .agg #[.int .i64 0, .int .i64 n, .int .i64 mo, .bool ye, .bool pu, .int .i32 ee], .int .i64 P.length] W (RetStp w0 W x P dl R cl) := by
  have H := Lib.hid h
  have HG := Lib.hid hG
  have HUP := Lib.hid hU
  clear hU hG
  obtain ⟨W1, hW1⟩ : ∃ W1, W1 = W.alloc (.cells #[.int .i64 0, .int .i64 n, .int .i64 mo, .bool ye, .bool pu, .int .i32 ee] 60) := ⟨_, rfl⟩
  have BW1 := Lib.hid (show Below W.heap.size W W1 from by rw [hW1]; exact below_al (Below.refl _ _) _)
  have SB1 := Lib.hid (show W1.heap[W.heap.size]? = some (.cells #[.int .i64 0, .int .i64 n, .int .i64 mo, .bool ye, .bool pu, .int .i32 ee] 60 (0, 0)) from by rw [hW1]; exact heap_alloc_new _ _)
  have HA1 := Lib.hid (H.out.later BW1.out)
  have zw := lt_of_block HA1.out.wo
  have HPO := Lib.hid (fun (W' : World) (hh : StepOk w0 W x P dl R cl W') => show RetStp w0 W x P dl R cl (.returned (.bool true)) W' from ⟨rfl, hh⟩)
  generalize RetStp w0 W x P dl R cl = post at *
  clear h
  have HSC := Lib.hid (fun (w' : World) (hh : w'.heap[W.heap.size]? = W1.heap[W.heap.size]?) => show (W.heap.size < w'.heap.size ∧ w'.cell? ⟨W.heap.size, 0, none⟩ = some (.int .i64 0) ∧ w'.cell? ⟨W.heap.size, 1, none⟩ = some (.int .i64 n) ∧ w'.cell? ⟨W.heap.size, 2, none⟩ = some (.int .i64 mo) ∧ w'.cell? ⟨W.heap.size, 3, none⟩ = some (.bool ye) ∧ w'.cell? ⟨W.heap.size, 4, none⟩ = some (.bool pu) ∧ w'.cell? ⟨W.heap.size, 5, none⟩ = some (.int .i32 ee)) from by
    replace hh := hh.trans SB1.out
    refine ⟨lt_of_block hh, ?_, ?_, ?_, ?_, ?_, ?_⟩ <;> (rw [cell_of_row _ _ _ _ _ _ hh]; rfl))
  have HSW := Lib.hid hW1
  clear hW1
  go_enter Try.func23, Try.ntmps23
  go_upto_region 1 with (fail)
  rw [← HSW.out]
  clear HSW
  obtain ⟨y0, y1, y2, y3, y4, y5, y6⟩ := HSC.out W1 rfl
  go_wp2_with fail
  refine (put_any w0 W1 x P dl R R cl cl (⟨0, n, mo, ye, pu, ee⟩ : Stp) HA1.out (by omega) hR).mono ?_
  intro e w2 hr
  obtain ⟨rfl, ST2⟩ := hr
  have HT2 := Lib.hid ST2
  obtain ⟨⟨x1, e1, A1, o1⟩, z1, f1⟩ := ST2
  have HA2 := Lib.hid A1
  have HO1 := Lib.hid (And.intro o1 (And.intro z1 f1))
  clear A1 o1 f1
  have hsb : ¬ AllO x W.heap.size := fun e => by have := allO_lt H.out e; omega
  have HSB := Lib.hid (show w2.heap[W.heap.size]? = W1.heap[W.heap.size]? from HO1.out.2.2 _ (lt_of_block SB1.out) hsb)
  clear y0 y1 y2 y3 y4 y5 y6
  have zw2 := lt_of_block HA2.out.wo
  rw [e1] at zw2
  have HS := Lib.hid (fun (w' : World) (hh : w'.heap[x.wb]? = w2.heap[x.wb]? ∧ w'.heap[W.heap.size]? = w2.heap[W.heap.size]?) => show (x.wb < w'.heap.size ∧ W.heap.size < w'.heap.size ∧ w'.cell? ⟨x.wb, 0, none⟩ = some (.pointer (some ⟨x1.rb, 0, none⟩)) ∧ w'.cell? ⟨W.heap.size, 1, none⟩ = some (.int .i64 n)) from by
    obtain ⟨h1, h2⟩ := hh
    replace h1 := h1.trans (e1 ▸ HA2.out.wo)
    obtain ⟨v0, _, v2, _⟩ := HSC.out w' (h2.trans HSB.out)
    exact ⟨lt_of_block h1, v0, by rw [cell_of_row _ _ _ _ _ _ h1]; rfl, v2⟩)
  have zs2 : W.heap.size < w2.heap.size := (HS.out w2 ⟨rfl, rfl⟩).2.1
  obtain ⟨er, her⟩ : ∃ z, z = onE P.length R n := ⟨_, rfl⟩
  rw [← her]
  have HER := Lib.hid her
  clear her
  go_upto_region 4 with (fail)
  have HSD := Lib.hid (show w2.drew.heap[x.wb]? = w2.heap[x.wb]? ∧ w2.drew.heap[W.heap.size]? = w2.heap[W.heap.size]? from ⟨rfl, rfl⟩)
  refine wp_region_noPanic ?_
  refine wp_region_Z (fun w' => w'.heap[x.wb]? = w2.heap[x.wb]? ∧ w'.heap[W.heap.size]? = w2.heap[W.heap.size]?) 12 (by kernel_rfl) ?_
  change wpAnyZ _ _ _ _ _ _ 13 (Array.replicate 13 false) _ _
  refine wpAnyZ_take [11, 9, 3, 2, 1] (i := 0) (v := ?va0) (by simp only [List.getElem?_toArray, List.getElem?_cons_succ, List.getElem?_cons_zero]; rfl) (by decide +kernel) (fun _ _ _ h => h) (by rfl) ?ta0 ?sa0 ?_
  case ta0 => (intro w' h; clear h; go_simp; try rfl)
  case sa0 => exact HSD.out
  (try simp only [Act.put, List.setIfInBounds_toArray, List.set_cons_zero, List.set_cons_succ])
  refine wpAnyZ_take [11, 9, 3, 2] (i := 1) (v := ?va1) (by simp only [List.getElem?_toArray, List.getElem?_cons_succ, List.getElem?_cons_zero]; rfl) (by decide +kernel) (fun _ _ _ h => h) (by rfl) ?ta1 ?sa1 ?_
  case ta1 => (intro w' h; have FK := HS.out w' h; clear h; go_split_ands; go_simp; try rfl)
  case sa1 => exact HSD.out
  (try simp only [Act.put, List.setIfInBounds_toArray, List.set_cons_zero, List.set_cons_succ])
  refine wpAnyZ_take [11, 9, 3] (i := 2) (v := ?va2) (by simp only [List.getElem?_toArray, List.getElem?_cons_succ, List.getElem?_cons_zero]; rfl) (by decide +kernel) (fun _ _ _ h => h) (by rfl) ?ta2 ?sa2 ?_
  case ta2 => (intro w' h; clear h; go_simp; try rfl)
  case sa2 => exact HSD.out
  (try simp only [Act.put, List.setIfInBounds_toArray, List.set_cons_zero, List.set_cons_succ])
  refine wpAnyZ_take [11, 9] (i := 3) (v := ?va3) (by simp only [List.getElem?_toArray, List.getElem?_cons_succ, List.getElem?_cons_zero]; rfl) (by decide +kernel) (fun _ _ _ h => h) (by rfl) ?ta3 ?sa3 ?_
  case ta3 => (intro w' h; have FK := HS.out w' h; clear h; go_split_ands; go_simp; try rfl)
  case sa3 => exact HSD.out
  (try simp only [Act.put, List.setIfInBounds_toArray, List.set_cons_zero, List.set_cons_succ])
  refine wpAnyZ_take [11, 9, 5] (i := 4) (v := ?va4) (by simp only [List.getElem?_toArray, List.getElem?_cons_succ, List.getElem?_cons_zero]; rfl) (by decide +kernel) (fun _ _ _ h => h) (by rfl) ?ta4 ?sa4 ?_
  case ta4 => (intro w' h; clear h; go_simp; try rfl)
  case sa4 => exact HSD.out
  (try simp only [Act.put, List.setIfInBounds_toArray, List.set_cons_zero, List.set_cons_succ])
  refine wpAnyZ_take [11, 9] (i := 5) (v := ?va5) (by simp only [List.getElem?_toArray, List.getElem?_cons_succ, List.getElem?_cons_zero]; rfl) (by decide +kernel) (fun _ _ _ h => h) (by rfl) ?ta5 ?sa5 ?_
  case ta5 => (intro w' h; have FK := HS.out w' h; clear h; go_split_ands; go_simp; try rfl)
  case sa5 => exact HSD.out
  (try simp only [Act.put, List.setIfInBounds_toArray, List.set_cons_zero, List.set_cons_succ])
  refine wpAnyZ_take [11, 9, 8] (i := 6) (v := ?va6) (by simp only [List.getElem?_toArray, List.getElem?_cons_succ, List.getElem?_cons_zero]; rfl) (by decide +kernel) (fun _ _ _ h => h) (by rfl) ?ta6 ?sa6 ?_
  case ta6 => (intro w' h; clear h; go_simp; try rfl)
  case sa6 => exact HSD.out
  (try simp only [Act.put, List.setIfInBounds_toArray, List.set_cons_zero, List.set_cons_succ])
  refine wpAnyZ_take [11, 9, 8] (i := 7) (v := ?va7) (by simp only [List.getElem?_toArray, List.getElem?_cons_succ, List.getElem?_cons_zero]; rfl) (by decide +kernel) (fun _ _ _ h => h) (by rfl) ?ta7 ?sa7 ?_
  case ta7 => (intro w' h; clear h; go_simp; try rfl)
  case sa7 => exact HSD.out
  (try simp only [Act.put, List.setIfInBounds_toArray, List.set_cons_zero, List.set_cons_succ])
  refine wpAnyZ_take [11] (i := 10) (v := ?va10) (by simp only [List.getElem?_toArray, List.getElem?_cons_succ, List.getElem?_cons_zero]; rfl) (by decide +kernel) (fun _ _ _ h => h) (by rfl) ?ta10 ?sa10 ?_
  case ta10 => (intro w' h; clear h; go_simp; try rfl)
  case sa10 => exact HSD.out
  (try simp only [Act.put, List.setIfInBounds_toArray, List.set_cons_zero, List.set_cons_succ])
  have HAD := Lib.hid (HA2.out.later (W' := w2.drew) (Below.drew (Below.refl _ _)))
  refine wpAnyZ_one (i := 8) (by decide +kernel) ?_
  refine wpOpK_call (by simp only [List.getElem?_toArray, List.getElem?_cons_succ, List.getElem?_cons_zero]; rfl) (by rfl) (by go_simp; first | exact ⟨rfl, rfl⟩ | rfl) ?_
  refine (take_any x.wb dl.length w2.drew).mono ?_
  rintro e w3 ⟨bw, bn, rfl, ht3, hb3⟩
  have HT3 := Lib.hid ht3
  have HB3 := Lib.hid (show Below w2.heap.size w2 w3 from (Below.drew (Below.refl _ _)).trans hb3)
  clear ht3 hb3
  have HA3 := Lib.hid (HA2.out.later HB3.out)
  have HS3 := Lib.hid (show w3.heap[x.wb]? = w2.heap[x.wb]? ∧ w3.heap[W.heap.size]? = w2.heap[W.heap.size]? from ⟨HB3.out.block _ zw2, HB3.out.block _ zs2⟩)
  refine ⟨_, rfl, .inr HS3.out, ?_⟩
  (try simp only [Act.put, List.setIfInBounds_toArray, List.set_cons_zero, List.set_cons_succ])
  have HON := Lib.hid (show Calls Try.prog 22 #[.pointer (some ⟨x1.rb, 0, none⟩), .int .i64 n, tkV bw bn] w3 (fun e W' => e = .returned (.int .i64 er) ∧ RtPost w0 w3 x1 P (dl ++ [(⟨0, n, mo, ye, pu, ee⟩ : Stp), yesS (⟨0, n, mo, ye, pu, ee⟩ : Stp)]) (onR P.length R n dl.length) (onR P.length R n dl.length) cl cl W' ∧ W'.heap[x1.wb]? = w3.heap[x1.wb]?) from by rw [HER.out]; exact On_any w0 x1 P _ R _ cl cl n dl.length bw bn w3 HA3.out (by rw [e1]; exact HT3.out) hP)
  refine wpAnyZ_one (i := 9) (by decide +kernel) ?_
  refine wpOpK_call (by simp only [List.getElem?_toArray, List.getElem?_cons_succ, List.getElem?_cons_zero]; rfl) (by rfl) (by go_simp; first | exact ⟨rfl, rfl⟩ | rfl) ?_
  refine (HON.out).mono ?_
  rintro e w4 ⟨rfl, hp4, hwb4⟩
  have HP4 := Lib.hid hp4
  have HS4 := Lib.hid (show w4.heap[x.wb]? = w2.heap[x.wb]? ∧ w4.heap[W.heap.size]? = w2.heap[W.heap.size]? from ⟨(e1 ▸ hwb4).trans HS3.out.1, (keep_ty HA3.out.ty hp4.fr ((HS3.out.2.trans HSB.out).trans SB1.out) (by decide)).trans HS3.out.2⟩)
  clear hp4 hwb4
  refine ⟨_, rfl, .inr HS4.out, ?_⟩
  (try simp only [Act.put, List.setIfInBounds_toArray, List.set_cons_zero, List.set_cons_succ])
  refine wpAnyZ_take [] (i := 11) (v := ?va11) (by simp only [List.getElem?_toArray, List.getElem?_cons_succ, List.getElem?_cons_zero]; rfl) (by decide +kernel) (fun _ _ _ h => h) (by rfl) ?ta11 ?sa11 ?_
  case ta11 => (intro w' h; clear h; go_simp; try rfl)
  case sa11 => exact HS4.out
  (try simp only [Act.put, List.setIfInBounds_toArray, List.set_cons_zero, List.set_cons_succ])
  refine wpAnyZ_one (i := 12) (by decide +kernel) ?_
  refine wpOpK_value (v := .bool true) (w' := w4) (by simp only [List.getElem?_toArray, List.getElem?_cons_succ, List.getElem?_cons_zero]; rfl) (by rfl) ?ma12 ⟨.inl rfl, ?_⟩
  case ma12 => (go_simp; try rfl)
  (try simp only [Act.put, List.setIfInBounds_toArray, List.set_cons_zero, List.set_cons_succ])
  refine wpAnyZ_done (by kernel_rfl) (NoPanic.normal ?_) _
  go_wp2
  exact HPO.out _ ⟨_, _, cl, RtStep.via (W1 := W1) rfl (fun b hb => .inl hb) BW1.out.size (fun b hb _ => BW1.out.block b hb) (RtStep.via (W1 := w2) e1 HO1.out.1 HO1.out.2.1 HO1.out.2.2 (RtStep.via (W1 := w3) rfl (fun b hb => .inl hb) HB3.out.size (fun b hb _ => HB3.out.block b hb) HP4.out.step)), HG.out.put _ _ _, onR_len _ _ _ hR, by rw [List.length_append, List.length_cons, List.length_cons, List.length_nil]; omega, by omega⟩
set_option maxRecDepth 100000 in
set_option maxHeartbeats 16000000 in
theorem step1_any (w0 W : World) (x : RtV) (P : List Int) (dl : List Stp) (R : List (Int × Nat)) (cl : List (Nat × Int)) (n mo : Int) (ye pu : Bool) (ee : Int) (h : RtAt w0 W x P dl R R cl cl) (hG : Good dl R) (hP : P.length ≤ 4096) (hU : UpOk P) (hR : R.length ≤ 4096) (hdl : dl.length ≤ 67100000) (hcl : cl.length ≤ 68719476736)  : Calls Try.prog 23 #[.pointer (some ⟨x.wb, 0, none⟩), .agg #[.int .i64 1, .int .i64 n, .int .i64 mo, .bool ye, .bool pu, .int .i32 ee], .int .i64 P.length] W (RetStp w0 W x P dl R cl) := by
  have H := Lib.hid h
  have HG := Lib.hid hG
  have HUP := Lib.hid hU
  clear hU hG
  obtain ⟨W1, hW1⟩ : ∃ W1, W1 = W.alloc (.cells #[.int .i64 1, .int .i64 n, .int .i64 mo, .bool ye, .bool pu, .int .i32 ee] 60) := ⟨_, rfl⟩
  have BW1 := Lib.hid (show Below W.heap.size W W1 from by rw [hW1]; exact below_al (Below.refl _ _) _)
  have SB1 := Lib.hid (show W1.heap[W.heap.size]? = some (.cells #[.int .i64 1, .int .i64 n, .int .i64 mo, .bool ye, .bool pu, .int .i32 ee] 60 (0, 0)) from by rw [hW1]; exact heap_alloc_new _ _)
  have HA1 := Lib.hid (H.out.later BW1.out)
  have zw := lt_of_block HA1.out.wo
  have HPO := Lib.hid (fun (W' : World) (hh : StepOk w0 W x P dl R cl W') => show RetStp w0 W x P dl R cl (.returned (.bool true)) W' from ⟨rfl, hh⟩)
  generalize RetStp w0 W x P dl R cl = post at *
  clear h
  have HSC := Lib.hid (fun (w' : World) (hh : w'.heap[W.heap.size]? = W1.heap[W.heap.size]?) => show (W.heap.size < w'.heap.size ∧ w'.cell? ⟨W.heap.size, 0, none⟩ = some (.int .i64 1) ∧ w'.cell? ⟨W.heap.size, 1, none⟩ = some (.int .i64 n) ∧ w'.cell? ⟨W.heap.size, 2, none⟩ = some (.int .i64 mo) ∧ w'.cell? ⟨W.heap.size, 3, none⟩ = some (.bool ye) ∧ w'.cell? ⟨W.heap.size, 4, none⟩ = some (.bool pu) ∧ w'.cell? ⟨W.heap.size, 5, none⟩ = some (.int .i32 ee)) from by
    replace hh := hh.trans SB1.out
    refine ⟨lt_of_block hh, ?_, ?_, ?_, ?_, ?_, ?_⟩ <;> (rw [cell_of_row _ _ _ _ _ _ hh]; rfl))
  have HSW := Lib.hid hW1
  clear hW1
  go_enter Try.func23, Try.ntmps23
  go_upto_region 1 with (fail)
  rw [← HSW.out]
  clear HSW
  obtain ⟨y0, y1, y2, y3, y4, y5, y6⟩ := HSC.out W1 rfl
  have HA1w := Lib.hid HA1.out.wo
  have c0 : W1.cell? ⟨x.wb, 0, none⟩ = some (.pointer (some ⟨x.rb, 0, none⟩)) := by rw [cell_of_row _ _ _ _ _ _ HA1w.out]; rfl
  have c1 : W1.cell? ⟨x.wb, 1, none⟩ = some (.pointer (some ⟨x.g, 0, none⟩)) := by rw [cell_of_row _ _ _ _ _ _ HA1w.out]; rfl
  obtain ⟨er, her⟩ : ∃ z, z = onN P.length n := ⟨_, rfl⟩
  have HON := Lib.hid (fun (k : Nat) => show Calls Try.prog 22 #[.pointer (some ⟨x.rb, 0, none⟩), .int .i64 n, .nilFunc] (W1.drewN k) (fun e w' => e = .returned (.int .i64 er) ∧ W1.drewN k = w') from by rw [her]; exact On_nilany x.rb P.length n _ _ _ (W1.drewN k) HA1.out.ro.ro)
  have HRF := Lib.hid (fun (k : Nat) => show Calls Try.prog 55 #[.pointer (some ⟨x.g, 0, none⟩), .int .i64 n, .bool true, .int .i64 0] (W1.drewN k) (fun e w' => e = .returned (.int .i64 er) ∧ W1.drewN k = w') from by rw [her]; exact refOn_nil w0.heap.size x.g x.qv x.tv P R n (W1.drewN k) (HA1.out.later (W' := W1.drewN k) (below_drewN (Below.refl _ _) k)).re)
  clear her
  go_upto_region 6 with (fail)
  go_quiet (first | (go_at_call 22; exact quiet_left (HON.out _)) | (go_at_call 55; exact quiet_left (HRF.out _)))
  rename Nat => nq
  go_wp2
  exact HPO.out _ ⟨dl, R, cl, RtStep.of_below H.out (BW1.out.trans (below_drewN (Below.refl _ _) _)), HG.out, hR, by omega, by omega⟩
set_option maxRecDepth 100000 in
set_option maxHeartbeats 16000000 in
theorem step2_any (w0 W : World) (x : RtV) (P : List Int) (dl : List Stp) (R : List (Int × Nat)) (cl : List (Nat × Int)) (n mo : Int) (ye pu : Bool) (ee : Int) (h : RtAt w0 W x P dl R R cl cl) (hG : Good dl R) (hP : P.length ≤ 4096) (hU : UpOk P) (hR : R.length ≤ 4096) (hdl : dl.length ≤ 67100000) (hcl : cl.length ≤ 68719476736)  : Calls Try.prog 23 #[.pointer (some ⟨x.wb, 0, none⟩), .agg #[.int .i64 2, .int .i64 n, .int .i64 mo, .bool ye, .bool pu, .int .i32 ee], .int .i64 P.length] W (RetStp w0 W x P dl R cl) := by
  have H := Lib.hid h
  have HG := Lib.hid hG
  have HUP := Lib.hid hU
  clear hU hG
  obtain ⟨W1, hW1⟩ : ∃ W1, W1 = W.alloc (.cells #[.int .i64 2, .int .i64 n, .int .i64 mo, .bool ye, .bool pu, .int .i32 ee] 60) := ⟨_, rfl⟩
  have BW1 := Lib.hid (show Below W.heap.size W W1 from by rw [hW1]; exact below_al (Below.refl _ _) _)
  have SB1 := Lib.hid (show W1.heap[W.heap.size]? = some (.cells #[.int .i64 2, .int .i64 n, .int .i64 mo, .bool ye, .bool pu, .int .i32 ee] 60 (0, 0)) from by rw [hW1]; exact heap_alloc_new _ _)
  have HA1 := Lib.hid (H.out.later BW1.out)
  have zw := lt_of_block HA1.out.wo
  have HPO := Lib.hid (fun (W' : World) (hh : StepOk w0 W x P dl R cl W') => show RetStp w0 W x P dl R cl (.returned (.bool true)) W' from ⟨rfl, hh⟩)
  generalize RetStp w0 W x P dl R cl = post at *
  clear h
  have HSC := Lib.hid (fun (w' : World) (hh : w'.heap[W.heap.size]? = W1.heap[W.heap.size]?) => show (W.heap.size < w'.heap.size ∧ w'.cell? ⟨W.heap.size, 0, none⟩ = some (.int .i64 2) ∧ w'.cell? ⟨W.heap.size, 1, none⟩ = some (.int .i64 n) ∧ w'.cell? ⟨W.heap.size, 2, none⟩ = some (.int .i64 mo) ∧ w'.cell? ⟨W.heap.size, 3, none⟩ = some (.bool ye) ∧ w'.cell? ⟨W.heap.size, 4, none⟩ = some (.bool pu) ∧ w'.cell? ⟨W.heap.size, 5, none⟩ = some (.int .i32 ee)) from by
    replace hh := hh.trans SB1.out
    refine ⟨lt_of_block hh, ?_, ?_, ?_, ?_, ?_, ?_⟩ <;> (rw [cell_of_row _ _ _ _ _ _ hh]; rfl))
  have HSW := Lib.hid hW1
  clear hW1
  go_enter Try.func23, Try.ntmps23
  go_upto_region 1 with (fail)
  rw [← HSW.out]
  clear HSW
  obtain ⟨y0, y1, y2, y3, y4, y5, y6⟩ := HSC.out W1 rfl
  go_upto_region 9 with (fail)
  obtain ⟨W2, hW2⟩ : ∃ z, z = W1.alloc (.cells #[.int .i8 2, .int .i32 ee, .int .u8 0, .int .i64 0, .int .i64 0, .string ⟨#[101]⟩] 62) := ⟨_, rfl⟩
  have HB2 := Lib.hid (show Below W1.heap.size W1 W2 from by rw [hW2]; exact below_al (Below.refl _ _) _)
  have EV2 := Lib.hid (show W2.heap[W1.heap.size]? = some (.cells (evC ee) 62 (0, 0)) from by rw [hW2]; exact heap_alloc_new _ _)
  rw [← hW2]
  clear hW2 y0 y1 y2 y3 y4 y5 y6
  have HA2 := Lib.hid (HA1.out.later HB2.out)
  have HSB := Lib.hid (show W2.heap[W.heap.size]? = W1.heap[W.heap.size]? from HB2.out.block _ (lt_of_block SB1.out))
  have zw2 := lt_of_block HA2.out.wo
  obtain ⟨y0, y1, y2, y3, y4, y5, y6⟩ := HSC.out W2 HSB.out
  have HW2c := Lib.hid (show W2.cell? ⟨x.wb, 0, none⟩ = some (.pointer (some ⟨x.rb, 0, none⟩)) by rw [cell_of_row _ _ _ _ _ _ HA2.out.wo]; rfl)
  by_cases hn : n < 0 ∨ (P.length : Int) ≤ n
  · rcases Classical.em (n < 0) with h0 | h0
    · skip
      go_upto_region 10 with (fail)
      clear y0 y1 y2 y3 y4 y5 y6
      have HS := Lib.hid (fun (w' : World) (hh : w'.cell? ⟨x.wb, 0, none⟩ = some (.pointer (some ⟨x.rb, 0, none⟩)) ∧ x.wb < w'.heap.size ∧ w'.heap[W.heap.size]? = W2.heap[W.heap.size]? ∧ w'.heap[W1.heap.size]? = W2.heap[W1.heap.size]?) => show (x.wb < w'.heap.size ∧ W.heap.size < w'.heap.size ∧ W1.heap.size < w'.heap.size ∧ w'.cell? ⟨x.wb, 0, none⟩ = some (.pointer (some ⟨x.rb, 0, none⟩)) ∧ w'.cell? ⟨W.heap.size, 1, none⟩ = some (.int .i64 n) ∧ w'.cell? ⟨W1.heap.size, 0, none⟩ = some (.int .i8 2) ∧ w'.cell? ⟨W1.heap.size, 1, none⟩ = some (.int .i32 ee) ∧ w'.cell? ⟨W1.heap.size, 2, none⟩ = some (.int .u8 0) ∧ w'.cell? ⟨W1.heap.size, 3, none⟩ = some (.int .i64 0) ∧ w'.cell? ⟨W1.heap.size, 4, none⟩ = some (.int .i64 0) ∧ w'.cell? ⟨W1.heap.size, 5, none⟩ = some (.string ⟨#[101]⟩)) from by
        obtain ⟨h1, h2, h3, h4⟩ := hh
        obtain ⟨v0, _, v2, _⟩ := HSC.out w' (h3.trans HSB.out)
        replace h4 := h4.trans EV2.out
        refine ⟨h2, v0, lt_of_block h4, h1, v2, ?_, ?_, ?_, ?_, ?_, ?_⟩ <;> (rw [cell_of_row _ _ _ _ _ _ h4]; rfl))
      have HSD := Lib.hid (show W2.drew.cell? ⟨x.wb, 0, none⟩ = some (.pointer (some ⟨x.rb, 0, none⟩)) ∧ x.wb < W2.drew.heap.size ∧ W2.drew.heap[W.heap.size]? = W2.heap[W.heap.size]? ∧ W2.drew.heap[W1.heap.size]? = W2.heap[W1.heap.size]? from ⟨HW2c.out, zw2, rfl, rfl⟩)
      refine wp_region_noPanic ?_
      refine wp_region_Z (fun w' => w'.cell? ⟨x.wb, 0, none⟩ = some (.pointer (some ⟨x.rb, 0, none⟩)) ∧ x.wb < w'.heap.size ∧ w'.heap[W.heap.size]? = W2.heap[W.heap.size]? ∧ w'.heap[W1.heap.size]? = W2.heap[W1.heap.size]?) 12 (by kernel_rfl) ?_
      change wpAnyZ _ _ _ _ _ _ 13 (Array.replicate 13 false) _ _
      refine wpAnyZ_take [10, 8, 7, 3, 2, 1] (i := 0) (v := ?va0) (by simp only [List.getElem?_toArray, List.getElem?_cons_succ, List.getElem?_cons_zero]; rfl) (by decide +kernel) (fun _ _ _ h => h) (by rfl) ?ta0 ?sa0 ?_
      case ta0 => (intro w' h; clear h; go_simp; try rfl)
      case sa0 => exact HSD.out
      (try simp only [Act.put, List.setIfInBounds_toArray, List.set_cons_zero, List.set_cons_succ])
      refine wpAnyZ_take [10, 8, 7, 3, 2] (i := 1) (v := ?va1) (by simp only [List.getElem?_toArray, List.getElem?_cons_succ, List.getElem?_cons_zero]; rfl) (by decide +kernel) (fun _ _ _ h => h) (by rfl) ?ta1 ?sa1 ?_
      case ta1 => (intro w' h; have FK := HS.out w' h; clear h; go_split_ands; go_simp; try rfl)
      case sa1 => exact HSD.out
      (try simp only [Act.put, List.setIfInBounds_toArray, List.set_cons_zero, List.set_cons_succ])
      refine wpAnyZ_take [10, 8, 7, 3] (i := 2) (v := ?va2) (by simp only [List.getElem?_toArray, List.getElem?_cons_succ, List.getElem?_cons_zero]; rfl) (by decide +kernel) (fun _ _ _ h => h) (by rfl) ?ta2 ?sa2 ?_
      case ta2 => (intro w' h; clear h; go_simp; try rfl)
      case sa2 => exact HSD.out
      (try simp only [Act.put, List.setIfInBounds_toArray, List.set_cons_zero, List.set_cons_succ])
      refine wpAnyZ_take [10, 8, 7] (i := 3) (v := ?va3) (by simp only [List.getElem?_toArray, List.getElem?_cons_succ, List.getElem?_cons_zero]; rfl) (by decide +kernel) (fun _ _ _ h => h) (by rfl) ?ta3 ?sa3 ?_
      case ta3 => (intro w' h; have FK := HS.out w' h; clear h; go_split_ands; go_simp; try rfl)
      case sa3 => exact HSD.out
      (try simp only [Act.put, List.setIfInBounds_toArray, List.set_cons_zero, List.set_cons_succ])
      refine wpAnyZ_take [10, 8, 7, 5] (i := 4) (v := ?va4) (by simp only [List.getElem?_toArray, List.getElem?_cons_succ, List.getElem?_cons_zero]; rfl) (by decide +kernel) (fun _ _ _ h => h) (by rfl) ?ta4 ?sa4 ?_
      case ta4 => (intro w' h; clear h; go_simp; try rfl)
      case sa4 => exact HSD.out
      (try simp only [Act.put, List.setIfInBounds_toArray, List.set_cons_zero, List.set_cons_succ])
      refine wpAnyZ_take [10, 8, 7] (i := 5) (v := ?va5) (by simp only [List.getElem?_toArray, List.getElem?_cons_succ, List.getElem?_cons_zero]; rfl) (by decide +kernel) (fun _ _ _ h => h) (by rfl) ?ta5 ?sa5 ?_
      case ta5 => (intro w' h; have FK := HS.out w' h; clear h; go_split_ands; go_simp; try rfl)
      case sa5 => exact HSD.out
      (try simp only [Act.put, List.setIfInBounds_toArray, List.set_cons_zero, List.set_cons_succ])
      refine wpAnyZ_take [10, 8, 7] (i := 6) (v := ?va6) (by simp only [List.getElem?_toArray, List.getElem?_cons_succ, List.getElem?_cons_zero]; rfl) (by decide +kernel) (fun _ _ _ h => h) (by rfl) ?ta6 ?sa6 ?_
      case ta6 => (intro w' h; have FK := HS.out w' h; clear h; go_split_ands; go_simp; try rfl)
      case sa6 => exact HSD.out
      (try simp only [Act.put, List.setIfInBounds_toArray, List.set_cons_zero, List.set_cons_succ])
      have HSN := Lib.hid (show Calls Try.prog 45 #[.pointer (some ⟨x.rb, 0, none⟩), .int .i64 n, .agg #[.int .i8 2, .int .i32 ee, .int .u8 0, .int .i64 0, .int .i64 0, .string ⟨#[101]⟩]] W2.drew (fun e W' => e = .returned (.tuple #[.int .i64 0, .int .i64 2]) ∧ Below W2.drew.heap.size W2.drew W') from by
        have hq := Send_arg x.rb P.length n (parF x.pv) (.map (some x.mb)) R.length 2 ee 0 0 0 ⟨#[101]⟩ W2.drew (show W2.drew.heap[x.rb]? = _ from HA2.out.ro.ro) (by first | exact .inl h0 | exact .inr h2)
        unfold evV at hq
        exact hq)
      refine wpAnyZ_one (i := 7) (by decide +kernel) ?_
      refine wpOpK_call (by simp only [List.getElem?_toArray, List.getElem?_cons_succ, List.getElem?_cons_zero]; rfl) (by rfl) (by go_simp; first | exact ⟨rfl, rfl⟩ | rfl) ?_
      refine (HSN.out).mono ?_
      rintro e w3 ⟨rfl, hb3⟩
      have HB3 := Lib.hid (show Below W2.heap.size W2 w3 from (Below.drew (Below.refl _ _)).trans hb3)
      clear hb3
      have HS3 := Lib.hid (show w3.cell? ⟨x.wb, 0, none⟩ = some (.pointer (some ⟨x.rb, 0, none⟩)) ∧ x.wb < w3.heap.size ∧ w3.heap[W.heap.size]? = W2.heap[W.heap.size]? ∧ w3.heap[W1.heap.size]? = W2.heap[W1.heap.size]? from ⟨by rw [(bcell HB3.out).1 _ _ zw2]; exact HW2c.out, Nat.lt_of_lt_of_le zw2 HB3.out.size, HB3.out.block _ (Nat.lt_of_lt_of_le (lt_of_block SB1.out) HB2.out.size), HB3.out.block _ (lt_of_block EV2.out)⟩)
      refine ⟨_, rfl, .inr HS3.out, ?_⟩
      (try simp only [Act.put, List.setIfInBounds_toArray, List.set_cons_zero, List.set_cons_succ])
      refine wpAnyZ_take [10] (i := 8) (v := ?va8) (by simp only [List.getElem?_toArray, List.getElem?_cons_succ, List.getElem?_cons_zero]; rfl) (by decide +kernel) (fun _ _ _ h => h) (by rfl) ?ta8 ?sa8 ?_
      case ta8 => (intro w' h; clear h; go_simp; try rfl)
      case sa8 => exact HS3.out
      (try simp only [Act.put, List.setIfInBounds_toArray, List.set_cons_zero, List.set_cons_succ])
      refine wpAnyZ_take [11] (i := 9) (v := ?va9) (by simp only [List.getElem?_toArray, List.getElem?_cons_succ, List.getElem?_cons_zero]; rfl) (by decide +kernel) (fun _ _ _ h => h) (by rfl) ?ta9 ?sa9 ?_
      case ta9 => (intro w' h; clear h; go_simp; try rfl)
      case sa9 => exact HS3.out
      (try simp only [Act.put, List.setIfInBounds_toArray, List.set_cons_zero, List.set_cons_succ])
      refine wpAnyZ_take [] (i := 10) (v := ?va10) (by simp only [List.getElem?_toArray, List.getElem?_cons_succ, List.getElem?_cons_zero]; rfl) (by decide +kernel) (fun _ _ _ h => h) (by rfl) ?ta10 ?sa10 ?_
      case ta10 => (intro w' h; clear h; go_simp; try rfl)
      case sa10 => exact HS3.out
      (try simp only [Act.put, List.setIfInBounds_toArray, List.set_cons_zero, List.set_cons_succ])
      refine wpAnyZ_take [] (i := 11) (v := ?va11) (by simp only [List.getElem?_toArray, List.getElem?_cons_succ, List.getElem?_cons_zero]; rfl) (by decide +kernel) (fun _ _ _ h => h) (by rfl) ?ta11 ?sa11 ?_
      case ta11 => (intro w' h; clear h; go_simp; try rfl)
      case sa11 => exact HS3.out
      (try simp only [Act.put, List.setIfInBounds_toArray, List.set_cons_zero, List.set_cons_succ])
      refine wpAnyZ_one (i := 12) (by decide +kernel) ?_
      refine wpOpK_value (v := .int .i64 2) (w' := w3) (by simp only [List.getElem?_toArray, List.getElem?_cons_succ, List.getElem?_cons_zero]; rfl) (by rfl) ?ma12 ⟨.inl rfl, ?_⟩
      case ma12 => (go_simp; try rfl)
      (try simp only [Act.put, List.setIfInBounds_toArray, List.set_cons_zero, List.set_cons_succ])
      refine wpAnyZ_done (by kernel_rfl) (NoPanic.normal ?_) _
      go_wp2
      exact HPO.out _ ⟨dl, R, cl, RtStep.of_below H.out (below_via HB3.out (below_via HB2.out BW1.out)), HG.out, hR, by omega, by omega⟩
    · have h1 : ¬ n < (P.length : Int) := by omega
      have h2 : (P.length : Int) ≤ n := by omega
      go_upto_region 10 with (fail)
      clear y0 y1 y2 y3 y4 y5 y6
      have HS := Lib.hid (fun (w' : World) (hh : w'.cell? ⟨x.wb, 0, none⟩ = some (.pointer (some ⟨x.rb, 0, none⟩)) ∧ x.wb < w'.heap.size ∧ w'.heap[W.heap.size]? = W2.heap[W.heap.size]? ∧ w'.heap[W1.heap.size]? = W2.heap[W1.heap.size]?) => show (x.wb < w'.heap.size ∧ W.heap.size < w'.heap.size ∧ W1.heap.size < w'.heap.size ∧ w'.cell? ⟨x.wb, 0, none⟩ = some (.pointer (some ⟨x.rb, 0, none⟩)) ∧ w'.cell? ⟨W.heap.size, 1, none⟩ = some (.int .i64 n) ∧ w'.cell? ⟨W1.heap.size, 0, none⟩ = some (.int .i8 2) ∧ w'.cell? ⟨W1.heap.size, 1, none⟩ = some (.int .i32 ee) ∧ w'.cell? ⟨W1.heap.size, 2, none⟩ = some (.int .u8 0) ∧ w'.cell? ⟨W1.heap.size, 3, none⟩ = some (.int .i64 0) ∧ w'.cell? ⟨W1.heap.size, 4, none⟩ = some (.int .i64 0) ∧ w'.cell? ⟨W1.heap.size, 5, none⟩ = some (.string ⟨#[101]⟩)) from by
        obtain ⟨h1, h2, h3, h4⟩ := hh
        obtain ⟨v0, _, v2, _⟩ := HSC.out w' (h3.trans HSB.out)
        replace h4 := h4.trans EV2.out
        refine ⟨h2, v0, lt_of_block h4, h1, v2, ?_, ?_, ?_, ?_, ?_, ?_⟩ <;> (rw [cell_of_row _ _ _ _ _ _ h4]; rfl))
      have HSD := Lib.hid (show W2.drew.cell? ⟨x.wb, 0, none⟩ = some (.pointer (some ⟨x.rb, 0, none⟩)) ∧ x.wb < W2.drew.heap.size ∧ W2.drew.heap[W.heap.size]? = W2.heap[W.heap.size]? ∧ W2.drew.heap[W1.heap.size]? = W2.heap[W1.heap.size]? from ⟨HW2c.out, zw2, rfl, rfl⟩)
      refine wp_region_noPanic ?_
      refine wp_region_Z (fun w' => w'.cell? ⟨x.wb, 0, none⟩ = some (.pointer (some ⟨x.rb, 0, none⟩)) ∧ x.wb < w'.heap.size ∧ w'.heap[W.heap.size]? = W2.heap[W.heap.size]? ∧ w'.heap[W1.heap.size]? = W2.heap[W1.heap.size]?) 12 (by kernel_rfl) ?_
      change wpAnyZ _ _ _ _ _ _ 13 (Array.replicate 13 false) _ _
      refine wpAnyZ_take [10, 8, 7, 3, 2, 1] (i := 0) (v := ?va0) (by simp only [List.getElem?_toArray, List.getElem?_cons_succ, List.getElem?_cons_zero]; rfl) (by decide +kernel) (fun _ _ _ h => h) (by rfl) ?ta0 ?sa0 ?_
      case ta0 => (intro w' h; clear h; go_simp; try rfl)
      case sa0 => exact HSD.out
      (try simp only [Act.put, List.setIfInBounds_toArray, List.set_cons_zero, List.set_cons_succ])
      refine wpAnyZ_take [10, 8, 7, 3, 2] (i := 1) (v := ?va1) (by simp only [List.getElem?_toArray, List.getElem?_cons_succ, List.getElem?_cons_zero]; rfl) (by decide +kernel) (fun _ _ _ h => h) (by rfl) ?ta1 ?sa1 ?_
      case ta1 => (intro w' h; have FK := HS.out w' h; clear h; go_split_ands; go_simp; try rfl)
      case sa1 => exact HSD.out
      (try simp only [Act.put, List.setIfInBounds_toArray, List.set_cons_zero, List.set_cons_succ])
      refine wpAnyZ_take [10, 8, 7, 3] (i := 2) (v := ?va2) (by simp only [List.getElem?_toArray, List.getElem?_cons_succ, List.getElem?_cons_zero]; rfl) (by decide +kernel) (fun _ _ _ h => h) (by rfl) ?ta2 ?sa2 ?_
      case ta2 => (intro w' h; clear h; go_simp; try rfl)
      case sa2 => exact HSD.out
      (try simp only [Act.put, List.setIfInBounds_toArray, List.set_cons_zero, List.set_cons_succ])
      refine wpAnyZ_take [10, 8, 7] (i := 3) (v := ?va3) (by simp only [List.getElem?_toArray, List.getElem?_cons_succ, List.getElem?_cons_zero]; rfl) (by decide +kernel) (fun _ _ _ h => h) (by rfl) ?ta3 ?sa3 ?_
      case ta3 => (intro w' h; have FK := HS.out w' h; clear h; go_split_ands; go_simp; try rfl)
      case sa3 => exact HSD.out
      (try simp only [Act.put, List.setIfInBounds_toArray, List.set_cons_zero, List.set_cons_succ])
      refine wpAnyZ_take [10, 8, 7, 5] (i := 4) (v := ?va4) (by simp only [List.getElem?_toArray, List.getElem?_cons_succ, List.getElem?_cons_zero]; rfl) (by decide +kernel) (fun _ _ _ h => h) (by rfl) ?ta4 ?sa4 ?_
      case ta4 => (intro w' h; clear h; go_simp; try rfl)
      case sa4 => exact HSD.out
      (try simp only [Act.put, List.setIfInBounds_toArray, List.set_cons_zero, List.set_cons_succ])
      refine wpAnyZ_take [10, 8, 7] (i := 5) (v := ?va5) (by simp only [List.getElem?_toArray, List.getElem?_cons_succ, List.getElem?_cons_zero]; rfl) (by decide +kernel) (fun _ _ _ h => h) (by rfl) ?ta5 ?sa5 ?_
      case ta5 => (intro w' h; have FK := HS.out w' h; clear h; go_split_ands; go_simp; try rfl)
      case sa5 => exact HSD.out
      (try simp only [Act.put, List.setIfInBounds_toArray, List.set_cons_zero, List.set_cons_succ])
      refine wpAnyZ_take [10, 8, 7] (i := 6) (v := ?va6) (by simp only [List.getElem?_toArray, List.getElem?_cons_succ, List.getElem?_cons_zero]; rfl) (by decide +kernel) (fun _ _ _ h => h) (by rfl) ?ta6 ?sa6 ?_
      case ta6 => (intro w' h; have FK := HS.out w' h; clear h; go_split_ands; go_simp; try rfl)
      case sa6 => exact HSD.out
      (try simp only [Act.put, List.setIfInBounds_toArray, List.set_cons_zero, List.set_cons_succ])
      have HSN := Lib.hid (show Calls Try.prog 45 #[.pointer (some ⟨x.rb, 0, none⟩), .int .i64 n, .agg #[.int .i8 2, .int .i32 ee, .int .u8 0, .int .i64 0, .int .i64 0, .string ⟨#[101]⟩]] W2.drew (fun e W' => e = .returned (.tuple #[.int .i64 0, .int .i64 2]) ∧ Below W2.drew.heap.size W2.drew W') from by
        have hq := Send_arg x.rb P.length n (parF x.pv) (.map (some x.mb)) R.length 2 ee 0 0 0 ⟨#[101]⟩ W2.drew (show W2.drew.heap[x.rb]? = _ from HA2.out.ro.ro) (by first | exact .inl h0 | exact .inr h2)
        unfold evV at hq
        exact hq)
      refine wpAnyZ_one (i := 7) (by decide +kernel) ?_
      refine wpOpK_call (by simp only [List.getElem?_toArray, List.getElem?_cons_succ, List.getElem?_cons_zero]; rfl) (by rfl) (by go_simp; first | exact ⟨rfl, rfl⟩ | rfl) ?_
      refine (HSN.out).mono ?_
      rintro e w3 ⟨rfl, hb3⟩
      have HB3 := Lib.hid (show Below W2.heap.size W2 w3 from (Below.drew (Below.refl _ _)).trans hb3)
      clear hb3
      have HS3 := Lib.hid (show w3.cell? ⟨x.wb, 0, none⟩ = some (.pointer (some ⟨x.rb, 0, none⟩)) ∧ x.wb < w3.heap.size ∧ w3.heap[W.heap.size]? = W2.heap[W.heap.size]? ∧ w3.heap[W1.heap.size]? = W2.heap[W1.heap.size]? from ⟨by rw [(bcell HB3.out).1 _ _ zw2]; exact HW2c.out, Nat.lt_of_lt_of_le zw2 HB3.out.size, HB3.out.block _ (Nat.lt_of_lt_of_le (lt_of_block SB1.out) HB2.out.size), HB3.out.block _ (lt_of_block EV2.out)⟩)
      refine ⟨_, rfl, .inr HS3.out, ?_⟩
      (try simp only [Act.put, List.setIfInBounds_toArray, List.set_cons_zero, List.set_cons_succ])
      refine wpAnyZ_take [10] (i := 8) (v := ?va8) (by simp only [List.getElem?_toArray, List.getElem?_cons_succ, List.getElem?_cons_zero]; rfl) (by decide +kernel) (fun _ _ _ h => h) (by rfl) ?ta8 ?sa8 ?_
      case ta8 => (intro w' h; clear h; go_simp; try rfl)
      case sa8 => exact HS3.out
      (try simp only [Act.put, List.setIfInBounds_toArray, List.set_cons_zero, List.set_cons_succ])
      refine wpAnyZ_take [11] (i := 9) (v := ?va9) (by simp only [List.getElem?_toArray, List.getElem?_cons_succ, List.getElem?_cons_zero]; rfl) (by decide +kernel) (fun _ _ _ h => h) (by rfl) ?ta9 ?sa9 ?_
      case ta9 => (intro w' h; clear h; go_simp; try rfl)
      case sa9 => exact HS3.out
      (try simp only [Act.put, List.setIfInBounds_toArray, List.set_cons_zero, List.set_cons_succ])
      refine wpAnyZ_take [] (i := 10) (v := ?va10) (by simp only [List.getElem?_toArray, List.getElem?_cons_succ, List.getElem?_cons_zero]; rfl) (by decide +kernel) (fun _ _ _ h => h) (by rfl) ?ta10 ?sa10 ?_
      case ta10 => (intro w' h; clear h; go_simp; try rfl)
      case sa10 => exact HS3.out
      (try simp only [Act.put, List.setIfInBounds_toArray, List.set_cons_zero, List.set_cons_succ])
      refine wpAnyZ_take [] (i := 11) (v := ?va11) (by simp only [List.getElem?_toArray, List.getElem?_cons_succ, List.getElem?_cons_zero]; rfl) (by decide +kernel) (fun _ _ _ h => h) (by rfl) ?ta11 ?sa11 ?_
      case ta11 => (intro w' h; clear h; go_simp; try rfl)
      case sa11 => exact HS3.out
      (try simp only [Act.put, List.setIfInBounds_toArray, List.set_cons_zero, List.set_cons_succ])
      refine wpAnyZ_one (i := 12) (by decide +kernel) ?_
      refine wpOpK_value (v := .int .i64 2) (w' := w3) (by simp only [List.getElem?_toArray, List.getElem?_cons_succ, List.getElem?_cons_zero]; rfl) (by rfl) ?ma12 ⟨.inl rfl, ?_⟩
      case ma12 => (go_simp; try rfl)
      (try simp only [Act.put, List.setIfInBounds_toArray, List.set_cons_zero, List.set_cons_succ])
      refine wpAnyZ_done (by kernel_rfl) (NoPanic.normal ?_) _
      go_wp2
      exact HPO.out _ ⟨dl, R, cl, RtStep.of_below H.out (below_via HB3.out (below_via HB2.out BW1.out)), HG.out, hR, by omega, by omega⟩
  · obtain ⟨k, rfl⟩ := Int.eq_ofNat_of_zero_le (show 0 ≤ n by omega)
    have hk : k < P.length := by omega
    have hki : ¬ (P.length : Int) ≤ (k : Int) := by omega
    have hk0 : ¬ (k : Int) < 0 := by omega
    have hkd : decide ((P.length : Int) ≤ (k : Int)) = false := by simpa using hki
    have hkd2 : decide (P.length ≤ k) = false := by simp; omega
    obtain ⟨r, hr⟩ : ∃ r, r = sentR P.length dl (R, []) (wayR P R P.length k) := ⟨_, rfl⟩
    have HGR := Lib.hid (show Good dl r.1.1 from by rw [hr]; exact Good.sent P.length _ _ HG.out (fun y hy => HG.out y (wayR_mem hy)))
    have HLR := Lib.hid (show r.1.1.length ≤ 4096 ∧ r.1.2.length ≤ 16777216 from by
      have h1 := sentR_len P.length dl (wayR P R P.length k) (R, []) hR
      rw [← hr] at h1
      have h2 := wayR_len P R P.length k
      have h3 := Nat.mul_le_mul hP hR
      exact ⟨h1.1, by have := h1.2; simp only [List.length_nil] at this; omega⟩)
    have HRR := Lib.hid hr
    clear hr
    have HZ := Lib.hid (And.intro y0 (lt_of_block EV2.out))
    have e0 : W2.cell? ⟨W1.heap.size, 0, none⟩ = some (.int .i8 2) := by rw [cell_of_row _ _ _ _ _ _ EV2.out]; rfl
    have e1 : W2.cell? ⟨W1.heap.size, 1, none⟩ = some (.int .i32 ee) := by rw [cell_of_row _ _ _ _ _ _ EV2.out]; rfl
    have e2 : W2.cell? ⟨W1.heap.size, 2, none⟩ = some (.int .u8 0) := by rw [cell_of_row _ _ _ _ _ _ EV2.out]; rfl
    have e3 : W2.cell? ⟨W1.heap.size, 3, none⟩ = some (.int .i64 0) := by rw [cell_of_row _ _ _ _ _ _ EV2.out]; rfl
    have e4 : W2.cell? ⟨W1.heap.size, 4, none⟩ = some (.int .i64 0) := by rw [cell_of_row _ _ _ _ _ _ EV2.out]; rfl
    have e5 : W2.cell? ⟨W1.heap.size, 5, none⟩ = some (.string ⟨#[101]⟩) := by rw [cell_of_row _ _ _ _ _ _ EV2.out]; rfl
    have ze := HZ.out.2
    go_wp2_with fail
    refine (sent_any w0 W2 x P dl R R cl cl k ee HA2.out hk hP HUP.out hR (fun y hy => (HG.out y hy).1) (by omega) (by omega)).mono ?_
    intro e W3 hrs
    obtain ⟨rfl, ST3⟩ := hrs
    rw [← HRR.out] at ST3 ⊢
    obtain ⟨⟨x1, e1w, A1, o1⟩, z1, f1⟩ := ST3
    have HA3 := Lib.hid A1
    have HO1 := Lib.hid (And.intro o1 (And.intro z1 f1))
    clear A1 o1 f1 e0 e1 e2 e3 e4 e5 y0 y1 y2 y3 y4 y5 y6 ze
    have hsb : ¬ AllO x W.heap.size := fun e => by have := allO_lt H.out e; omega
    have hse : ¬ AllO x W1.heap.size := fun e => by have := allO_lt HA1.out e; omega
    have hsb3 : ¬ AllO x1 W.heap.size := fun e => (HO1.out.1 _ e).elim hsb (fun h => by have := HZ.out.1; omega)
    have hse3 : ¬ AllO x1 W1.heap.size := fun e => (HO1.out.1 _ e).elim hse (fun h => by have := HZ.out.2; omega)
    have HF3 := Lib.hid (And.intro (HO1.out.2.2 _ HZ.out.1 hsb) (HO1.out.2.2 _ HZ.out.2 hse))
    have zw3 := lt_of_block HA3.out.wo
    rw [e1w] at zw3
    have HW3c := Lib.hid (show W3.cell? ⟨x.wb, 0, none⟩ = some (.pointer (some ⟨x1.rb, 0, none⟩)) by rw [← e1w, cell_of_row _ _ _ _ _ _ HA3.out.wo]; rfl)
    obtain ⟨rn, hrn⟩ : ∃ z, z = r.2 := ⟨_, rfl⟩
    rw [← hrn]
    have HRN := Lib.hid hrn
    clear hrn
    have HS := Lib.hid (fun (w' : World) (hh : w'.cell? ⟨x.wb, 0, none⟩ = some (.pointer (some ⟨x1.rb, 0, none⟩)) ∧ x.wb < w'.heap.size ∧ w'.heap[W.heap.size]? = W2.heap[W.heap.size]? ∧ w'.heap[W1.heap.size]? = W2.heap[W1.heap.size]?) => show (x.wb < w'.heap.size ∧ W.heap.size < w'.heap.size ∧ W1.heap.size < w'.heap.size ∧ w'.cell? ⟨x.wb, 0, none⟩ = some (.pointer (some ⟨x1.rb, 0, none⟩)) ∧ w'.cell? ⟨W.heap.size, 1, none⟩ = some (.int .i64 k) ∧ w'.cell? ⟨W1.heap.size, 0, none⟩ = some (.int .i8 2) ∧ w'.cell? ⟨W1.heap.size, 1, none⟩ = some (.int .i32 ee) ∧ w'.cell? ⟨W1.heap.size, 2, none⟩ = some (.int .u8 0) ∧ w'.cell? ⟨W1.heap.size, 3, none⟩ = some (.int .i64 0) ∧ w'.cell? ⟨W1.heap.size, 4, none⟩ = some (.int .i64 0) ∧ w'.cell? ⟨W1.heap.size, 5, none⟩ = some (.string ⟨#[101]⟩)) from by
      obtain ⟨h1, h2, h3, h4⟩ := hh
      obtain ⟨v0, _, v2, _⟩ := HSC.out w' (h3.trans HSB.out)
      replace h4 := h4.trans EV2.out
      refine ⟨h2, v0, lt_of_block h4, h1, v2, ?_, ?_, ?_, ?_, ?_, ?_⟩ <;> (rw [cell_of_row _ _ _ _ _ _ h4]; rfl))
    go_upto_region 13 with (fail)
    have HSD := Lib.hid (show W3.drew.cell? ⟨x.wb, 0, none⟩ = some (.pointer (some ⟨x1.rb, 0, none⟩)) ∧ x.wb < W3.drew.heap.size ∧ W3.drew.heap[W.heap.size]? = W2.heap[W.heap.size]? ∧ W3.drew.heap[W1.heap.size]? = W2.heap[W1.heap.size]? from ⟨HW3c.out, zw3, HF3.out.1, HF3.out.2⟩)
    refine wp_region_noPanic ?_
    refine wp_region_Z (fun w' => w'.cell? ⟨x.wb, 0, none⟩ = some (.pointer (some ⟨x1.rb, 0, none⟩)) ∧ x.wb < w'.heap.size ∧ w'.heap[W.heap.size]? = W2.heap[W.heap.size]? ∧ w'.heap[W1.heap.size]? = W2.heap[W1.heap.size]?) 12 (by kernel_rfl) ?_
    change wpAnyZ _ _ _ _ _ _ 13 (Array.replicate 13 false) _ _
    refine wpAnyZ_take [10, 8, 7, 3, 2, 1] (i := 0) (v := ?vb0) (by simp only [List.getElem?_toArray, List.getElem?_cons_succ, List.getElem?_cons_zero]; rfl) (by decide +kernel) (fun _ _ _ h => h) (by rfl) ?tb0 ?sb0 ?_
    case tb0 => (intro w' h; clear h; go_simp; try rfl)
    case sb0 => exact HSD.out
    (try simp only [Act.put, List.setIfInBounds_toArray, List.set_cons_zero, List.set_cons_succ])
    refine wpAnyZ_take [10, 8, 7, 3, 2] (i := 1) (v := ?vb1) (by simp only [List.getElem?_toArray, List.getElem?_cons_succ, List.getElem?_cons_zero]; rfl) (by decide +kernel) (fun _ _ _ h => h) (by rfl) ?tb1 ?sb1 ?_
    case tb1 => (intro w' h; have FK := HS.out w' h; clear h; go_split_ands; go_simp; try rfl)
    case sb1 => exact HSD.out
    (try simp only [Act.put, List.setIfInBounds_toArray, List.set_cons_zero, List.set_cons_succ])
    refine wpAnyZ_take [10, 8, 7, 3] (i := 2) (v := ?vb2) (by simp only [List.getElem?_toArray, List.getElem?_cons_succ, List.getElem?_cons_zero]; rfl) (by decide +kernel) (fun _ _ _ h => h) (by rfl) ?tb2 ?sb2 ?_
    case tb2 => (intro w' h; clear h; go_simp; try rfl)
    case sb2 => exact HSD.out
    (try simp only [Act.put, List.setIfInBounds_toArray, List.set_cons_zero, List.set_cons_succ])
    refine wpAnyZ_take [10, 8, 7] (i := 3) (v := ?vb3) (by simp only [List.getElem?_toArray, List.getElem?_cons_succ, List.getElem?_cons_zero]; rfl) (by decide +kernel) (fun _ _ _ h => h) (by rfl) ?tb3 ?sb3 ?_
    case tb3 => (intro w' h; have FK := HS.out w' h; clear h; go_split_ands; go_simp; try rfl)
    case sb3 => exact HSD.out
    (try simp only [Act.put, List.setIfInBounds_toArray, List.set_cons_zero, List.set_cons_succ])
    refine wpAnyZ_take [10, 8, 7, 5] (i := 4) (v := ?vb4) (by simp only [List.getElem?_toArray, List.getElem?_cons_succ, List.getElem?_cons_zero]; rfl) (by decide +kernel) (fun _ _ _ h => h) (by rfl) ?tb4 ?sb4 ?_
    case tb4 => (intro w' h; clear h; go_simp; try rfl)
    case sb4 => exact HSD.out
    (try simp only [Act.put, List.setIfInBounds_toArray, List.set_cons_zero, List.set_cons_succ])
    refine wpAnyZ_take [10, 8, 7] (i := 5) (v := ?vb5) (by simp only [List.getElem?_toArray, List.getElem?_cons_succ, List.getElem?_cons_zero]; rfl) (by decide +kernel) (fun _ _ _ h => h) (by rfl) ?tb5 ?sb5 ?_
    case tb5 => (intro w' h; have FK := HS.out w' h; clear h; go_split_ands; go_simp; try rfl)
    case sb5 => exact HSD.out
    (try simp only [Act.put, List.setIfInBounds_toArray, List.set_cons_zero, List.set_cons_succ])
    refine wpAnyZ_take [10, 8, 7] (i := 6) (v := ?vb6) (by simp only [List.getElem?_toArray, List.getElem?_cons_succ, List.getElem?_cons_zero]; rfl) (by decide +kernel) (fun _ _ _ h => h) (by rfl) ?tb6 ?sb6 ?_
    case tb6 => (intro w' h; have FK := HS.out w' h; clear h; go_split_ands; go_simp; try rfl)
    case sb6 => exact HSD.out
    (try simp only [Act.put, List.setIfInBounds_toArray, List.set_cons_zero, List.set_cons_succ])
    have HAD := Lib.hid (HA3.out.later (W' := W3.drew) (Below.drew (Below.refl _ _)))
    have HSN := Lib.hid (show Calls Try.prog 45 #[.pointer (some ⟨x1.rb, 0, none⟩), .int .i64 k, .agg #[.int .i8 2, .int .i32 ee, .int .u8 0, .int .i64 0, .int .i64 0, .string ⟨#[101]⟩]] W3.drew (fun e W' => e = .returned (.tuple #[.int .i64 rn, .int .i64 0]) ∧ RtStep w0 W3.drew x1 P dl r.1.1 r.1.1 (cl ++ r.1.2.map (fun k => (k, ee))) (cl ++ r.1.2.map (fun k => (k, ee))) W' ∧ x1.wb < W'.heap.size ∧ W'.cell? ⟨x1.wb, 0, none⟩ = some (.pointer (some ⟨x1.rb, 0, none⟩))) from by
      have hq := sendR_any w0 W3.drew x1 P dl R r.1.1 cl (cl ++ r.1.2.map (fun k => (k, ee))) k ee HAD.out hk hP HUP.out hR (fun y hy => (HG.out y hy).1) (by omega) hcl
      unfold RetSnd evV at hq
      rw [← HRR.out, ← HRN.out] at hq
      exact hq)
    refine wpAnyZ_one (i := 7) (by decide +kernel) ?_
    refine wpOpK_call (by simp only [List.getElem?_toArray, List.getElem?_cons_succ, List.getElem?_cons_zero]; rfl) (by rfl) (by go_simp; first | exact ⟨rfl, rfl⟩ | rfl) ?_
    refine (HSN.out).mono ?_
    rintro e W4 ⟨rfl, ST4, zw4, cw4⟩
    rw [e1w] at zw4 cw4
    have HT4 := Lib.hid ST4
    have HS4 := Lib.hid (show W4.cell? ⟨x.wb, 0, none⟩ = some (.pointer (some ⟨x1.rb, 0, none⟩)) ∧ x.wb < W4.heap.size ∧ W4.heap[W.heap.size]? = W2.heap[W.heap.size]? ∧ W4.heap[W1.heap.size]? = W2.heap[W1.heap.size]? from ⟨cw4, zw4, (ST4.fr _ (Nat.lt_of_lt_of_le HZ.out.1 HO1.out.2.1) hsb3).trans HF3.out.1, (ST4.fr _ (Nat.lt_of_lt_of_le HZ.out.2 HO1.out.2.1) hse3).trans HF3.out.2⟩)
    clear ST4 zw4 cw4
    refine ⟨_, rfl, .inr HS4.out, ?_⟩
    (try simp only [Act.put, List.setIfInBounds_toArray, List.set_cons_zero, List.set_cons_succ])
    refine wpAnyZ_take [10] (i := 8) (v := ?vb8) (by simp only [List.getElem?_toArray, List.getElem?_cons_succ, List.getElem?_cons_zero]; rfl) (by decide +kernel) (fun _ _ _ h => h) (by rfl) ?tb8 ?sb8 ?_
    case tb8 => (intro w' h; clear h; go_simp; try rfl)
    case sb8 => exact HS4.out
    (try simp only [Act.put, List.setIfInBounds_toArray, List.set_cons_zero, List.set_cons_succ])
    refine wpAnyZ_take [11] (i := 9) (v := ?vb9) (by simp only [List.getElem?_toArray, List.getElem?_cons_succ, List.getElem?_cons_zero]; rfl) (by decide +kernel) (fun _ _ _ h => h) (by rfl) ?tb9 ?sb9 ?_
    case tb9 => (intro w' h; clear h; go_simp; try rfl)
    case sb9 => exact HS4.out
    (try simp only [Act.put, List.setIfInBounds_toArray, List.set_cons_zero, List.set_cons_succ])
    refine wpAnyZ_take [] (i := 10) (v := ?vb10) (by simp only [List.getElem?_toArray, List.getElem?_cons_succ, List.getElem?_cons_zero]; rfl) (by decide +kernel) (fun _ _ _ h => h) (by rfl) ?tb10 ?sb10 ?_
    case tb10 => (intro w' h; clear h; go_simp; try rfl)
    case sb10 => exact HS4.out
    (try simp only [Act.put, List.setIfInBounds_toArray, List.set_cons_zero, List.set_cons_succ])
    refine wpAnyZ_take [] (i := 11) (v := ?vb11) (by simp only [List.getElem?_toArray, List.getElem?_cons_succ, List.getElem?_cons_zero]; rfl) (by decide +kernel) (fun _ _ _ h => h) (by rfl) ?tb11 ?sb11 ?_
    case tb11 => (intro w' h; clear h; go_simp; try rfl)
    case sb11 => exact HS4.out
    (try simp only [Act.put, List.setIfInBounds_toArray, List.set_cons_zero, List.set_cons_succ])
    refine wpAnyZ_one (i := 12) (by decide +kernel) ?_
    refine wpOpK_value (v := .int .i64 0) (w' := W4) (by simp only [List.getElem?_toArray, List.getElem?_cons_succ, List.getElem?_cons_zero]; rfl) (by rfl) ?mb12 ⟨.inl rfl, ?_⟩
    case mb12 => (go_simp; try rfl)
    (try simp only [Act.put, List.setIfInBounds_toArray, List.set_cons_zero, List.set_cons_succ])
    refine wpAnyZ_done (by kernel_rfl) (NoPanic.normal ?_) _
    go_wp2
    exact HPO.out _ ⟨dl, r.1.1, _, RtStep.via (W1 := W2) rfl (fun b hb => .inl hb) (below_via HB2.out BW1.out).size (fun b hb _ => (below_via HB2.out BW1.out).block b hb) (RtStep.via (W1 := W3) e1w HO1.out.1 HO1.out.2.1 HO1.out.2.2 (RtStep.via (W1 := W3.drew) rfl (fun b hb => .inl hb) (Nat.le_refl _) (fun b _ _ => rfl) HT4.out)), HGR.out, HLR.out.1, by omega, by rw [List.length_append, List.length_map]; have := HLR.out.2; omega⟩
set_option maxRecDepth 100000 in
set_option maxHeartbeats 16000000 in
theorem step3_any (w0 W : World) (x : RtV) (P : List Int) (dl : List Stp) (R : List (Int × Nat)) (cl : List (Nat × Int)) (n mo : Int) (ye pu : Bool) (ee : Int) (h : RtAt w0 W x P dl R R cl cl) (hG : Good dl R) (hP : P.length ≤ 4096) (hU : UpOk P) (hR : R.length ≤ 4096) (hdl : dl.length ≤ 67100000) (hcl : cl.length ≤ 68719476736)  : Calls Try.prog 23 #[.pointer (some ⟨x.wb, 0, none⟩), .agg #[.int .i64 3, .int .i64 n, .int .i64 mo, .bool ye, .bool pu, .int .i32 ee], .int .i64 P.length] W (RetStp w0 W x P dl R cl) := by
  have H := Lib.hid h
  have HG := Lib.hid hG
  have HUP := Lib.hid hU
  clear hU hG
  obtain ⟨W1, hW1⟩ : ∃ W1, W1 = W.alloc (.cells #[.int .i64 3, .int .i64 n, .int .i64 mo, .bool ye, .bool pu, .int .i32 ee] 60) := ⟨_, rfl⟩
  have BW1 := Lib.hid (show Below W.heap.size W W1 from by rw [hW1]; exact below_al (Below.refl _ _) _)
  have SB1 := Lib.hid (show W1.heap[W.heap.size]? = some (.cells #[.int .i64 3, .int .i64 n, .int .i64 mo, .bool ye, .bool pu, .int .i32 ee] 60 (0, 0)) from by rw [hW1]; exact heap_alloc_new _ _)
  have HA1 := Lib.hid (H.out.later BW1.out)
  have zw := lt_of_block HA1.out.wo
  have HPO := Lib.hid (fun (W' : World) (hh : StepOk w0 W x P dl R cl W') => show RetStp w0 W x P dl R cl (.returned (.bool true)) W' from ⟨rfl, hh⟩)
  generalize RetStp w0 W x P dl R cl = post at *
  clear h
  have HSC := Lib.hid (fun (w' : World) (hh : w'.heap[W.heap.size]? = W1.heap[W.heap.size]?) => show (W.heap.size < w'.heap.size ∧ w'.cell? ⟨W.heap.size, 0, none⟩ = some (.int .i64 3) ∧ w'.cell? ⟨W.heap.size, 1, none⟩ = some (.int .i64 n) ∧ w'.cell? ⟨W.heap.size, 2, none⟩ = some (.int .i64 mo) ∧ w'.cell? ⟨W.heap.size, 3, none⟩ = some (.bool ye) ∧ w'.cell? ⟨W.heap.size, 4, none⟩ = some (.bool pu) ∧ w'.cell? ⟨W.heap.size, 5, none⟩ = some (.int .i32 ee)) from by
    replace hh := hh.trans SB1.out
    refine ⟨lt_of_block hh, ?_, ?_, ?_, ?_, ?_, ?_⟩ <;> (rw [cell_of_row _ _ _ _ _ _ hh]; rfl))
  have HSW := Lib.hid hW1
  clear hW1
  go_enter Try.func23, Try.ntmps23
  go_upto_region 1 with (fail)
  rw [← HSW.out]
  clear HSW
  obtain ⟨y0, y1, y2, y3, y4, y5, y6⟩ := HSC.out W1 rfl
  have HZ0 := Lib.hid H.out.ro.be.size
  have HLI := Lib.hid (show LoopI w0 W x P dl R R cl #[.int .i64 3, .int .i64 n, .int .i64 mo, .bool ye, .bool pu, .int .i32 ee] W.heap.size W1 from ⟨⟨x, rfl, HA1.out, fun b hb => .inl hb, fun e => by have := allO_lt H.out e; omega⟩, BW1.out.size, fun b hb _ => BW1.out.block b hb, SB1.out⟩)
  clear HA1 SB1 BW1 HSC
  go_wp2
  go_loopw [112] (fun iv wr => ∃ (i : Nat) (dl2 : List Stp) (R2 : List (Int × Nat)) (pb : Bool), iv = .int .i64 i ∧ i ≤ 4097 ∧ R2.length ≤ 4096 ∧ dl2.length ≤ dl.length + 2 * i ∧ RowKit.Hid (Good dl2 R2) ∧ RowKit.Hid (LoopI w0 W x P dl2 R2 R2 cl #[.int .i64 3, .int .i64 n, .int .i64 mo, .bool ye, .bool pb, .int .i32 ee] W.heap.size wr)) (fun iv _ => 4097 - (intOf iv).toNat)
  case atStart => exact ⟨0, dl, R, pu, rfl, by omega, hR, by omega, HG, HLI⟩
  case round =>
    clear HLI y0 y1 y2 y3 y4 y5 y6
    obtain ⟨i, dl2, R2, pb, rfl, hi, hR2, hd2, HG2, HLI⟩ := hrel
    obtain ⟨wo, rfl⟩ : ∃ wo : World, wo = wr := ⟨_, rfl⟩
    have y0 := lt_of_block HLI.out.bx
    have f4 : wo.frozen? ⟨W.heap.size, 4, none⟩ = false := frozen_of_row _ _ _ _ _ HLI.out.bx
    have y5 : wo.cell? ⟨W.heap.size, 4, none⟩ = some (.bool pb) := by rw [cell_of_row _ _ _ _ _ _ HLI.out.bx]; rfl
    by_cases hlt : i < 4097
    · have hii : (i : Int) < 4097 := by omega
      go_upto_region 19 with (fail)
      obtain ⟨w1, hw1⟩ : ∃ z, z = wo.setCell ⟨W.heap.size, 4, none⟩ (.bool false) := ⟨_, rfl⟩
      have HL1 := Lib.hid (show LoopI w0 W x P dl2 R2 R2 cl #[.int .i64 3, .int .i64 n, .int .i64 mo, .bool ye, .bool false, .int .i32 ee] W.heap.size w1 from by rw [hw1]; exact HLI.out.set (Nat.le_refl _) HZ0.out 4 (.bool false))
      rw [← hw1]
      clear hw1 HLI y0 f4 y5
      have HSC := Lib.hid (fun (w' : World) (hh : w'.heap[W.heap.size]? = w1.heap[W.heap.size]?) => show (W.heap.size < w'.heap.size ∧ w'.cell? ⟨W.heap.size, 0, none⟩ = some (.int .i64 3) ∧ w'.cell? ⟨W.heap.size, 1, none⟩ = some (.int .i64 n) ∧ w'.cell? ⟨W.heap.size, 2, none⟩ = some (.int .i64 mo) ∧ w'.cell? ⟨W.heap.size, 3, none⟩ = some (.bool ye) ∧ w'.cell? ⟨W.heap.size, 4, none⟩ = some (.bool false) ∧ w'.cell? ⟨W.heap.size, 5, none⟩ = some (.int .i32 ee)) from by
        replace hh := hh.trans HL1.out.bx
        refine ⟨lt_of_block hh, ?_, ?_, ?_, ?_, ?_, ?_⟩ <;> (rw [cell_of_row _ _ _ _ _ _ hh]; rfl))
      obtain ⟨x1, e1, A1, o1, n1⟩ := HL1.out.st
      have HA1 := Lib.hid A1
      have HO1 := Lib.hid (And.intro o1 n1)
      clear A1 o1 n1
      obtain ⟨y0, y1, y2, y3, y4, y5, y6⟩ := HSC.out w1 rfl
      go_wp2_with fail
      rw [← e1]
      refine (put_any w0 w1 x1 P dl2 R2 R2 cl cl ⟨3, n, mo, ye, false, ee⟩ HA1.out (by omega) hR2).mono ?_
      intro e w2 hr
      obtain ⟨rfl, ST2⟩ := hr
      have HL2 := Lib.hid (HL1.out.via e1 HO1.out.1 HO1.out.2 ST2)
      clear ST2
      rw [e1]
      clear HA1 HO1 e1 x1
      obtain ⟨x1, e1, A1, o1, n1⟩ := HL2.out.st
      have HA2 := Lib.hid A1
      have HO1 := Lib.hid (And.intro o1 n1)
      clear A1 o1 n1 y0 y1 y2 y3 y4 y5 y6
      have zw2 := lt_of_block HA2.out.wo
      rw [e1] at zw2
      have zs2 := lt_of_block HL2.out.bx
      have HS := Lib.hid (fun (w' : World) (hh : w'.heap[x.wb]? = w2.heap[x.wb]? ∧ w'.heap[W.heap.size]? = w2.heap[W.heap.size]?) => show (x.wb < w'.heap.size ∧ W.heap.size < w'.heap.size ∧ w'.cell? ⟨x.wb, 0, none⟩ = some (.pointer (some ⟨x1.rb, 0, none⟩)) ∧ w'.cell? ⟨W.heap.size, 1, none⟩ = some (.int .i64 n)) from by
        obtain ⟨h1, h2⟩ := hh
        replace h1 := h1.trans (e1 ▸ HA2.out.wo)
        replace h2 := h2.trans HL2.out.bx
        refine ⟨lt_of_block h1, lt_of_block h2, ?_, ?_⟩ <;> first | (rw [cell_of_row _ _ _ _ _ _ h1]; rfl) | (rw [cell_of_row _ _ _ _ _ _ h2]; rfl))
      obtain ⟨er, her⟩ : ∃ z, z = onE P.length R2 n := ⟨_, rfl⟩
      rw [← her]
      have HER := Lib.hid her
      clear her
      go_upto_region 20 with (fail)
      have HSD := Lib.hid (show w2.drew.heap[x.wb]? = w2.heap[x.wb]? ∧ w2.drew.heap[W.heap.size]? = w2.heap[W.heap.size]? from ⟨rfl, rfl⟩)
      refine wp_region_noPanic ?_
      refine wp_region_Z (fun w' => w'.heap[x.wb]? = w2.heap[x.wb]? ∧ w'.heap[W.heap.size]? = w2.heap[W.heap.size]?) 11 (by kernel_rfl) ?_
      change wpAnyZ _ _ _ _ _ _ 12 (Array.replicate 12 false) _ _
      refine wpAnyZ_take [9, 3, 2, 1] (i := 0) (v := ?va0) (by simp only [List.getElem?_toArray, List.getElem?_cons_succ, List.getElem?_cons_zero]; rfl) (by decide +kernel) (fun _ _ _ h => h) (by rfl) ?ta0 ?sa0 ?_
      case ta0 => (intro w' h; clear h; go_simp; try rfl)
      case sa0 => exact HSD.out
      (try simp only [Act.put, List.setIfInBounds_toArray, List.set_cons_zero, List.set_cons_succ])
      refine wpAnyZ_take [9, 3, 2] (i := 1) (v := ?va1) (by simp only [List.getElem?_toArray, List.getElem?_cons_succ, List.getElem?_cons_zero]; rfl) (by decide +kernel) (fun _ _ _ h => h) (by rfl) ?ta1 ?sa1 ?_
      case ta1 => (intro w' h; have FK := HS.out w' h; clear h; go_split_ands; go_simp; try rfl)
      case sa1 => exact HSD.out
      (try simp only [Act.put, List.setIfInBounds_toArray, List.set_cons_zero, List.set_cons_succ])
      refine wpAnyZ_take [9, 3] (i := 2) (v := ?va2) (by simp only [List.getElem?_toArray, List.getElem?_cons_succ, List.getElem?_cons_zero]; rfl) (by decide +kernel) (fun _ _ _ h => h) (by rfl) ?ta2 ?sa2 ?_
      case ta2 => (intro w' h; clear h; go_simp; try rfl)
      case sa2 => exact HSD.out
      (try simp only [Act.put, List.setIfInBounds_toArray, List.set_cons_zero, List.set_cons_succ])
      refine wpAnyZ_take [9] (i := 3) (v := ?va3) (by simp only [List.getElem?_toArray, List.getElem?_cons_succ, List.getElem?_cons_zero]; rfl) (by decide +kernel) (fun _ _ _ h => h) (by rfl) ?ta3 ?sa3 ?_
      case ta3 => (intro w' h; have FK := HS.out w' h; clear h; go_split_ands; go_simp; try rfl)
      case sa3 => exact HSD.out
      (try simp only [Act.put, List.setIfInBounds_toArray, List.set_cons_zero, List.set_cons_succ])
      refine wpAnyZ_take [9, 5] (i := 4) (v := ?va4) (by simp only [List.getElem?_toArray, List.getElem?_cons_succ, List.getElem?_cons_zero]; rfl) (by decide +kernel) (fun _ _ _ h => h) (by rfl) ?ta4 ?sa4 ?_
      case ta4 => (intro w' h; clear h; go_simp; try rfl)
      case sa4 => exact HSD.out
      (try simp only [Act.put, List.setIfInBounds_toArray, List.set_cons_zero, List.set_cons_succ])
      refine wpAnyZ_take [9] (i := 5) (v := ?va5) (by simp only [List.getElem?_toArray, List.getElem?_cons_succ, List.getElem?_cons_zero]; rfl) (by decide +kernel) (fun _ _ _ h => h) (by rfl) ?ta5 ?sa5 ?_
      case ta5 => (intro w' h; have FK := HS.out w' h; clear h; go_split_ands; go_simp; try rfl)
      case sa5 => exact HSD.out
      (try simp only [Act.put, List.setIfInBounds_toArray, List.set_cons_zero, List.set_cons_succ])
      refine wpAnyZ_take [9, 8] (i := 6) (v := ?va6) (by simp only [List.getElem?_toArray, List.getElem?_cons_succ, List.getElem?_cons_zero]; rfl) (by decide +kernel) (fun _ _ _ h => h) (by rfl) ?ta6 ?sa6 ?_
      case ta6 => (intro w' h; clear h; go_simp; try rfl)
      case sa6 => exact HSD.out
      (try simp only [Act.put, List.setIfInBounds_toArray, List.set_cons_zero, List.set_cons_succ])
      refine wpAnyZ_take [9, 8] (i := 7) (v := ?va7) (by simp only [List.getElem?_toArray, List.getElem?_cons_succ, List.getElem?_cons_zero]; rfl) (by decide +kernel) (fun _ _ _ h => h) (by rfl) ?ta7 ?sa7 ?_
      case ta7 => (intro w' h; clear h; go_simp; try rfl)
      case sa7 => exact HSD.out
      (try simp only [Act.put, List.setIfInBounds_toArray, List.set_cons_zero, List.set_cons_succ])
      refine wpAnyZ_take [] (i := 10) (v := ?va10) (by simp only [List.getElem?_toArray, List.getElem?_cons_succ, List.getElem?_cons_zero]; rfl) (by decide +kernel) (fun _ _ _ h => h) (by rfl) ?ta10 ?sa10 ?_
      case ta10 => (intro w' h; clear h; go_simp; try rfl)
      case sa10 => exact HSD.out
      (try simp only [Act.put, List.setIfInBounds_toArray, List.set_cons_zero, List.set_cons_succ])
      have HAD := Lib.hid (HA2.out.later (W' := w2.drew) (Below.drew (Below.refl _ _)))
      refine wpAnyZ_one (i := 8) (by decide +kernel) ?_
      refine wpOpK_call (by simp only [List.getElem?_toArray, List.getElem?_cons_succ, List.getElem?_cons_zero]; rfl) (by rfl) (by go_simp; first | exact ⟨rfl, rfl⟩ | rfl) ?_
      refine (take_any x.wb dl2.length w2.drew).mono ?_
      rintro e w3 ⟨bw, bn, rfl, ht3, hb3⟩
      have HT3 := Lib.hid ht3
      have HB3 := Lib.hid (show Below w2.heap.size w2 w3 from (Below.drew (Below.refl _ _)).trans hb3)
      clear ht3 hb3
      have HA3 := Lib.hid (HA2.out.later HB3.out)
      have HS3 := Lib.hid (show w3.heap[x.wb]? = w2.heap[x.wb]? ∧ w3.heap[W.heap.size]? = w2.heap[W.heap.size]? from ⟨HB3.out.block _ zw2, HB3.out.block _ zs2⟩)
      refine ⟨_, rfl, .inr HS3.out, ?_⟩
      (try simp only [Act.put, List.setIfInBounds_toArray, List.set_cons_zero, List.set_cons_succ])
      have HON := Lib.hid (show Calls Try.prog 22 #[.pointer (some ⟨x1.rb, 0, none⟩), .int .i64 n, tkV bw bn] w3 (fun e W' => e = .returned (.int .i64 er) ∧ RtPost w0 w3 x1 P (dl2 ++ [⟨3, n, mo, ye, false, ee⟩, yesS ⟨3, n, mo, ye, false, ee⟩]) (onR P.length R2 n dl2.length) (onR P.length R2 n dl2.length) cl cl W' ∧ W'.heap[x1.wb]? = w3.heap[x1.wb]?) from by rw [HER.out]; exact On_any w0 x1 P _ R2 _ cl cl n dl2.length bw bn w3 HA3.out (by rw [e1]; exact HT3.out) hP)
      refine wpAnyZ_one (i := 9) (by decide +kernel) ?_
      refine wpOpK_call (by simp only [List.getElem?_toArray, List.getElem?_cons_succ, List.getElem?_cons_zero]; rfl) (by rfl) (by go_simp; first | exact ⟨rfl, rfl⟩ | rfl) ?_
      refine (HON.out).mono ?_
      rintro e w4 ⟨rfl, hp4, hwb4⟩
      have HP4 := Lib.hid hp4
      have HS4 := Lib.hid (show w4.heap[x.wb]? = w2.heap[x.wb]? ∧ w4.heap[W.heap.size]? = w2.heap[W.heap.size]? from ⟨(e1 ▸ hwb4).trans HS3.out.1, (keep_ty HA3.out.ty hp4.fr (HS3.out.2.trans HL2.out.bx) (by decide)).trans HS3.out.2⟩)
      clear hp4 hwb4
      refine ⟨_, rfl, .inr HS4.out, ?_⟩
      (try simp only [Act.put, List.setIfInBounds_toArray, List.set_cons_zero, List.set_cons_succ])
      refine wpAnyZ_one (i := 11) (by decide +kernel) ?_
      refine wpOpK_value (v := .bool false) (w' := w4) (by simp only [List.getElem?_toArray, List.getElem?_cons_succ, List.getElem?_cons_zero]; rfl) (by rfl) ?ma11 ⟨.inl rfl, ?_⟩
      case ma11 => (go_simp; try rfl)
      (try simp only [Act.put, List.setIfInBounds_toArray, List.set_cons_zero, List.set_cons_succ])
      refine wpAnyZ_done (by kernel_rfl) (NoPanic.normal ?_) _
      have HL4 := Lib.hid (HL2.out.via e1 HO1.out.1 HO1.out.2 (RtStep.via (W1 := w3) rfl (fun b hb => .inl hb) HB3.out.size (fun b hb _ => HB3.out.block b hb) HP4.out.step))
      have HG4 := Lib.hid (HG2.out.put P.length n ⟨3, n, mo, ye, false, ee⟩)
      clear HS HSD HA2 HA3 HAD HT3 HB3 HON HP4 HS3 HS4 HSC HL1 HL2 HO1 HER HG2
      go_wp2
      go_roundw
      case rel => exact ⟨i + 1, _, _, false, by go_num, by omega, onR_len _ _ _ hR2, by rw [List.length_append, List.length_cons, List.length_cons, List.length_nil]; omega, HG4, HL4⟩
      case measure => simp [intOf] <;> omega
    · obtain rfl : i = 4097 := by omega
      go_wp2
      exact HPO.out _ ⟨dl2, R2, cl, HLI.out.step, HG2.out, hR2, by omega, by omega⟩
theorem step_any (w0 W : World) (x : RtV) (P : List Int) (dl : List Stp) (R : List (Int × Nat)) (cl : List (Nat × Int)) (s : Stp) (h : RtAt w0 W x P dl R R cl cl) (hG : Good dl R) (hP : P.length ≤ 4096) (hU : UpOk P) (hR : R.length ≤ 4096) (hdl : dl.length ≤ 67100000) (hcl : cl.length ≤ 68719476736) : Calls Try.prog 23 #[.pointer (some ⟨x.wb, 0, none⟩), .agg #[.int .i64 s.do_, .int .i64 s.n, .int .i64 s.more, .bool s.yes, .bool s.puts, .int .i32 s.e], .int .i64 P.length] W (RetStp w0 W x P dl R cl) := by
  obtain ⟨d, n, mo, ye, pu, ee⟩ := s
  by_cases h0 : d = 0
  · subst h0; exact step0_any w0 W x P dl R cl n mo ye pu ee h hG hP hU hR hdl hcl
  by_cases h1 : d = 1
  · subst h1; exact step1_any w0 W x P dl R cl n mo ye pu ee h hG hP hU hR hdl hcl
  by_cases h2 : d = 2
  · subst h2; exact step2_any w0 W x P dl R cl n mo ye pu ee h hG hP hU hR hdl hcl
  by_cases h3 : d = 3
  · subst h3; exact step3_any w0 W x P dl R cl n mo ye pu ee h hG hP hU hR hdl hcl
  exact step9_any w0 W x P dl R cl n mo ye pu ee d h hG hP hU hR hdl hcl ⟨h0, h1, h2, h3⟩
end Go.Proofs.Ytihjefncjkdnpaa
