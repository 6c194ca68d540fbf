/- (with the bounds of Clip) Opening arguments: boxes. -/
import Derived.Test.YtihjefncjkdnpaaTreOw
import Derived.Test.YtihjefncjkdnpaaLntG
namespace Go.Proofs.Ytihjefncjkdnpaa
open Go.ChangeShapes Go.WideShapes Go.ChangeAt Go.RowKit Go.Joins Go.Deep
set_option linter.unusedVariables false
set_option linter.unusedSimpArgs false
set_option maxRecDepth 100000

section
variable {H : Type} {enc : TypeId × Value → H} {w : World} {base : Nat} {spare : Nat → Bool} {held : Bool}
theorem tcRect : Try.prog.cellsOf 77 = 4 := by kernel_rfl
theorem tcBox : Try.prog.cellsOf 81 = 18 := by kernel_rfl
theorem wf64b {n : Int} (h : (Lit.int .i64 n).wf = true) : -9223372036854775808 ≤ n ∧ n ≤ 9223372036854775807 := by
  simp [Lit.wf, IntKind.min, IntKind.max, IntKind.signed, IntKind.bits] at h; omega
theorem rectB_cells {fuel : Nat} {l : List Value} {x : DataW H × List MemPlace} (h : DataW.trod enc Try.prog w base spare held fuel 77 l = some x) : ∃ a b c d : Int, l = [.int .i64 a, .int .i64 b, .int .i64 c, .int .i64 d] ∧ (-9223372036854775808 ≤ a ∧ a ≤ 9223372036854775807) ∧ (-9223372036854775808 ≤ b ∧ b ≤ 9223372036854775807) ∧ (-9223372036854775808 ≤ c ∧ c ≤ 9223372036854775807) ∧ (-9223372036854775808 ≤ d ∧ d ≤ 9223372036854775807) := by
  obtain ⟨xs, n, _, hx, hl, hlen, hg⟩ := DataW.trod_struct Try.underlying77 h
  rw [tcRect] at hl
  match l, hl, xs, hlen with
  | [c0, c1, c2, c3], _, [y0, y1, y2, y3], _ =>
    have g0 := hg 0 _ rfl; have g1 := hg 1 _ rfl; have g2 := hg 2 _ rfl; have g3 := hg 3 _ rfl
    simp [tcI] at g0 g1 g2 g3
    obtain ⟨a, e0, _, w0⟩ := DataW.trod_int Try.underlying3 g0
    obtain ⟨b, e1, _, w1⟩ := DataW.trod_int Try.underlying3 g1
    obtain ⟨c, e2, _, w2⟩ := DataW.trod_int Try.underlying3 g2
    obtain ⟨d, e3, _, w3⟩ := DataW.trod_int Try.underlying3 g3
    simp only [List.cons.injEq, and_true] at e0 e1 e2 e3
    subst e0 e1 e2 e3
    exact ⟨a, b, c, d, rfl, wf64b w0, wf64b w1, wf64b w2, wf64b w3⟩
set_option maxRecDepth 100000 in
set_option maxHeartbeats 8000000 in
theorem box_cells_ {fuel : Nat} {l : List Value} {x : DataW H × List MemPlace} (h : DataW.trod enc Try.prog w base spare held fuel 81 l = some x) : ∃ f : Nat → Int, l = boxV f ∧ ∀ j, 12 ≤ j → j < 16 → -9223372036854775808 ≤ f j ∧ f j ≤ 9223372036854775807 := by
  obtain ⟨xs, n, _, hx, hl, hlen, hg⟩ := DataW.trod_struct Try.underlying81 h
  rw [tcBox] at hl
  obtain ⟨c0, l0, rfl, hl0⟩ := cons_of hl
  obtain ⟨c1, l1, rfl, hl1⟩ := cons_of hl0
  obtain ⟨c2, l2, rfl, hl2⟩ := cons_of hl1
  obtain ⟨c3, l3, rfl, hl3⟩ := cons_of hl2
  obtain ⟨c4, l4, rfl, hl4⟩ := cons_of hl3
  obtain ⟨c5, l5, rfl, hl5⟩ := cons_of hl4
  obtain ⟨c6, l6, rfl, hl6⟩ := cons_of hl5
  obtain ⟨c7, l7, rfl, hl7⟩ := cons_of hl6
  obtain ⟨c8, l8, rfl, hl8⟩ := cons_of hl7
  obtain ⟨c9, l9, rfl, hl9⟩ := cons_of hl8
  obtain ⟨c10, l10, rfl, hl10⟩ := cons_of hl9
  obtain ⟨c11, l11, rfl, hl11⟩ := cons_of hl10
  obtain ⟨c12, l12, rfl, hl12⟩ := cons_of hl11
  obtain ⟨c13, l13, rfl, hl13⟩ := cons_of hl12
  obtain ⟨c14, l14, rfl, hl14⟩ := cons_of hl13
  obtain ⟨c15, l15, rfl, hl15⟩ := cons_of hl14
  obtain ⟨c16, l16, rfl, hl16⟩ := cons_of hl15
  obtain ⟨c17, l17, rfl, hl17⟩ := cons_of hl16
  obtain rfl := List.length_eq_zero_iff.1 hl17
  have hx0 : xs.length = 5 := by first | exact hlen | (simpa using hlen)
  obtain ⟨y0, xs0, rfl, hx1⟩ := cons_of hx0
  obtain ⟨y1, xs1, rfl, hx2⟩ := cons_of hx1
  obtain ⟨y2, xs2, rfl, hx3⟩ := cons_of hx2
  obtain ⟨y3, xs3, rfl, hx4⟩ := cons_of hx3
  obtain ⟨y4, xs4, rfl, hx5⟩ := cons_of hx4
  obtain rfl := List.length_eq_zero_iff.1 hx5
  have g0 := hg 0 _ rfl; have g1 := hg 1 _ rfl; have g2 := hg 2 _ rfl; have g3 := hg 3 _ rfl; have g4 := hg 4 _ rfl
  simp [tcRect, tcOff] at g0 g1 g2 g3 g4
  obtain ⟨a0, a1, a2, a3, e0, u0, v0, s0, t0⟩ := rectB_cells g0
  obtain ⟨a4, a5, a6, a7, e1, u1, v1, s1, t1⟩ := rectB_cells g1
  obtain ⟨a8, a9, a10, a11, e2, u2, v2, s2, t2⟩ := rectB_cells g2
  obtain ⟨a12, a13, a14, a15, e3, u3, v3, s3, t3⟩ := rectB_cells g3
  obtain ⟨⟨a16, a17⟩, e4, _⟩ := off_cells g4
  simp only [List.cons.injEq, and_true] at e0 e1 e2 e3 e4
  obtain ⟨e0, e0a, e0b, e0c⟩ := e0
  obtain ⟨e1, e1a, e1b, e1c⟩ := e1
  obtain ⟨e2, e2a, e2b, e2c⟩ := e2
  obtain ⟨e3, e3a, e3b, e3c⟩ := e3
  obtain ⟨e4, e4a⟩ := e4
  subst e0 e0a e0b e0c e1 e1a e1b e1c e2 e2a e2b e2c e3 e3a e3b e3c e4 e4a
  exact ⟨fun j => [a0, a1, a2, a3, a4, a5, a6, a7, a8, a9, a10, a11, a12, a13, a14, a15, a16, a17].getD j 0, rfl, fun j h1 h2 => by
    have : j = 12 ∨ j = 13 ∨ j = 14 ∨ j = 15 := by omega
    rcases this with rfl | rfl | rfl | rfl
    · exact u3
    · exact v3
    · exact s3
    · exact t3⟩
theorem open_boxes {v : Value} {d : DataW H} {p : List MemPlace} {r : Reach} {b0 : Nat} (hv : Value.okWide Try.prog w r b0 70 v) (h : DataW.Trod enc Try.prog w base spare held 70 v d p) (hw : ∀ k ∈ d.weights Try.prog 70, k ≤ 140737488351232) :
    ∃ (p' : Option Addr) (n c : Nat) (bx : Nat → Nat → Int), v = .slice p' n c ∧ BoxAt w p' n bx ∧ n * 144 ≤ 140737488351232 ∧ ∀ i, i < n → ∀ j, 12 ≤ j → j < 16 → -9223372036854775808 ≤ bx i j ∧ bx i j ≤ 9223372036854775807 := by
  obtain ⟨a, len, cap, rfl⟩ := okWide_slice Try.underlying70 hv
  obtain ⟨fuel, hf⟩ := h
  have hf' : DataW.trod enc Try.prog w base spare held fuel 70 [.slice a len cap] = some (d, p) := by simpa [Value.cells] using hf
  have hsz := slice_weight Try.underlying70 hf' hw
  rw [show Try.prog.bytesOf 81 = 144 by kernel_rfl] at hsz
  obtain ⟨q, n, c, L, e, hL, hn, hc, hp, hat, hq, _⟩ := slice_cells ((fun _ => 0) : Nat → Int) (fun f cs => cs = boxV f ∧ ∀ j, 12 ≤ j → j < 16 → -9223372036854775808 ≤ f j ∧ f j ≤ 9223372036854775807) 18 (by decide) Try.underlying70 tcBox (fun a cs h => by rw [h.1]; rfl) (fun fuel cs x h => by
    obtain ⟨f, e, hf⟩ := box_cells_ h
    exact ⟨f, e, hf⟩) hf'
  simp only [List.cons.injEq, Value.slice.injEq, and_true] at e
  obtain ⟨rfl, rfl, rfl⟩ := e
  refine ⟨a, len, cap, fun i j => (L.getD i fun _ => 0) j, rfl, fun h0 => ?_, hsz, fun i hi j h1 h2 => ?_⟩
  · obtain ⟨b, off, e', hb, hcell⟩ := hat h0
    refine ⟨b, off, e', hb, fun i hi j hj => ?_⟩
    obtain ⟨cs, ⟨rfl, _⟩, hj'⟩ := hcell i hi
    rw [hj' j hj, boxV_get _ j hj]
  · obtain ⟨cs, ⟨_, hb⟩⟩ := hq i hi
    exact hb j h1 h2
end
end Go.Proofs.Ytihjefncjkdnpaa
