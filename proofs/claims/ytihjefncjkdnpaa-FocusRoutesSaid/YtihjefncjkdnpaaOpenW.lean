/- Layer 23: opening arguments: a slice of steps. -/
import Derived.Test.YtihjefncjkdnpaaRtK
import Derived.Test.YtihjefncjkdnpaaOpenG
namespace Go.Proofs.Ytihjefncjkdnpaa
open Go.ChangeShapes Go.WideShapes Go.ChangeAt Go.RowKit Go.Joins Go.Deep
set_option linter.unusedVariables false
set_option linter.unusedSimpArgs false

theorem FocusRoutes_all (p ps : Option Addr) (c ns ks : Nat) (T : List Nd) (L : List Stp) (w : World) (ht : TreeAt w (.slice p T.length c) T) (hs : StpsAt w ps L) (hL : L.length = ns) (hN : T.length * 288 ≤ 140737488351232) (hK : ∀ x ∈ T, x.kids.length * 8 ≤ 140737488351232 ∧ x.cols.length * 40 ≤ 140737488351232) : Calls Try.prog 5 #[.agg #[.slice p T.length c], .slice ps ns ks] w fun e w' => e = .returned (.bool true) ∧ Below w.heap.size w w' := FocusRoutes_walk p ps c ns ks T L w ht hs hL hN hK
section
variable {H : Type} {enc : TypeId × Value → H} {w : World} {base : Nat} {spare : Nat → Bool} {held : Bool}
theorem cells23Step : Try.prog.cellsOf 60 = 6 := by kernel_rfl
theorem cells23I : Try.prog.cellsOf 3 = 1 := by kernel_rfl
theorem cells23B : Try.prog.cellsOf 4 = 1 := by kernel_rfl
theorem cells23E : Try.prog.cellsOf 21 = 1 := by kernel_rfl
set_option maxRecDepth 100000 in
theorem stp_cells {fuel : Nat} {l : List Value} {x : DataW H × List MemPlace} (h : DataW.trod enc Try.prog w base spare held fuel 60 l = some x) :
    ∃ s : Stp, l = stpC s ∧ True := by
  obtain ⟨xs, n, _, hx, hl, hlen, hg⟩ := DataW.trod_struct Try.underlying60 h
  rw [cells23Step] at hl
  match l, hl, xs, hlen with
  | [c0, c1, c2, c3, c4, c5], _, [y0, y1, y2, y3, y4, y5], _ =>
    have g0 := hg 0 _ rfl; have g1 := hg 1 _ rfl; have g2 := hg 2 _ rfl; have g3 := hg 3 _ rfl; have g4 := hg 4 _ rfl; have g5 := hg 5 _ rfl
    simp [cells23I, cells23B, cells23E] at g0 g1 g2 g3 g4 g5
    obtain ⟨a, e0, _, _⟩ := DataW.trod_int Try.underlying3 g0
    obtain ⟨b, e1, _, _⟩ := DataW.trod_int Try.underlying3 g1
    obtain ⟨c, e2, _, _⟩ := DataW.trod_int Try.underlying3 g2
    obtain ⟨d, e3, _⟩ := DataW.trod_bool Try.underlying4 g3
    obtain ⟨e, e4, _⟩ := DataW.trod_bool Try.underlying4 g4
    obtain ⟨f, e5, _, _⟩ := DataW.trod_int Try.underlying21 g5
    simp only [List.cons.injEq, and_true] at e0 e1 e2 e3 e4 e5
    subst e0 e1 e2 e3 e4 e5
    exact ⟨⟨a, b, c, d, e, f⟩, rfl, trivial⟩
set_option maxRecDepth 100000 in
theorem open_stps {v : Value} {d : DataW H} {p : List MemPlace} {r : Reach} {b0 : Nat} (hv : Value.okWide Try.prog w r b0 35 v) (h : DataW.Trod enc Try.prog w base spare held 35 v d p) :
    ∃ (p' : Option Addr) (n c : Nat) (S : List Stp), v = .slice p' n c ∧ S.length = n ∧ StpsAt w p' S := by
  obtain ⟨p', n, c, S, rfl, hL, hn, hc, hq, _, hd⟩ := open_slice_any zStp stpC (fun s => True) 6 (by omega) Try.underlying35 cells23Step (fun _ => rfl) (fun fuel cs x hx => stp_cells hx) hv h
  refine ⟨p', n, c, S, rfl, hL, fun h0 => ?_⟩
  obtain ⟨b, off, e, hb, hcell⟩ := hc (by omega)
  exact ⟨b, off, e, hb, fun i hi j hj => hcell i (by omega) j hj⟩
end
end Go.Proofs.Ytihjefncjkdnpaa
