/- Opening arguments: a tree; a list of offsets. -/
import Derived.Test.YtihjefncjkdnpaaOpenG
import Derived.Test.YtihjefncjkdnpaaTreM
namespace Go.Proofs.Ytihjefncjkdnpaa
open Go.ChangeShapes Go.WideShapes Go.ChangeAt Go.RowKit Go.Joins Go.Deep
set_option linter.unusedVariables false
set_option linter.unusedSimpArgs false

section
variable {H : Type} {enc : TypeId × Value → H} {P : Program} {w : World} {base : Nat} {spare : Nat → Bool} {held : Bool}
set_option maxRecDepth 100000 in
set_option maxHeartbeats 4000000 in
/-- a slice within what is handed in reads as a list; each element takes k cells and meets Q -/
theorem slice_cells {α : Type} (z : α) (Q : α → List Value → Prop) (k : Nat) (hk : 0 < k) {t e : TypeId} (ht : P.underlying t = some (.slice e)) (hC : P.cellsOf e = k) (hlen : ∀ a cs, Q a cs → cs.length = k)
    (hel : ∀ (fuel : Nat) (cs : List Value) (x : DataW H × List MemPlace), DataW.trod enc P w base spare held fuel e cs = some x → ∃ a, Q a cs)
    {fuel : Nat} {l : List Value} {x : DataW H × List MemPlace} (h : DataW.trod enc P w base spare held fuel t l = some x) : ∃ (p' : Option Addr) (n c : Nat) (L : List α), l = [.slice p' n c] ∧ L.length = n ∧ n ≤ c ∧ c ≤ maxLen ∧ (p' = none → c = 0) ∧ (0 < n → ∃ b off, p' = some ⟨b, off, none⟩ ∧ b < w.heap.size ∧ ∀ i, i < n → ∃ cs, Q (L.getD i z) cs ∧ ∀ j, j < k → w.cell? ⟨b, off + (i * k + j), none⟩ = cs[j]?) ∧ (∀ i, i < n → ∃ cs, Q (L.getD i z) cs) ∧ (0 < n → ∃ elems sp, x.1 = .slice elems sp ∧ elems.length = n) := by
  rcases open_slice ht h with ⟨h1, h2⟩ | ⟨a', len, cap, m, n, D, Pl, h1, hb, hle, hcap, hm, hx, hall⟩
  · exact ⟨none, 0, 0, [], h1, rfl, Nat.le_refl _, Nat.zero_le _, fun _ => rfl, fun h => absurd h (Nat.lt_irrefl _), fun i hi => by omega, fun h => absurd h (Nat.lt_irrefl _)⟩
  · have hmle : len ≤ m := by rw [hm]; split <;> omega
    have spot0 : 0 < len → a'.spot = none := by
      intro h0
      obtain ⟨cs', h2, h3⟩ := hall 0 (by omega)
      rw [hC] at h2
      obtain ⟨_, hlen, hcell⟩ := World.cells?_some h2
      have c0 := hcell 0 hk
      have := spot_of_cellG (w := w) (a := (a'.add (0 * k)).add 0) (by rw [c0, List.getElem?_eq_getElem (show 0 < cs'.length by omega)])
      simpa [Addr.add] using this
    have key : ∀ i, i < len → ∃ q : α, ∃ cs, Q q cs ∧ (∀ j, j < k → w.cell? ⟨a'.block, a'.off + (i * k + j), none⟩ = cs[j]?) := by
      intro i hi
      have hs0 := spot0 (by omega)
      obtain ⟨cs', h2, h3⟩ := hall i (by omega)
      rw [hC] at h2
      obtain ⟨_, hlen, hcell⟩ := World.cells?_some h2
      obtain ⟨q, hq⟩ := hel _ _ _ h3
      refine ⟨q, cs', hq, fun j hj => ?_⟩
      have c := hcell j hj
      rw [add_add] at c
      have ha : ∀ j, a'.add j = ⟨a'.block, a'.off + j, none⟩ := by
        intro j; unfold Addr.add; split
        · rename_i hj; subst hj; cases a'; simp at hs0; subst hs0; rfl
        · rfl
      rw [ha] at c
      exact c
    obtain ⟨L, hL, hQ⟩ := list_of_fnG z len _ key
    refine ⟨some a', len, cap, L, h1, hL, hle, hcap, fun h => (by cases h), fun h0' => ?_, fun i hi => ?_, fun _ => ⟨_, _, (Prod.ext_iff.1 hx).1, by simp⟩⟩
    · have hs := spot0 h0'
      refine ⟨a'.block, a'.off, ?_, ?_, fun i hi => hQ i (by omega)⟩
      · cases a'; simp at hs; subst hs; rfl
      · obtain ⟨cs', h2, _⟩ := hall 0 (by omega)
        have := World.cells?_block h2 (by rw [hC]; omega)
        simpa [Addr.add] using this
    · obtain ⟨cs, hq, _⟩ := hQ i hi
      exact ⟨cs, hq⟩
set_option maxRecDepth 100000 in
theorem str_cells {t : TypeId} (ht : P.underlying t = some .string) {fuel : Nat} {l : List Value} {x : DataW H × List MemPlace} (h : DataW.trod enc P w base spare held fuel t l = some x) : ∃ s : ByteArray, l = [.string s] ∧ s.size ≤ maxLen := by
  cases fuel with
  | zero => simp [DataW.trod] at h
  | succ n =>
    unfold DataW.trod at h
    rw [ht] at h
    match l, h with
    | [.string s], h =>
      simp only [] at h
      split at h
      · rename_i hs; exact ⟨s, rfl, hs⟩
      · cases h
    | [], h => simp at h
    | a :: b :: l, h => simp at h
end
section
variable {H : Type} {enc : TypeId × Value → H} {w : World} {base : Nat} {spare : Nat → Bool} {held : Bool}
set_option maxRecDepth 100000 in
theorem tcI : Try.prog.cellsOf 3 = 1 := by kernel_rfl
set_option maxRecDepth 100000 in
theorem tcI8 : Try.prog.cellsOf 44 = 1 := by kernel_rfl
set_option maxRecDepth 100000 in
theorem tcU8 : Try.prog.cellsOf 5 = 1 := by kernel_rfl
set_option maxRecDepth 100000 in
theorem tcS : Try.prog.cellsOf 9 = 1 := by kernel_rfl
set_option maxRecDepth 100000 in
theorem tcC : Try.prog.cellsOf 48 = 1 := by kernel_rfl
set_option maxRecDepth 100000 in
theorem tcIs : Try.prog.cellsOf 25 = 1 := by kernel_rfl
set_option maxRecDepth 100000 in
theorem tcCols : Try.prog.cellsOf 51 = 1 := by kernel_rfl
set_option maxRecDepth 100000 in
theorem tcItem : Try.prog.cellsOf 46 = 5 := by kernel_rfl
set_option maxRecDepth 100000 in
theorem tcArr : Try.prog.cellsOf 47 = 4 := by kernel_rfl
set_option maxRecDepth 100000 in
theorem tcPatch : Try.prog.cellsOf 50 = 4 := by kernel_rfl
set_option maxRecDepth 100000 in
theorem tcNode : Try.prog.cellsOf 53 = 34 := by kernel_rfl
set_option maxRecDepth 100000 in
theorem tcNodes : Try.prog.cellsOf 22 = 1 := by kernel_rfl
set_option maxRecDepth 100000 in
theorem tcTree : Try.prog.cellsOf 24 = 1 := by kernel_rfl
set_option maxRecDepth 100000 in
theorem tcOff : Try.prog.cellsOf 79 = 2 := by kernel_rfl
set_option maxRecDepth 100000 in
theorem cons_of {α : Type} {l : List α} {n : Nat} (h : l.length = n + 1) : ∃ a t, l = a :: t ∧ t.length = n := by
  cases l with
  | nil => cases h
  | cons a t => exact ⟨a, t, rfl, by simpa using h⟩
set_option maxRecDepth 100000 in
theorem wf8 {n : Int} (h : (Lit.int .i8 n).wf = true) : -128 ≤ n ∧ n ≤ 127 := by
  simp [Lit.wf, IntKind.min, IntKind.max, IntKind.signed, IntKind.bits] at h; omega
set_option maxRecDepth 100000 in
theorem wf32 {n : Int} (h : (Lit.int .i32 n).wf = true) : -2147483648 ≤ n ∧ n ≤ 2147483647 := by
  simp [Lit.wf, IntKind.min, IntKind.max, IntKind.signed, IntKind.bits] at h; omega
set_option maxRecDepth 100000 in
theorem item_cells {fuel : Nat} {l : List Value} {x : DataW H × List MemPlace} (h : DataW.trod enc Try.prog w base spare held fuel 46 l = some x) : ∃ it : It, l = itV it ∧ ItOk it := by
  obtain ⟨xs, n, _, hx, hl, hlen, hg⟩ := DataW.trod_struct Try.underlying46 h
  rw [tcItem] at hl
  match l, hl, xs, hlen with
  | [c0, c1, c2, c3, c4], _, [y0, y1, y2, y3, y4], _ =>
    have g0 := hg 0 _ rfl; have g1 := hg 1 _ rfl; have g2 := hg 2 _ rfl; have g3 := hg 3 _ rfl; have g4 := hg 4 _ rfl
    simp [tcI, tcI8] at g0 g1 g2 g3 g4
    obtain ⟨a, e0, _, w0⟩ := DataW.trod_int Try.underlying44 g0
    obtain ⟨b, e1, _, w1⟩ := DataW.trod_int Try.underlying3 g1
    obtain ⟨c, e2, _, w2⟩ := DataW.trod_int Try.underlying3 g2
    obtain ⟨d, e3, _, w3⟩ := DataW.trod_int Try.underlying3 g3
    obtain ⟨e, e4, _, w4⟩ := DataW.trod_int Try.underlying3 g4
    simp only [List.cons.injEq, and_true] at e0 e1 e2 e3 e4
    subst e0 e1 e2 e3 e4
    exact ⟨⟨a, b, c, d, e⟩, rfl, wf8 w0, bounds_i64 w1, bounds_i64 w2, bounds_i64 w3, bounds_i64 w4⟩
set_option maxRecDepth 100000 in
theorem int_cells {fuel : Nat} {l : List Value} {x : DataW H × List MemPlace} (h : DataW.trod enc Try.prog w base spare held fuel 3 l = some x) : ∃ a : Int, l = [.int .i64 a] ∧ -9223372036854775808 ≤ a ∧ a ≤ 9223372036854775807 := by
  obtain ⟨a, e0, _, w0⟩ := DataW.trod_int Try.underlying3 h
  exact ⟨a, e0, bounds_i64 w0⟩
set_option maxRecDepth 100000 in
theorem arr4_cells {fuel : Nat} {l : List Value} {x : DataW H × List MemPlace} (h : DataW.trod enc Try.prog w base spare held fuel 47 l = some x) : ∃ a b c d : Int, l = [.int .i64 a, .int .i64 b, .int .i64 c, .int .i64 d] ∧ (-9223372036854775808 ≤ a ∧ a ≤ 9223372036854775807) ∧ (-9223372036854775808 ≤ b ∧ b ≤ 9223372036854775807) ∧ (-9223372036854775808 ≤ c ∧ c ≤ 9223372036854775807) ∧ (-9223372036854775808 ≤ d ∧ d ≤ 9223372036854775807) := by
  obtain ⟨zs, hz, rfl, hw⟩ := arr_cells Try.underlying47 Try.underlying3 tcI tcArr h
  match zs, hz with
  | [a, b, c, d], _ =>
    exact ⟨a, b, c, d, rfl, bounds_i64 (hw a (by simp)), bounds_i64 (hw b (by simp)), bounds_i64 (hw c (by simp)), bounds_i64 (hw d (by simp))⟩
set_option maxRecDepth 100000 in
theorem patch_cells {fuel : Nat} {l : List Value} {x : DataW H × List MemPlace} (h : DataW.trod enc Try.prog w base spare held fuel 50 l = some x) : ∃ f b a d : Int, l = [.int .i32 f, .int .i32 b, .int .u8 a, .int .u8 d] ∧ (-2147483648 ≤ f ∧ f ≤ 2147483647) ∧ (-2147483648 ≤ b ∧ b ≤ 2147483647) ∧ (0 ≤ a ∧ a ≤ 255) ∧ (0 ≤ d ∧ d ≤ 255) := by
  obtain ⟨xs, n, _, hx, hl, hlen, hg⟩ := DataW.trod_struct Try.underlying50 h
  rw [tcPatch] at hl
  match l, hl, xs, hlen with
  | [c0, c1, c2, c3], _, [y0, y1, y2, y3], _ =>
    have g0 := hg 0 _ rfl; have g1 := hg 1 _ rfl; have g2 := hg 2 _ rfl; have g3 := hg 3 _ rfl
    simp [tcC, tcU8] at g0 g1 g2 g3
    obtain ⟨a, e0, _, w0⟩ := DataW.trod_int Try.underlying48 g0
    obtain ⟨b, e1, _, w1⟩ := DataW.trod_int Try.underlying48 g1
    obtain ⟨c, e2, _, w2⟩ := DataW.trod_int Try.underlying5 g2
    obtain ⟨d, e3, _, w3⟩ := DataW.trod_int Try.underlying5 g3
    simp only [List.cons.injEq, and_true] at e0 e1 e2 e3
    subst e0 e1 e2 e3
    exact ⟨a, b, c, d, rfl, wf32 w0, wf32 w1, bounds_u8 w2, bounds_u8 w3⟩
set_option maxRecDepth 100000 in
theorem ints_cells {fuel : Nat} {l : List Value} {x : DataW H × List MemPlace} (h : DataW.trod enc Try.prog w base spare held fuel 25 l = some x) : ∃ v L, l = [v] ∧ IntsAt w v L ∧ ∀ k ∈ L, -9223372036854775808 ≤ k ∧ k ≤ 9223372036854775807 := by
  obtain ⟨p, n, c, L, rfl, hL, hn, hc, hp, hat, hq, hdat⟩ := slice_cells (0 : Int) (fun a cs => cs = [.int .i64 a] ∧ -9223372036854775808 ≤ a ∧ a ≤ 9223372036854775807) 1 (by decide) Try.underlying25 tcI (fun a cs h => by rw [h.1]; rfl) (fun fuel cs x h => by
    obtain ⟨a, e, h1, h2⟩ := int_cells h
    exact ⟨a, e, h1, h2⟩) h
  refine ⟨_, L, rfl, ⟨p, c, by rw [hL], by omega, by unfold maxLen at hc; omega, hp, fun h0 => ?_⟩, fun k hk => ?_⟩
  · obtain ⟨b, off, e, hb, hcell⟩ := hat (by omega)
    refine ⟨b, off, e, hb, fun i hi => ?_⟩
    obtain ⟨cs, ⟨rfl, _⟩, hj⟩ := hcell i (by omega)
    have := hj 0 (by omega)
    simpa using this
  · obtain ⟨i, hi, rfl⟩ := List.getElem_of_mem hk
    obtain ⟨cs, _, h1, h2⟩ := hq i (by omega)
    rw [List.getD_eq_getElem?_getD, List.getElem?_eq_getElem hi] at h1 h2
    exact ⟨h1, h2⟩
set_option maxRecDepth 100000 in
theorem items_cells {fuel : Nat} {l : List Value} {x : DataW H × List MemPlace} (h : DataW.trod enc Try.prog w base spare held fuel 51 l = some x) : ∃ v L, l = [v] ∧ ItsAt w v L ∧ ∀ k ∈ L, ItOk k := by
  obtain ⟨p, n, c, L, rfl, hL, hn, hc, hp, hat, hq, hdat⟩ := slice_cells zIt (fun a cs => cs = itV a ∧ ItOk a) 5 (by decide) Try.underlying51 tcItem (fun a cs h => by rw [h.1]; rfl) (fun fuel cs x h => by
    obtain ⟨a, e, h1⟩ := item_cells h
    exact ⟨a, e, h1⟩) h
  refine ⟨_, L, rfl, ⟨p, c, by rw [hL], by omega, by unfold maxLen at hc; omega, hp, fun h0 => ?_⟩, fun k hk => ?_⟩
  · obtain ⟨b, off, e, hb, hcell⟩ := hat (by omega)
    refine ⟨b, off, e, hb, fun i hi j hj => ?_⟩
    obtain ⟨cs, ⟨rfl, _⟩, hj'⟩ := hcell i (by omega)
    exact hj' j hj
  · obtain ⟨i, hi, rfl⟩ := List.getElem_of_mem hk
    obtain ⟨cs, _, h1⟩ := hq i (by omega)
    rw [List.getD_eq_getElem?_getD, List.getElem?_eq_getElem hi] at h1
    exact h1
set_option maxRecDepth 100000 in
set_option maxHeartbeats 8000000 in
theorem node_cells {fuel : Nat} {l : List Value} {x : DataW H × List MemPlace} (h : DataW.trod enc Try.prog w base spare held fuel 53 l = some x) : ∃ nd kv cv, l = ndV nd kv cv ∧ NdOk nd ∧ IntsAt w kv nd.kids ∧ ItsAt w cv nd.cols := by
  obtain ⟨xs, n, _, hx, hl, hlen, hg⟩ := DataW.trod_struct Try.underlying53 h
  rw [tcNode] at hl
  ·
    obtain ⟨c0, l0, rfl, hl0⟩ := cons_of hl
    obtain ⟨c1, l1, rfl, hl1⟩ := cons_of hl0
    obtain ⟨c2, l2, rfl, hl2⟩ := cons_of hl1
    obtain ⟨c3, l3, rfl, hl3⟩ := cons_of hl2
    obtain ⟨c4, l4, rfl, hl4⟩ := cons_of hl3
    obtain ⟨c5, l5, rfl, hl5⟩ := cons_of hl4
    obtain ⟨c6, l6, rfl, hl6⟩ := cons_of hl5
    obtain ⟨c7, l7, rfl, hl7⟩ := cons_of hl6
    obtain ⟨c8, l8, rfl, hl8⟩ := cons_of hl7
    obtain ⟨c9, l9, rfl, hl9⟩ := cons_of hl8
    obtain ⟨c10, l10, rfl, hl10⟩ := cons_of hl9
    obtain ⟨c11, l11, rfl, hl11⟩ := cons_of hl10
    obtain ⟨c12, l12, rfl, hl12⟩ := cons_of hl11
    obtain ⟨c13, l13, rfl, hl13⟩ := cons_of hl12
    obtain ⟨c14, l14, rfl, hl14⟩ := cons_of hl13
    obtain ⟨c15, l15, rfl, hl15⟩ := cons_of hl14
    obtain ⟨c16, l16, rfl, hl16⟩ := cons_of hl15
    obtain ⟨c17, l17, rfl, hl17⟩ := cons_of hl16
    obtain ⟨c18, l18, rfl, hl18⟩ := cons_of hl17
    obtain ⟨c19, l19, rfl, hl19⟩ := cons_of hl18
    obtain ⟨c20, l20, rfl, hl20⟩ := cons_of hl19
    obtain ⟨c21, l21, rfl, hl21⟩ := cons_of hl20
    obtain ⟨c22, l22, rfl, hl22⟩ := cons_of hl21
    obtain ⟨c23, l23, rfl, hl23⟩ := cons_of hl22
    obtain ⟨c24, l24, rfl, hl24⟩ := cons_of hl23
    obtain ⟨c25, l25, rfl, hl25⟩ := cons_of hl24
    obtain ⟨c26, l26, rfl, hl26⟩ := cons_of hl25
    obtain ⟨c27, l27, rfl, hl27⟩ := cons_of hl26
    obtain ⟨c28, l28, rfl, hl28⟩ := cons_of hl27
    obtain ⟨c29, l29, rfl, hl29⟩ := cons_of hl28
    obtain ⟨c30, l30, rfl, hl30⟩ := cons_of hl29
    obtain ⟨c31, l31, rfl, hl31⟩ := cons_of hl30
    obtain ⟨c32, l32, rfl, hl32⟩ := cons_of hl31
    obtain ⟨c33, l33, rfl, hl33⟩ := cons_of hl32
    obtain rfl := List.length_eq_zero_iff.1 hl33
    have hx0 : xs.length = 17 := by first | exact hlen | (simpa using hlen)
    obtain ⟨y0, xs0, rfl, hx1⟩ := cons_of hx0
    obtain ⟨y1, xs1, rfl, hx2⟩ := cons_of hx1
    obtain ⟨y2, xs2, rfl, hx3⟩ := cons_of hx2
    obtain ⟨y3, xs3, rfl, hx4⟩ := cons_of hx3
    obtain ⟨y4, xs4, rfl, hx5⟩ := cons_of hx4
    obtain ⟨y5, xs5, rfl, hx6⟩ := cons_of hx5
    obtain ⟨y6, xs6, rfl, hx7⟩ := cons_of hx6
    obtain ⟨y7, xs7, rfl, hx8⟩ := cons_of hx7
    obtain ⟨y8, xs8, rfl, hx9⟩ := cons_of hx8
    obtain ⟨y9, xs9, rfl, hx10⟩ := cons_of hx9
    obtain ⟨y10, xs10, rfl, hx11⟩ := cons_of hx10
    obtain ⟨y11, xs11, rfl, hx12⟩ := cons_of hx11
    obtain ⟨y12, xs12, rfl, hx13⟩ := cons_of hx12
    obtain ⟨y13, xs13, rfl, hx14⟩ := cons_of hx13
    obtain ⟨y14, xs14, rfl, hx15⟩ := cons_of hx14
    obtain ⟨y15, xs15, rfl, hx16⟩ := cons_of hx15
    obtain ⟨y16, xs16, rfl, hx17⟩ := cons_of hx16
    obtain rfl := List.length_eq_zero_iff.1 hx17
    have g0 := hg 0 _ rfl; have g1 := hg 1 _ rfl; have g2 := hg 2 _ rfl; have g3 := hg 3 _ rfl; have g4 := hg 4 _ rfl; have g5 := hg 5 _ rfl; have g6 := hg 6 _ rfl; have g7 := hg 7 _ rfl; have g8 := hg 8 _ rfl; have g9 := hg 9 _ rfl; have g10 := hg 10 _ rfl; have g11 := hg 11 _ rfl; have g12 := hg 12 _ rfl; have g13 := hg 13 _ rfl; have g14 := hg 14 _ rfl; have g15 := hg 15 _ rfl; have g16 := hg 16 _ rfl
    simp [tcI, tcI8, tcU8, tcS, tcIs, tcCols, tcItem, tcArr, tcPatch] at g0 g1 g2 g3 g4 g5 g6 g7 g8 g9 g10 g11 g12 g13 g14 g15 g16
    obtain ⟨k, e0, _, w0⟩ := DataW.trod_int Try.underlying44 g0
    obtain ⟨id, e1, w1⟩ := str_cells Try.underlying9 g1
    obtain ⟨cls, e2, w2⟩ := str_cells Try.underlying9 g2
    obtain ⟨kv, kids, e3, w3, w3'⟩ := ints_cells g3
    obtain ⟨iw, e4, w4⟩ := item_cells g4
    obtain ⟨ih, e5, w5⟩ := item_cells g5
    obtain ⟨gap, e6, w6⟩ := int_cells g6
    obtain ⟨p0, p1, p2, p3, e7, w7, w7a, w7b, w7c⟩ := arr4_cells g7
    obtain ⟨bo, e8, _, w8⟩ := DataW.trod_int Try.underlying44 g8
    obtain ⟨al, e9, _, w9⟩ := DataW.trod_int Try.underlying44 g9
    obtain ⟨cr, e10, _, w10⟩ := DataW.trod_int Try.underlying44 g10
    obtain ⟨tx, e11, w11⟩ := str_cells Try.underlying9 g11
    obtain ⟨wr, e12, _, w12⟩ := DataW.trod_int Try.underlying44 g12
    obtain ⟨f, b, a, d, e13, w13, w13a, w13b, w13c⟩ := patch_cells g13
    obtain ⟨cv, cols, e14, w14, w14'⟩ := items_cells g14
    obtain ⟨x0, x1, x2, x3, e15, w15, w15a, w15b, w15c⟩ := arr4_cells g15
    obtain ⟨fl, e16, _, w16⟩ := DataW.trod_int Try.underlying5 g16
    simp only [itV, List.cons.injEq, and_true] at e0 e1 e2 e3 e4 e5 e6 e7 e8 e9 e10 e11 e12 e13 e14 e15 e16
    obtain ⟨e4, e4a, e4b, e4c, e4d⟩ := e4
    obtain ⟨e5, e5a, e5b, e5c, e5d⟩ := e5
    obtain ⟨e7, e7a, e7b, e7c⟩ := e7
    obtain ⟨e13, e13a, e13b, e13c⟩ := e13
    obtain ⟨e15, e15a, e15b, e15c⟩ := e15
    subst e0 e1 e2 e3 e4 e5 e6 e7 e8 e9 e10 e11 e12 e13 e14 e15 e16 e4a e4b e4c e4d e5a e5b e5c e5d e7a e7b e7c e13a e13b e13c e15a e15b e15c
    exact ⟨⟨k, id, cls, kids, iw, ih, gap, p0, p1, p2, p3, bo, al, cr, tx, wr, f, b, a, d, cols, x0, x1, x2, x3, fl⟩, _, _, rfl,
      ⟨wf8 w0, w1, w2, w11, w3', w4, w5, w6, w7, w7a, w7b, w7c, wf8 w8, wf8 w9, wf8 w10, wf8 w12, w13, w13a, w13b, w13c, w14', w15, w15a, w15b, w15c, bounds_u8 w16⟩, w3, w14⟩
set_option maxRecDepth 100000 in
theorem open_tree {v : Value} {d : DataW H} {p : List MemPlace} {r : Reach} {b0 : Nat} (hv : Value.okWide Try.prog w r b0 24 v) (h : DataW.Trod enc Try.prog w base spare held 24 v d p) :
    ∃ (p' : Option Addr) (c : Nat) (T : List Nd), v = .agg #[.slice p' T.length c] ∧ TreeAt w (.slice p' T.length c) T ∧ (0 < T.length → ∃ elems sp, d = .agg [.slice elems sp] ∧ elems.length = T.length) := by
  obtain ⟨cs, rfl, hsz⟩ := okWide_struct Try.underlying24 hv
  obtain ⟨fuel, hf⟩ := h
  have hf' : DataW.trod enc Try.prog w base spare held fuel 24 cs.toList = some (d, p) := by simpa [Value.cells] using hf
  obtain ⟨xs, n, _, hx, hl, hlen, hg⟩ := DataW.trod_struct Try.underlying24 hf'
  have g0 := hg 0 _ rfl
  rw [tcTree] at hl
  generalize hcs : cs.toList = cl at *
  obtain ⟨c0, rfl⟩ : ∃ c0, cl = [c0] := List.length_eq_one_iff.1 hl
  ·
    have hx0 : xs.length = 1 := by first | exact hlen | (simpa using hlen)
    obtain ⟨y0, xs0, rfl, hx1⟩ := cons_of hx0
    obtain rfl := List.length_eq_zero_iff.1 hx1
    simp [tcNodes] at g0
    obtain ⟨q, n, c, L, e, hL, hn, hc, hp, hat, hq, hdat⟩ := slice_cells zNd (fun a cs => NdOk a ∧ ∃ kv cv, cs = ndV a kv cv ∧ IntsAt w kv a.kids ∧ ItsAt w cv a.cols) 34 (by decide) Try.underlying22 tcNode (fun a cs h => by
      obtain ⟨_, kv, cv, rfl, _⟩ := h; rfl) (fun fuel cs x h => by
      obtain ⟨nd, kv, cv, e, h1, h2, h3⟩ := node_cells h
      exact ⟨nd, h1, kv, cv, e, h2, h3⟩) g0
    rw [e] at hcs
    refine ⟨q, c, L, ?_, ⟨fun x hx => ?_, by unfold maxLen at hc; omega, q, c, by rw [hL], by omega, by unfold maxLen at hc; omega, fun h0 => ?_⟩, fun h0 => ?_⟩
    · rw [← Array.toArray_toList (xs := cs), hcs, hL]
    · obtain ⟨i, hi, rfl⟩ := List.getElem_of_mem hx
      obtain ⟨cs', h1, _⟩ := hq i (by omega)
      rwa [List.getD_eq_getElem?_getD, List.getElem?_eq_getElem hi] at h1
    · obtain ⟨b, off, e', hb, hcell⟩ := hat (by omega)
      refine ⟨b, off, e', hb, fun i hi => ?_⟩
      obtain ⟨cs', ⟨_, kv, cv, rfl, hk, hcv⟩, hj⟩ := hcell i (by omega)
      exact ⟨kv, cv, hk, hcv, fun j hj' => by rw [Nat.add_assoc]; exact hj j hj'⟩
    · obtain ⟨elems, sp, he, hel⟩ := hdat (by omega)
      refine ⟨elems, sp, ?_, by omega⟩
      have := (Prod.ext_iff.1 hx).1
      simp only [List.map_cons, List.map_nil] at this
      rw [this, he]
set_option maxRecDepth 100000 in
theorem tbNode : Try.prog.bytesOf 53 = 288 := by kernel_rfl
set_option maxRecDepth 100000 in
theorem tree_sized {ts : List TypeId} {ds : List (DataW H)} (h : (DataW.weightsEach Try.prog ts ds).all (· ≤ reachBytes) = true) {j : Nat} {elems sp : List (DataW H)} (ht : ts[j]? = some 24) (hd : ds[j]? = some (.agg [.slice elems sp])) : elems.length * 288 ≤ 140737488351232 := by
  have := List.all_eq_true.1 h _ (DataW.weights_mem_each ht hd ((elems.length + sp.length) * Try.prog.bytesOf 53) (by simp [DataW.weights, DataW.weightsEach, Try.underlying24, Try.underlying22]))
  rw [tbNode] at this
  have e : reachBytes = 140737488351232 := by decide
  rw [e, decide_eq_true_eq] at this
  exact Nat.le_trans (Nat.mul_le_mul_right 288 (Nat.le_add_right _ _)) this
set_option maxRecDepth 100000 in
theorem off_cells {fuel : Nat} {l : List Value} {x : DataW H × List MemPlace} (h : DataW.trod enc Try.prog w base spare held fuel 79 l = some x) : ∃ a : Int × Int, l = [.int .i64 a.1, .int .i64 a.2] ∧ True := by
  obtain ⟨xs, n, _, hx, hl, hlen, hg⟩ := DataW.trod_struct Try.underlying79 h
  rw [tcOff] at hl
  match l, hl, xs, hlen with
  | [c0, c1], _, [y0, y1], _ =>
    have g0 := hg 0 _ rfl; have g1 := hg 1 _ rfl
    simp [tcI] at g0 g1
    obtain ⟨a, e0, _, w0⟩ := DataW.trod_int Try.underlying3 g0
    obtain ⟨b, e1, _, w1⟩ := DataW.trod_int Try.underlying3 g1
    simp only [List.cons.injEq, and_true] at e0 e1
    subst e0 e1
    exact ⟨(a, b), rfl, trivial⟩
end
end Go.Proofs.Ytihjefncjkdnpaa
