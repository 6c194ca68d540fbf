/- Opening arguments: how large the lists of a tree are. -/
import Derived.Test.YtihjefncjkdnpaaTreO
import Derived.Deep.MidRow
namespace Go.Proofs.Ytihjefncjkdnpaa
open Go.ChangeShapes Go.WideShapes Go.ChangeAt Go.RowKit Go.Joins Go.Deep
set_option linter.unusedVariables false
set_option linter.unusedSimpArgs false

section
variable {H : Type} {enc : TypeId × Value → H} {P : Program} {w : World} {base : Nat} {spare : Nat → Bool} {held : Bool}
theorem weightsAll_mem {e : TypeId} {d : DataW H} {n : Nat} (hn : n ∈ d.weights P e) : ∀ {l : List (DataW H)}, d ∈ l → n ∈ DataW.weightsAll P e l
  | a :: l, hd => by
    rw [DataW.weightsAll, List.mem_append]
    rcases List.mem_cons.1 hd with rfl | hd
    · exact .inl hn
    · exact .inr (weightsAll_mem hn hd)
theorem slice_weight {R : Nat} {t e : TypeId} {fuel : Nat} {p : Option Addr} {n c : Nat} {x : DataW H × List MemPlace} (ht : P.underlying t = some (.slice e)) (h : DataW.trod enc P w base spare held fuel t [.slice p n c] = some x) (hw : ∀ k ∈ x.1.weights P t, k ≤ R) : n * P.bytesOf e ≤ R := by
  rcases open_slice ht h with ⟨h1, h2⟩ | ⟨a', len, cap, m, n', D, Pl, h1, hb, hle, hcap, hm, hx, hall⟩
  · simp only [List.cons.injEq, Value.slice.injEq, and_true] at h1
    rw [h1.2.1]; simp
  · simp only [List.cons.injEq, Value.slice.injEq, and_true] at h1
    have := hw ((((List.range len).map D).length + ((List.range (m - len)).map fun j => D (len + j)).length) * P.bytesOf e) (by rw [hx]; simp [DataW.weights, ht])
    rw [List.length_map, List.length_range] at this
    rw [h1.2.1]
    exact Nat.le_trans (Nat.mul_le_mul_right _ (Nat.le_add_right _ _)) this
end
section
variable {H : Type} {enc : TypeId × Value → H} {w : World} {base : Nat} {spare : Nat → Bool} {held : Bool}
theorem node_deep {fuel : Nat} {x : Nd} {kv cv : Value} {y : DataW H × List MemPlace} (h : DataW.trod enc Try.prog w base spare held fuel 53 (ndV x kv cv) = some y) (hk : IntsAt w kv x.kids) (hc : ItsAt w cv x.cols) (hw : ∀ k ∈ y.1.weights Try.prog 53, k ≤ 140737488351232) : x.kids.length * 8 ≤ 140737488351232 ∧ x.cols.length * 40 ≤ 140737488351232 := by
  obtain ⟨xs, n, _, hx, hl, hlen, hg⟩ := DataW.trod_struct Try.underlying53 h
  have g3 := hg 3 _ rfl
  have g14 := hg 14 _ rfl
  simp [tcIs, tcCols, ndV] at g3 g14
  have hx3 : 3 < xs.length := by rw [hlen]; decide
  have hx14 : 14 < xs.length := by rw [hlen]; decide
  rw [List.getElem?_eq_getElem hx3] at g3
  rw [List.getElem?_eq_getElem hx14] at g14
  have W : ∀ (j : Nat) (t : TypeId) (hj : j < xs.length), [44, 9, 9, 25, 46, 46, 3, 47, 44, 44, 44, 9, 44, 50, 51, 47, 5][j]? = some t → ∀ k ∈ (xs[j]'hj).1.weights Try.prog t, k ≤ 140737488351232 := by
    intro j t hj ht k hk
    refine hw k ?_
    rw [hx]
    simp only [DataW.weights, Try.underlying53]
    exact DataW.weights_mem_each (j := j) ht (by rw [List.getElem?_map, List.getElem?_eq_getElem hj]; rfl) k hk
  obtain ⟨pk, ck, rfl, _⟩ := hk
  obtain ⟨pc, cc, rfl, _⟩ := hc
  have r3 := slice_weight Try.underlying25 g3 (W 3 _ hx3 rfl)
  have r14 := slice_weight Try.underlying51 g14 (W 14 _ hx14 rfl)
  rw [show Try.prog.bytesOf 3 = 8 by kernel_rfl] at r3
  rw [show Try.prog.bytesOf 46 = 40 by kernel_rfl] at r14
  exact ⟨r3, r14⟩
theorem ndV_len' (x : Nd) (kv cv : Value) : (ndV x kv cv).length = 34 := rfl
theorem tree_deep {p : Option Addr} {c : Nat} {T : List Nd} {d : DataW H} {pl : List MemPlace} (h : DataW.Trod enc Try.prog w base spare held 24 (.agg #[.slice p T.length c]) d pl) (hT : TreeAt w (.slice p T.length c) T) (hw : ∀ k ∈ d.weights Try.prog 24, k ≤ 140737488351232) : ∀ y ∈ T, y.kids.length * 8 ≤ 140737488351232 ∧ y.cols.length * 40 ≤ 140737488351232 := by
  obtain ⟨fuel, hf⟩ := h
  have hf' : DataW.trod enc Try.prog w base spare held fuel 24 [.slice p T.length c] = some (d, pl) := by simpa [Value.cells] using hf
  obtain ⟨xs, n, _, hx, hl, hlen, hg⟩ := DataW.trod_struct Try.underlying24 hf'
  have g0 := hg 0 _ rfl
  simp [tcNodes] at g0
  have hx0 : 0 < xs.length := by rw [hlen]; decide
  rw [List.getElem?_eq_getElem hx0] at g0
  have W : ∀ k ∈ (xs[0]'hx0).1.weights Try.prog 22, k ≤ 140737488351232 := by
    intro k hk
    refine hw k ?_
    have hd := (Prod.ext_iff.1 hx).1
    simp only [] at hd
    rw [hd]
    simp only [DataW.weights, Try.underlying24]
    exact DataW.weights_mem_each (j := 0) (ts := [22]) rfl (by rw [List.getElem?_map, List.getElem?_eq_getElem hx0]; rfl) k hk
  generalize xs[0]'hx0 = y0 at *
  intro y hy
  obtain ⟨i, hi, rfl⟩ := List.getElem_of_mem hy
  rcases open_slice Try.underlying22 g0 with ⟨h1, _⟩ | ⟨a', len, cap, m, n', D, Pl, h1, hb, hle, hcap, hm, hx', hall⟩
  · simp only [List.cons.injEq, Value.slice.injEq, and_true] at h1
    omega
  · simp only [List.cons.injEq, Value.slice.injEq, and_true] at h1
    obtain ⟨rfl, rfl, rfl⟩ := h1
    have him : i < m := by rw [hm]; split <;> omega
    obtain ⟨cs', h2, h3⟩ := hall i him
    rw [tcNode] at h2
    obtain ⟨_, hcl, hcell⟩ := World.cells?_some h2
    obtain ⟨_, _, p', c', e, _, _, hnd⟩ := hT
    injection e with e1 _ _
    subst e1
    obtain ⟨b, off, e', _, hnd2⟩ := hnd (by omega)
    injection e' with e'
    subst e'
    obtain ⟨kv, cv, hk, hc, hcc⟩ := hnd2 i hi
    rw [List.getD_eq_getElem?_getD, List.getElem?_eq_getElem hi] at hk hc hcc
    simp only [Option.getD_some] at hk hc hcc
    have hcs : cs' = ndV T[i] kv cv := by
      apply List.ext_getElem?
      intro j
      by_cases hj : j < 34
      · have := hcell j hj
        rw [add_add, Addr.add_mid] at this
        rw [← this, ← Nat.add_assoc, hcc j hj]
      · rw [List.getElem?_eq_none (by omega), List.getElem?_eq_none (by rw [ndV_len']; omega)]
    rw [hcs] at h3
    refine node_deep h3 hk hc (fun k hk' => W k ?_)
    rw [hx']
    simp only [DataW.weights, Try.underlying22, List.mem_cons, List.mem_append]
    refine .inr (.inl (weightsAll_mem hk' ?_))
    exact List.mem_map.2 ⟨i, by simpa using hi, rfl⟩
end
end Go.Proofs.Ytihjefncjkdnpaa
