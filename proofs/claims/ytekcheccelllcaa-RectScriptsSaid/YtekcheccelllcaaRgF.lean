/- Layer 07: the library's Sort, Compact and Equal of lists of ints, by the shelf's contracts; rows of the call's own. -/
import Derived.Test.YtekcheccelllcaaRgE
import Derived.Shelf.Sort.Plain
import Derived.Shelf.Slices.Equal
import Derived.Shelf.Slices.CompactI
import Derived.Shelf.Slices.Cells
import Derived.Shelf.Slices.In.SortNone
import Derived.Shelf.Slices.Empties2
import Derived.Lib.OwnBridge
import Derived.Lib.RowBridge
namespace Go.Proofs.Ytekcheccelllcaa
open Go.Shelf Go.RowKit Go.Sort Go.Lib
set_option linter.unusedVariables false
set_option linter.unusedSimpArgs false

def lays189_ren : Go.Shelf.Ren := ⟨fun | 189 => 65 | 125 => 74 | 257 => 73 | 128 => 85 | 129 => 86 | 294 => 76 | 295 => 77 | 296 => 78 | 297 => 79 | 298 => 80 | 299 => 81 | 216 => 82 | 300 => 83 | 301 => 84 | 328 => 87 | 329 => 88 | 330 => 89 | 331 => 90 | 332 => 91 | 215 => 92 | 343 => 93 | n => n, fun | 28 => 46 | 3 => 3 | 46 => 109 | 0 => 0 | 51 => 120 | 53 => 122 | 4 => 4 | 183 => 113 | 182 => 112 | 131 => 117 | 5 => 5 | 9 => 9 | 218 => 123 | 222 => 127 | 228 => 129 | 229 => 93 | n => n, fun | n => n⟩
theorem lays189 : Go.Proofs.Lays.n189 Try.prog lays189_ren := {
  mixed := by kernel_rfl
  f125 := Try.func74.trans (congrArg some (by kernel_rfl))
  f128 := Try.func85.trans (congrArg some (by kernel_rfl))
  f129 := Try.func86.trans (congrArg some (by kernel_rfl))
  f189 := Try.func65.trans (congrArg some (by kernel_rfl))
  f215 := Try.func92.trans (congrArg some (by kernel_rfl))
  f216 := Try.func82.trans (congrArg some (by kernel_rfl))
  f257 := Try.func73.trans (congrArg some (by kernel_rfl))
  f294 := Try.func76.trans (congrArg some (by kernel_rfl))
  f295 := Try.func77.trans (congrArg some (by kernel_rfl))
  f296 := Try.func78.trans (congrArg some (by kernel_rfl))
  f297 := Try.func79.trans (congrArg some (by kernel_rfl))
  f298 := Try.func80.trans (congrArg some (by kernel_rfl))
  f299 := Try.func81.trans (congrArg some (by kernel_rfl))
  f300 := Try.func83.trans (congrArg some (by kernel_rfl))
  f301 := Try.func84.trans (congrArg some (by kernel_rfl))
  f328 := Try.func87.trans (congrArg some (by kernel_rfl))
  f329 := Try.func88.trans (congrArg some (by kernel_rfl))
  f330 := Try.func89.trans (congrArg some (by kernel_rfl))
  f331 := Try.func90.trans (congrArg some (by kernel_rfl))
  f332 := Try.func91.trans (congrArg some (by kernel_rfl))
  f343 := Try.func93.trans (congrArg some (by kernel_rfl))
  t0 := Try.underlying0
  a0 := Try.isAgg0
  z0 := Try.sizeOf0
  v0 := Try.zeroValue0
  t3 := Try.underlying3
  a3 := Try.isAgg3
  z3 := Try.sizeOf3
  v3 := Try.zeroValue3
  t4 := Try.underlying4
  a4 := Try.isAgg4
  z4 := Try.sizeOf4
  v4 := Try.zeroValue4
  t5 := Try.underlying5
  a5 := Try.isAgg5
  z5 := Try.sizeOf5
  v5 := Try.zeroValue5
  t9 := Try.underlying9
  a9 := Try.isAgg9
  z9 := Try.sizeOf9
  v9 := Try.zeroValue9
  t28 := Try.underlying46
  a28 := Try.isAgg46
  z28 := Try.sizeOf46
  v28 := Try.zeroValue46
  t46 := Try.underlying109
  a46 := Try.isAgg109
  z46 := Try.sizeOf109
  v46 := Try.zeroValue109
  t51 := Try.underlying120
  a51 := Try.isAgg120
  z51 := Try.sizeOf120
  v51 := Try.zeroValue120
  t53 := Try.underlying122
  a53 := Try.isAgg122
  z53 := Try.sizeOf122
  v53 := Try.zeroValue122
  t131 := Try.underlying117
  a131 := Try.isAgg117
  z131 := Try.sizeOf117
  v131 := Try.zeroValue117
  t182 := Try.underlying112
  a182 := Try.isAgg112
  z182 := Try.sizeOf112
  v182 := Try.zeroValue112
  t183 := Try.underlying113
  a183 := Try.isAgg113
  z183 := Try.sizeOf113
  v183 := Try.zeroValue113
  t218 := Try.underlying123
  a218 := Try.isAgg123
  z218 := Try.sizeOf123
  v218 := Try.zeroValue123
  t222 := Try.underlying127
  a222 := Try.isAgg127
  z222 := Try.sizeOf127
  v222 := Try.zeroValue127
  t228 := Try.underlying129
  a228 := Try.isAgg129
  z228 := Try.sizeOf129
  v228 := Try.zeroValue129
  t229 := Try.underlying93
  a229 := Try.isAgg93
  z229 := Try.sizeOf93
  v229 := Try.zeroValue93 }
def lays111_ren : Go.Shelf.Ren := ⟨fun | 111 => 68 | n => n, fun | 28 => 46 | 3 => 3 | 4 => 4 | 0 => 0 | n => n, fun | n => n⟩
theorem lays111 : Go.Proofs.Lays.n111 Try.prog lays111_ren := {
  mixed := by kernel_rfl
  f111 := Try.func68.trans (congrArg some (by kernel_rfl))
  t0 := Try.underlying0
  a0 := Try.isAgg0
  z0 := Try.sizeOf0
  v0 := Try.zeroValue0
  t3 := Try.underlying3
  a3 := Try.isAgg3
  z3 := Try.sizeOf3
  v3 := Try.zeroValue3
  t4 := Try.underlying4
  a4 := Try.isAgg4
  z4 := Try.sizeOf4
  v4 := Try.zeroValue4
  t28 := Try.underlying46
  a28 := Try.isAgg46
  z28 := Try.sizeOf46
  v28 := Try.zeroValue46 }
def laysNm220_ren : Go.Shelf.Ren := ⟨fun | 20 => 66 | n => n, fun | 22 => 46 | 3 => 3 | 4 => 4 | 0 => 0 | n => n, fun | n => n⟩
theorem laysNm220 : Go.Proofs.Lays2.n20 Try.prog laysNm220_ren := {
  mixed := by kernel_rfl
  f20 := Try.func66.trans (congrArg some (by kernel_rfl))
  t0 := Try.underlying0
  a0 := Try.isAgg0
  z0 := Try.sizeOf0
  v0 := Try.zeroValue0
  t3 := Try.underlying3
  a3 := Try.isAgg3
  z3 := Try.sizeOf3
  v3 := Try.zeroValue3
  t4 := Try.underlying4
  a4 := Try.isAgg4
  z4 := Try.sizeOf4
  v4 := Try.zeroValue4
  t22 := Try.underlying46
  a22 := Try.isAgg46
  z22 := Try.sizeOf46
  v22 := Try.zeroValue46
  i3 := by kernel_rfl }

theorem below_grow (w : World) (os : Array Obj) : Below w.heap.size w (grow w os) := ⟨rfl, rfl, rfl, by simp, fun k hk => heap_grow_old _ _ hk⟩
theorem row_grow {w : World} {base n k : Nat} {t : TypeId} {v : Value} {xs : List Value} (h : w.ownsRow base t k v n xs) (os : Array Obj) : (grow w os).ownsRow base t k v n xs := row_later h (below_grow w os)
theorem own_none {w : World} {base n k : Nat} {t : TypeId} {c m : Nat} {xs : List Value} (h : w.ownsRow base t k (.slice none m c) n xs) : n = 0 ∧ m = 0 ∧ c = 0 ∧ xs = [] := by
  rcases h.2 with ⟨h0, h1⟩ | ⟨g, cap, cur, h0, _⟩
  · cases h0
    have h2 := h.1
    rw [h1] at h2
    refine ⟨h1, rfl, rfl, ?_⟩
    exact List.length_eq_zero_iff.1 (by simpa using h2)
  · cases h0
theorem sort_own (base n : Nat) (v : Value) (L : List Int) (w : World) (h : w.ownsRow base 3 1 v n (vI L)) (hn : n < 4611686018427387904) : Calls Try.prog 65 #[v] w fun e w' => e = .returned (.tuple #[]) ∧ w'.ownsRow base 3 1 v n (vI (L.mergeSort fun x y => decide (x ≤ y))) ∧ Below base w w' := by
  by_cases hv : v = .slice none 0 0
  · subst hv
    obtain ⟨h1, _, _, h2⟩ := own_none h
    have h3 : L = [] := by unfold vI at h2; exact List.map_eq_nil_iff.1 h2
    subst h3
    refine (Any.slices_Sort_int_none lays189 none 0 w).mono ?_
    rintro e w' ⟨rfl, rfl⟩
    exact ⟨rfl, by simpa using h, Below.refl _ _⟩
  · obtain ⟨g, cap, rfl, hb, hg, hnc, hcm, hl, hH⟩ := holds_of_ownsRow (enc := Value.int .i64) h hv
    subst hl
    refine (Any.slices_Sort_int lays189 g 0 cap L w hH hg hn).mono ?_
    rintro e w' ⟨rfl, q, os, rfl⟩
    have hr := ownsRow_putRow (q := q) (ys := L.mergeSort fun x y => decide (x ≤ y)) (k := L.length) h (by simp) (Nat.le_refl _)
    rw [List.take_of_length_le (by simp)] at hr
    refine ⟨rfl, row_grow hr os, ?_⟩
    have b1 := below_putRow (enc := Value.int .i64) (q := q) (d := (L.mergeSort fun x y => decide (x ≤ y)).toArray) (Below.refl base w) hb
    exact b1.trans ((below_grow _ os).mono (by have := b1.size; omega))
theorem compact_own (base n : Nat) (v : Value) (L : List Int) (w : World) (h : w.ownsRow base 3 1 v n (vI L)) : Calls Try.prog 66 #[v] w fun e w' => ∃ v', e = .returned v' ∧ w'.ownsRow base 3 1 v' (Lib.compact L).length (vI (Lib.compact L)) ∧ Below base w w' := by
  by_cases hv : v = .slice none 0 0
  · subst hv
    obtain ⟨h1, _, _, h2⟩ := own_none h
    have h3 : L = [] := by unfold vI at h2; exact List.map_eq_nil_iff.1 h2
    subst h3
    refine (Any.slices_Compact_int_empty laysNm220 none 0 w).mono ?_
    rintro e w' ⟨rfl, rfl⟩
    exact ⟨_, rfl, by rw [h1] at h; exact h, Below.refl _ _⟩
  · obtain ⟨g, cap, rfl, hb, hg, hnc, hcm, hl, hH⟩ := holds_of_ownsRow (enc := Value.int .i64) h hv
    subst hl
    have hcl := compact_length_le L
    refine (Any.slices_Compact_int laysNm220 g 0 cap L w hH (by unfold maxLen at hcm; omega) hnc).mono ?_
    rintro e w' ⟨rfl, q, rfl⟩
    have hr := ownsRow_putRow (q := q) (ys := Lib.compact L ++ List.replicate (L.length - (Lib.compact L).length) 0) (k := (Lib.compact L).length) h (by simp; omega) hcl
    rw [List.take_left] at hr
    exact ⟨_, rfl, hr, below_putRow (Below.refl base w) hb⟩
theorem equal_rd (p q : Option Addr) (c d : Nat) (A B : List Int) (w : World) (hA : RdI w p A) (hB : RdI w q B) (lA : A.length ≤ 9223372036854775807) (lB : B.length ≤ 9223372036854775807) : Calls Try.prog 68 #[.slice p A.length c, .slice q B.length d] w fun e w' => e = .returned (.bool (decide (A = B))) ∧ ∃ k, w' = w.drewN k := by
  by_cases hl : A.length = B.length
  · by_cases h0 : A.length = 0
    · have ha := List.length_eq_zero_iff.1 h0
      have hb := List.length_eq_zero_iff.1 (hl ▸ h0)
      subst ha hb
      refine (Any.slices_Equal_int_empty lays111 p q c 0 d w (by omega)).mono ?_
      rintro e w' ⟨rfl, rfl⟩
      exact ⟨by simp, 0, rfl⟩
    · obtain ⟨b1, o1, rfl, _, c1⟩ := hA h0
      obtain ⟨b2, o2, rfl, _, c2⟩ := hB (by omega)
      refine (Any.slices_Equal_int lays111 b1 o1 A.length c b2 o2 B.length d A B w (Nat.le_refl _) (Nat.le_refl _) lA lB c1 c2).mono ?_
      rintro e w' ⟨rfl, k, rfl⟩
      refine ⟨?_, k, rfl⟩
      rw [List.take_length, List.take_length]
      by_cases e : A = B
      · simp [e]
      · simp [e]
  · refine (Any.slices_Equal_int_lens lays111 p q A.length c B.length d w hl).mono ?_
    rintro e w' ⟨rfl, rfl⟩
    exact ⟨by rw [decide_eq_false fun e => hl (by rw [e])], 0, rfl⟩
/-- of rising numbers Compact leaves each once -/
theorem compact_up {L : List Int} (h : L.Pairwise (· ≤ ·)) : Up (Lib.compact L) ∧ ∀ x, x ∈ Lib.compact L ↔ x ∈ L := by
  have hget : ∀ j, j < L.length → L.toArray[j]! = L.getD j 0 := fun j hj => by simp [getElem!_pos, hj, List.getD_eq_getElem?_getD]
  have hle : ∀ i j, i ≤ j → j < L.length → L.getD i 0 ≤ L.getD j 0 := fun i j hij hj => by
    rcases Nat.lt_or_ge i j with h1 | h1
    · have := List.pairwise_iff_getElem.1 h i j (by omega) hj h1
      simpa [List.getD_eq_getElem?_getD, hj, show i < L.length by omega] using this
    · have : i = j := by omega
      subst this; exact Int.le_refl _
  have key : ∀ m, m ≤ L.length → Up (compactUpTo L.toArray m) ∧ ∀ x, x ∈ compactUpTo L.toArray m ↔ ∃ j, j < m ∧ L.getD j 0 = x := by
    intro m
    induction m with
    | zero => intro _; exact ⟨List.Pairwise.nil, fun x => by simp [compactUpTo]⟩
    | succ m ih =>
      intro hm
      obtain ⟨h1, h2⟩ := ih (by omega)
      rw [compactUpTo_succ, hget m (by omega)]
      by_cases hk : keeps L.toArray m = true
      · rw [if_pos hk]
        have hk2 : m = 0 ∨ L.getD m 0 ≠ L.getD (m - 1) 0 := by
          have := of_decide_eq_true hk
          rcases this with h | h
          · exact .inl h
          · rw [hget m (by omega), hget (m - 1) (by omega)] at h
            exact .inr h
        refine ⟨List.pairwise_append.2 ⟨h1, List.pairwise_singleton _ _, fun a ha b hb => ?_⟩, fun x => ?_⟩
        · rw [List.mem_singleton] at hb
          subst hb
          obtain ⟨j, hj, rfl⟩ := (h2 a).1 ha
          have e1 := hle j (m - 1) (by omega) (by omega)
          have e2 := hle (m - 1) m (by omega) (by omega)
          rcases hk2 with h | h
          · omega
          · omega
        · rw [List.mem_append, h2, List.mem_singleton]
          constructor
          · rintro (⟨j, hj, rfl⟩ | rfl)
            · exact ⟨j, by omega, rfl⟩
            · exact ⟨m, by omega, rfl⟩
          · rintro ⟨j, hj, rfl⟩
            by_cases e : j = m
            · subst e; exact .inr rfl
            · exact .inl ⟨j, by omega, rfl⟩
      · have hk0 : keeps L.toArray m = false := by simpa using hk
        rw [if_neg hk, List.append_nil]
        refine ⟨h1, fun x => ?_⟩
        rw [h2]
        have hk2 : m ≠ 0 ∧ L.getD m 0 = L.getD (m - 1) 0 := by
          have := of_decide_eq_false hk0
          rw [hget m (by omega), hget (m - 1) (by omega)] at this
          refine ⟨fun e => this (.inl e), Classical.byContradiction fun e => this (.inr e)⟩
        constructor
        · rintro ⟨j, hj, rfl⟩; exact ⟨j, by omega, rfl⟩
        · rintro ⟨j, hj, rfl⟩
          by_cases e : j = m
          · subst e; exact ⟨j - 1, by have := hk2.1; omega, hk2.2.symm⟩
          · exact ⟨j, by omega, rfl⟩
  obtain ⟨h1, h2⟩ := key L.length (Nat.le_refl _)
  refine ⟨h1, fun x => ?_⟩
  rw [show Lib.compact L = compactUpTo L.toArray L.length from rfl, h2]
  constructor
  · rintro ⟨j, hj, rfl⟩
    rw [List.getD_eq_getElem?_getD, List.getElem?_eq_getElem hj]
    exact List.getElem_mem hj
  · intro hx
    obtain ⟨j, hj, rfl⟩ := List.getElem_of_mem hx
    exact ⟨j, hj, by rw [List.getD_eq_getElem?_getD, List.getElem?_eq_getElem hj]; rfl⟩
/-- Sort, then Compact: rising, each once -/
theorem sort_compact (L : List Int) : Lib.compact (L.mergeSort fun x y => decide (x ≤ y)) = srtU L := by
  have hs : (L.mergeSort fun x y => decide (x ≤ y)).Pairwise (· ≤ ·) := by
    have := List.pairwise_mergeSort (le := fun x y : Int => decide (x ≤ y)) (fun a b c h1 h2 => by simp at *; omega) (fun a b => by simp; omega) L
    exact this.imp (fun h => by simpa using h)
  obtain ⟨h1, h2⟩ := compact_up hs
  refine up_uniq h1 (srtU_up L) fun x => ?_
  rw [h2, srtU_mem, List.mem_mergeSort]
end Go.Proofs.Ytekcheccelllcaa
