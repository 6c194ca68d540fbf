/- Layer 13: plain laws: Rune and Of are the reference's. -/
import Derived.Test.YtebalohoblaedaaGlyH
namespace Go.Proofs.Ytebalohoblaedaa
open Go.RowKit
set_option linter.unusedVariables false
set_option linter.unusedSimpArgs false

def f5 (i : Fin 5) : Int := (i.val : Int)
theorem cnt_f5 (x : Int) : ∃ i : Fin 5, cnt x = f5 i := by
  unfold cnt
  split
  · exact ⟨1, rfl⟩
  split
  · exact ⟨2, rfl⟩
  split
  · exact ⟨3, rfl⟩
  split
  · exact ⟨4, rfl⟩
  · exact ⟨0, rfl⟩
set_option maxRecDepth 1000000 in
theorem runeC_eq : ∀ a b c d : Fin 5, runeC ⟨f5 a, f5 b, f5 c, f5 d⟩ = rruneC ⟨f5 a, f5 b, f5 c, f5 d⟩ := by decide +kernel
theorem rune_eq (a : A4) : runeA a = rruneA a := by
  unfold runeA rruneA cntA
  obtain ⟨i, hi⟩ := cnt_f5 a.u
  obtain ⟨j, hj⟩ := cnt_f5 a.r
  obtain ⟨k, hk⟩ := cnt_f5 a.d
  obtain ⟨l, hl⟩ := cnt_f5 a.l
  rw [hi, hj, hk, hl]
  exact runeC_eq i j k l
set_option maxRecDepth 1000000 in
theorem of_eq_in : ∀ n : Fin 128, ofA (9472 + (n.val : Int)) = rof (9472 + (n.val : Int)) := by decide +kernel
theorem of_eq (r : Int) : ofA r = rof r := by
  by_cases h : r < 9472 ∨ 9599 < r
  · rw [ofA_out r h, rof_miss r (fun j hj => by have := entN_lt j hj; omega)]
  · have := of_eq_in ⟨(r - 9472).toNat, by omega⟩
    simp only [] at this
    rwa [show 9472 + (((r - 9472).toNat : Nat) : Int) = r by omega] at this
end Go.Proofs.Ytebalohoblaedaa
