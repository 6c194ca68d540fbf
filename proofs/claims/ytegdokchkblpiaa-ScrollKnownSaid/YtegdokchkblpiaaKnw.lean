/- ScrollKnown's values, in plain Lean. -/
import Derived.Test.YtegdokchkblpiaaDwv
import Derived.Test.YtegdokchkblpiaaLntE
import Derived.Test.YtegdokchkblpiaaTreP
namespace Go.Proofs.Ytegdokchkblpiaa
open Go.RowKit Go.Deep
set_option linter.unusedVariables false
set_option linter.unusedSimpArgs false

def nodeK (kind : Int) (id : ByteArray) (kids : List Int) : Nd := { zNd with kind := kind, id := id, kids := kids }
/-- the tree of the example -/
def knT : List Nd := [nodeK 6 ⟨#[97]⟩ [1], nodeK 3 ByteArray.empty [2], nodeK 6 ⟨#[98]⟩ [3], nodeK 1 ByteArray.empty []]
def knB (i j : Nat) : Int := if i = 2 ∧ j = 10 then 10 else if i = 2 ∧ j = 11 then 4 else if i = 3 ∧ j = 2 then 10 else if i = 3 ∧ j = 3 then 9 else 0
theorem knT_check : (checkT knT).1 = 0 := by decide +kernel
theorem knT_above : aboveR knT 3 = [2, 0] := by decide +kernel
theorem knT_most2 : mostR knT 4 knB 2 = (0, 5, 0) := by decide +kernel
theorem knT_most3 : mostR knT 4 knB 3 = (0, 0, 150) := by decide +kernel
theorem knT_most0 (bx : Nat → Nat → Int) : mostR knT 3 bx 2 = (0, 0, 2) := by
  unfold mostR
  rw [if_neg (by rw [knT_check]; simp), if_pos (by decide)]
theorem knT_carry : carryR knT knT [(1, 0), (2, 0), (3, 0), (4, 0)] = [(1, 0), (0, 0), (3, 0), (0, 0)] := by decide +kernel
end Go.Proofs.Ytegdokchkblpiaa
